/- How many bytes each node has (stream.Sizes). -/
import Derived.Test.YtlclllkjnhgbjaaBv
import Derived.Test.YtlclllkjnhgbjaaBu
namespace Go.Proofs.Ytlclllkjnhgbjaa
open Go.RowKit
set_option linter.unusedVariables false
set_option linter.unusedSimpArgs false


/-- How many bytes each node has. -/
def pszF : Nat → List UInt8 → Option (List Nat)
  | 0, s => if s = [] then some [] else none
  | f + 1, s => if s = [] then some [] else match nodeSize s with
    | none => none
    | some z => if s.length < z then none else (pszF f (s.drop z)).map (z :: ·)
def psz (s : List UInt8) : Option (List Nat) := pszF s.length s
theorem nodeSize_pos {s : List UInt8} {z : Nat} (h : nodeSize s = some z) : 1 ≤ z ∧ z ≤ 1048576 + 9 := by
  unfold nodeSize at h
  split at h
  · rename_i hc
    injection h with h
    have h9 := (ntake_size s).2.1
    have h1 := (ntake_size s).2.2 hc.1
    omega
  · cases h
theorem pszF_more : ∀ (f g : Nat) (s : List UInt8), s.length ≤ f → s.length ≤ g → pszF f s = pszF g s
  | 0, g, s, h, _ => by
    have : s = [] := List.length_eq_zero_iff.1 (by omega)
    subst this
    cases g <;> simp [pszF]
  | f + 1, 0, s, _, h => by
    have : s = [] := List.length_eq_zero_iff.1 (by omega)
    subst this
    simp [pszF]
  | f + 1, g + 1, s, h, k => by
    rw [pszF, pszF]
    by_cases h0 : s = []
    · rw [if_pos h0, if_pos h0]
    rw [if_neg h0, if_neg h0]
    cases hz : nodeSize s with
    | none => rfl
    | some z =>
      have := (nodeSize_pos hz).1
      show (if _ then _ else _) = (if _ then _ else _)
      by_cases hl : s.length < z
      · rw [if_pos hl, if_pos hl]
      · rw [if_neg hl, if_neg hl, pszF_more f g (s.drop z) (by rw [List.length_drop]; omega) (by rw [List.length_drop]; omega)]
theorem psz_nil : psz [] = some [] := rfl
theorem psz_none {s : List UInt8} (h : s ≠ []) (hz : nodeSize s = none) : psz s = none := by
  unfold psz
  cases hs : s.length with
  | zero => exact absurd (List.length_eq_zero_iff.1 hs) h
  | succ f => rw [pszF, if_neg h, hz]
theorem psz_short {s : List UInt8} {z : Nat} (h : s ≠ []) (hz : nodeSize s = some z) (hl : s.length < z) : psz s = none := by
  unfold psz
  cases hs : s.length with
  | zero => exact absurd (List.length_eq_zero_iff.1 hs) h
  | succ f => rw [pszF, if_neg h, hz]; simp only; rw [if_pos hl]
theorem psz_step {s : List UInt8} {z : Nat} (h : s ≠ []) (hz : nodeSize s = some z) (hl : z ≤ s.length) : psz s = (psz (s.drop z)).map (z :: ·) := by
  have h1 := (nodeSize_pos hz).1
  unfold psz
  cases hs : s.length with
  | zero => exact absurd (List.length_eq_zero_iff.1 hs) h
  | succ f =>
    rw [pszF, if_neg h, hz]
    simp only
    rw [if_neg (by omega), pszF_more f _ (s.drop z) (by rw [List.length_drop]; omega) (Nat.le_refl _)]
theorem map_app {o : Option (List Nat)} (acc : List Nat) (z : Nat) : (o.map (z :: ·)).map (acc ++ ·) = o.map ((acc ++ [z]) ++ ·) := by
  cases o with
  | none => rfl
  | some l => simp
def pszErr (s : List UInt8) : Int := if (psz s).isSome then 0 else 15
def pszL (s : List UInt8) : List Nat := (psz s).getD []
abbrev vNat (l : List Nat) : List Value := l.map fun (z : Nat) => Value.int .i64 z

set_option maxRecDepth 100000 in
set_option maxHeartbeats 4000000 in
theorem ssizes_any (s : List UInt8) (w : World) (hsl : s.length ≤ 1000001) :
    Calls Try.prog 23 #[.string ⟨s.toArray⟩] w fun e w' => ∃ (A : Option Addr) (c : Nat), e = .returned (.tuple #[.slice A (pszL s).length c, .int .i64 (pszErr s)]) ∧ Bel w w' ∧ w'.ownsRow w.heap.size 3 1 (.slice A (pszL s).length c) (pszL s).length (vNat (pszL s)) := by
  have H := Lib.hid ((SL.start No w).addNil 3 1)
  (try simp only [List.set_cons_zero, List.set_cons_succ, List.cons_append, List.nil_append, List.eraseIdx_cons_zero, List.eraseIdx_cons_succ, List.setIfInBounds_toArray, World.size_alloc, selR, List.getD_cons_zero, List.getD_cons_succ] at H)
  have HP : Hid (psz s = (psz s).map ([] ++ ·)) := by show _ = _; cases psz s <;> rfl
  go_enter Try.func23, Try.ntmps23
  go_upto_region 2 with fail
  go_loopg [4, 0] s.length (fun gg s4 s0 wr => ∃ (acc : List Nat) (r : List UInt8) (A : Option Addr) (c : Nat), gg = r.length ∧ s4 = .slice A acc.length c ∧ s0 = .string ⟨r.toArray⟩ ∧ acc.length + r.length ≤ s.length ∧ Hid (psz s = (psz r).map (acc ++ ·)) ∧ Hid (SL No w wr [rRow 3 1 (.slice A acc.length c) acc.length (vNat acc)]))
  case atStart => exact ⟨[], s, none, 0, rfl, rfl, rfl, by simp, HP, H⟩
  case round =>
    clear H HP
    obtain ⟨acc, r, A, c, hgk, rfl, rfl, hal, HP, H⟩ := hrel
    subst hgk
    cases hr : r with
    | nil =>
      subst hr
      have HL : Hid (psz s = some acc) := by show _ = _; rw [HP.out, psz_nil]; simp
      have HLL : Hid (pszL s = acc) := by show (psz s).getD [] = _; rw [HL.out]; rfl
      have HLE : Hid (pszErr s = 0) := by show (if _ then _ else _) = _; rw [HL.out]; rfl
      go_wp2_with fail
      go_ret2
      rw [HLL.out, HLE.out]
      exact ⟨A, c, rfl, H.out.to, H.out.rowB 0 rfl⟩
    | cons b r0 =>
      rw [← hr]
      have hne : r ≠ [] := by rw [hr]; simp
      have hlr : 1 ≤ r.length := by rw [hr, List.length_cons]; omega
      have d0 : r.isEmpty = false := by rw [hr]; rfl
      clear hr
      have HSZ := Lib.hid (fun w' => csize_any r w' (by omega))
      go_wp2_with fail
      refine (HSZ.out _).mono ?_; rintro e w2 ⟨rfl, hb2⟩
      replace H := Lib.hid (H.out.bel hb2); (try simp only [List.set_cons_zero, List.set_cons_succ, List.cons_append, List.nil_append, List.eraseIdx_cons_zero, List.eraseIdx_cons_succ, List.setIfInBounds_toArray, World.size_alloc, selR, List.getD_cons_zero, List.getD_cons_succ] at H)
      clear hb2 HSZ
      cases hz : nodeSize r with
      | none =>
        have HL : Hid (psz s = none) := by show _ = _; rw [HP.out, psz_none hne hz]; rfl
        have HLL : Hid (pszL s = []) := by show (psz s).getD [] = _; rw [HL.out]; rfl
        have HLE : Hid (pszErr s = 15) := by show (if _ then _ else _) = _; rw [HL.out]; rfl
        rw [show szN none = 0 from rfl, show szErr none = 15 from rfl]
        clear hz
        go_wp2_with fail
        go_ret2
        rw [HLL.out, HLE.out]
        exact ⟨none, 0, rfl, H.out.to, (H.out.addNil 3 1).rowB 1 rfl⟩
      | some z =>
        rw [show szErr (some z) = 0 from rfl, show szN (some z) = (z : Nat) from rfl]
        by_cases hzl : r.length < z
        · have HL : Hid (psz s = none) := by show _ = _; rw [HP.out, psz_short hne hz hzl]; rfl
          have HLL : Hid (pszL s = []) := by show (psz s).getD [] = _; rw [HL.out]; rfl
          have HLE : Hid (pszErr s = 15) := by show (if _ then _ else _) = _; rw [HL.out]; rfl
          have d1 : decide ((r.length : Int) < (z : Int)) = true := by simpa using hzl
          have d2 : decide (r.length < z) = true := by simpa using hzl
          clear hz hzl
          go_wp2_with fail
          go_ret2
          rw [HLL.out, HLE.out]
          exact ⟨none, 0, rfl, H.out.to, (H.out.addNil 3 1).rowB 1 rfl⟩
        have d1 : decide ((r.length : Int) < (z : Int)) = false := by simp; omega
        have d2 : decide (r.length < z) = false := by simp; omega
        have HP2 : Hid (psz s = (psz (r.drop z)).map ((acc ++ [z]) ++ ·)) := by show _ = _; rw [HP.out, psz_step hne hz (by omega), map_app]
        have hz1 := (nodeSize_pos hz).1
        have hz2 : z ≤ r.length := by omega
        have hex : (⟨r.toArray⟩ : ByteArray).extract z r.length = ⟨(r.drop z).toArray⟩ := by rw [str_extract, List.take_of_length_le (by rw [List.length_drop]; omega)]
        have z0 : (0 : Int) ≤ z := by omega
        have z1 : (z : Int) ≤ r.length := by omega
        clear hz hzl HP
        go_upto_region 6 with fail
        clear d1 d2 d0
        refine wp_region_held_drew (S := fun _ => True) (by kernel_rfl) trivial (fun hHeld => ?_)
        replace H := Lib.hid (H.out.drew); (try simp only [List.set_cons_zero, List.set_cons_succ, List.cons_append, List.nil_append, List.eraseIdx_cons_zero, List.eraseIdx_cons_succ, List.setIfInBounds_toArray, World.size_alloc, selR, List.getD_cons_zero, List.getD_cons_succ] at H)
        generalize World.drew _ = w8 at *
        refine wpAnyH_take (i := 0) (v := ?vq22_0) (get_o0) (by kernel_rfl) (by kernel_rfl) (by kernel_rfl) (by exact fun _ _ _ h => h) (Or.inl ⟨by rfl, ?hyq22_0⟩) (by assumption) ?_
        case hyq22_0 => (intro w hSw; (try dsimp only at hSw); go_simp) <;> with_reducible rfl
        try simp only [Act.put, List.setIfInBounds_toArray, List.set_cons_zero, List.set_cons_succ]
        refine wpAnyH_take (i := 1) (v := ?vq22_1) (get_os (get_o0)) (by kernel_rfl) (by kernel_rfl) (by kernel_rfl) (by exact fun _ _ _ h => h) (Or.inl ⟨by rfl, ?hyq22_1⟩) (by assumption) ?_
        case hyq22_1 => (intro w hSw; (try dsimp only at hSw); go_simp) <;> with_reducible rfl
        try simp only [Act.put, List.setIfInBounds_toArray, List.set_cons_zero, List.set_cons_succ]
        refine wpAnyH_take (i := 4) (v := ?vq22_4) (get_os (get_os (get_os (get_os (get_o0))))) (by kernel_rfl) (by kernel_rfl) (by kernel_rfl) (by exact fun _ _ _ h => h) (Or.inl ⟨by rfl, ?hyq22_4⟩) (by assumption) ?_
        case hyq22_4 => (intro w hSw; (try dsimp only at hSw); go_simp) <;> with_reducible rfl
        try simp only [Act.put, List.setIfInBounds_toArray, List.set_cons_zero, List.set_cons_succ]
        refine wpAnyH_take (i := 5) (v := ?vq22_5) (get_os (get_os (get_os (get_os (get_os (get_o0)))))) (by kernel_rfl) (by kernel_rfl) (by kernel_rfl) (by exact fun _ _ _ h => h) (Or.inl ⟨by rfl, ?hyq22_5⟩) (by assumption) ?_
        case hyq22_5 => (intro w hSw; (try dsimp only at hSw); go_simp) <;> with_reducible rfl
        try simp only [Act.put, List.setIfInBounds_toArray, List.set_cons_zero, List.set_cons_succ]
        refine wpAnyH_take (i := 6) (v := ?vq22_6) (get_os (get_os (get_os (get_os (get_os (get_os (get_o0))))))) (by kernel_rfl) (by kernel_rfl) (by kernel_rfl) (by exact fun _ _ _ h => h) (Or.inl ⟨by rfl, ?hyq22_6⟩) (by assumption) ?_
        case hyq22_6 => (intro w hSw; (try dsimp only at hSw); go_simp) <;> with_reducible rfl
        try simp only [Act.put, List.setIfInBounds_toArray, List.set_cons_zero, List.set_cons_succ]
        refine wpAnyH_ready (rs := [2]) (by kernel_rfl) (by simp) ?_
        refine (AllReadyH.cons (get_os (get_os (get_o0))) (fun KK hKK => ?_) AllReadyH.nil)
        refine step_buildSlice1v rfl E_num (.tmp 23) rfl (.int .i64 z) rfl #[.int .i64 z] rfl rfl (by omega) ?_
        replace H := Lib.hid (H.out.alloc #[.int .i64 z] 3); (try simp only [List.set_cons_zero, List.set_cons_succ, List.cons_append, List.nil_append, List.eraseIdx_cons_zero, List.eraseIdx_cons_succ, List.setIfInBounds_toArray, World.size_alloc, selR, List.getD_cons_zero, List.getD_cons_succ] at H)
        refine hKK.out _ _ trivial (fun hHeld => ?_)
        clear hKK KK
        try simp only [Act.put, List.setIfInBounds_toArray, List.set_cons_zero, List.set_cons_succ]
        refine wpAnyH_ready (rs := [3]) (by kernel_rfl) (by simp) ?_
        refine (AllReadyH.cons (get_os (get_os (get_os (get_o0)))) (fun KK hKK => ?_) AllReadyH.nil)
        refine step_append0 rfl (.tmp 22) (.tmp 24) _ rfl E_num 0 (Nat.zero_le _) _ acc.length _ rfl (H.out.row 0 rfl) _ 1 1 [.int .i64 z] rfl (reads_of_block (H.out.blk 1 rfl) rfl) (by simp [Value.oneCell']) (by unfold maxLen; omega) (by omega) ?_
        intro vq wq howq hgq hatq
        replace H := Lib.hid (H.out.setRow 0 rfl hgq howq hatq); (try simp only [List.set_cons_zero, List.set_cons_succ, List.cons_append, List.nil_append, List.eraseIdx_cons_zero, List.eraseIdx_cons_succ, List.setIfInBounds_toArray, World.size_alloc, selR, List.getD_cons_zero, List.getD_cons_succ] at H)
        clear howq hgq hatq
        obtain ⟨A2, c2, rfl, _⟩ := own_slice (H.out.row 0 rfl)
        refine hKK.out _ _ trivial (fun hHeld => ?_)
        clear hKK KK
        try simp only [Act.put, List.setIfInBounds_toArray, List.set_cons_zero, List.set_cons_succ]
        refine wpAnyH_take (i := 7) (v := ?vq23_) (get_os (get_os (get_os (get_os (get_os (get_os (get_os (get_o0)))))))) (by kernel_rfl) (by kernel_rfl) (by kernel_rfl) (by exact fun _ _ _ h => h) (Or.inl ⟨by rfl, ?hyq23_⟩) (by assumption) ?_
        case hyq23_ => (intro w hSw; (try dsimp only at hSw); go_simp) <;> with_reducible rfl
        try simp only [Act.put, List.setIfInBounds_toArray, List.set_cons_zero, List.set_cons_succ]
        refine wpAnyH_take (i := 8) (v := ?vq24_) (get_os (get_os (get_os (get_os (get_os (get_os (get_os (get_os (get_o0))))))))) (by kernel_rfl) (by kernel_rfl) (by kernel_rfl) (by exact fun _ _ _ h => h) (Or.inl ⟨by rfl, ?hyq24_⟩) (by assumption) ?_
        case hyq24_ => (intro w hSw; (try dsimp only at hSw); go_simp) <;> with_reducible rfl
        try simp only [Act.put, List.setIfInBounds_toArray, List.set_cons_zero, List.set_cons_succ]
        refine wpAnyH_done (by kernel_rfl) ?_ _
        clear hHeld
        replace H := Lib.hid (H.out.sel [0] (by decide) (by simp)); (try simp only [List.set_cons_zero, List.set_cons_succ, List.cons_append, List.nil_append, List.eraseIdx_cons_zero, List.eraseIdx_cons_succ, List.setIfInBounds_toArray, World.size_alloc, selR, List.getD_cons_zero, List.getD_cons_succ] at H)
        have HN2 : Hid (acc.length + 1 = (acc ++ [z]).length) := by show _ = _; rw [List.length_append]; rfl
        have HV2 : Hid (vNat acc ++ [Value.int .i64 z] = vNat (acc ++ [z])) := by show _ = _; simp [vNat]
        rw [HN2.out, HV2.out] at H
        rw [HN2.out]
        go_wp2_with fail
        go_roundg (r.length - z)
        case rel => exact ⟨acc ++ [z], r.drop z, A2, c2, by rw [List.length_drop], rfl, rfl, by rw [List.length_append, List.length_drop]; show acc.length + 1 + _ ≤ _; omega, HP2, H⟩
        case measure => omega

end Go.Proofs.Ytlclllkjnhgbjaa
