/- ask.Take. -/
import Derived.Test.YtigjghfonpfdlaaAskR
import Derived.Test.YtigjghfonpfdlaaAskC
import Derived.Test.YtigjghfonpfdlaaSchA
namespace Go.Proofs.Ytigjghfonpfdlaa
open Go.RowKit
set_option linter.unusedVariables false
set_option linter.unusedSimpArgs false

theorem pk1_one (D : Pk) : ∀ u ∈ ([.int .i64 D.f, .int .i64 D.t, .string ⟨D.lo.toArray⟩, .string ⟨D.hi.toArray⟩, .slice D.set.A D.set.n D.set.c, .bool D.g, .int .i64 D.by_] : List Value), u.oneCell' = true := by simp [Value.oneCell']
/-- The picks read, and the reader. -/
def Rask (w0 : World) (s : List UInt8) (B g z y : Nat) (d : Sch) (o : PR (List PC)) (k : Int) (w' : World) : Prop :=
  k = endErr o ∧ ∃ (X : Row Pk) (q : List UInt8), SL No w0 w' (rAll B s q [rBlk g 30 #[.slice X.A X.n X.c], rRow 33 7 (.slice X.A X.n X.c) X.n (X.l.flatMap Cel.cells), rList rPk X.l, rBlk z 25 d.cs, rBlk y 30 #[.slice none 0 0]]) ∧ X.n ≤ 16 ∧ ∀ rows r, o = .ok (rows, r) → X.l.map Pk.con = rows
set_option maxRecDepth 100000 in
set_option maxHeartbeats 2000000 in
theorem asktake1_any (w0 : World) (B g z y : Nat) (s : List UInt8) (d : Sch) (w : World) (hn : d.dm.n ≤ 16) (h : SL No w0 w (rAll B s s [rBlk g 30 #[.slice none 0 0], rRow 33 7 (.slice none 0 0) 0 (([] : List Pk).flatMap Cel.cells), rList rPk ([] : List Pk), rBlk z 25 d.cs, rBlk y 30 #[.slice none 0 0]])) :
    Calls Try.prog 64 #[.pointer (some ⟨B + 1, 0, none⟩), .pointer (some ⟨z, 0, none⟩), .pointer (some ⟨g, 0, none⟩)] w (AllPost B s (Rask w0 s B g z y d (ppicks d.dm.n s))) := by
  have H : Hid (SL No w0 w [rRdr (B + 1) s s, rBlk B 43 #[.int .i64 0], rBlk (B + 2) 114 #[.pointer (some ⟨B + 1, 0, none⟩)], rBlk g 30 #[.slice none 0 0], rRow 33 7 (.slice none 0 0) 0 (([] : List Pk).flatMap Cel.cells), rList rPk ([] : List Pk), rBlk z 25 d.cs, rBlk y 30 #[.slice none 0 0]]) := h
  clear h
  obtain ⟨⟨DA, n, cn, ds⟩, ⟨MB, m, cm, ms⟩⟩ := d
  simp only [Sch.cs] at *
  go_enter Try.func64, Try.ntmps64
  have cc0 := (H.out.blk 6 rfl).cell 0; simp only [List.getElem?_toArray, List.getElem?_cons_zero, List.getElem?_cons_succ] at cc0
  go_wp2_with fail
  clear cc0
  have HP : Hid (pmany ppick n [] s = pmany ppick (n - 0) (([] : List Pk).map Pk.con) s) := rfl
  go_loopg [7] n (fun gg s6 wr => ∃ (k : Nat) (rows : List Pk) (A : Option Addr) (c : Nat) (l' : List UInt8), gg = n - k ∧ k ≤ n ∧ s6 = .int .i64 k ∧ Hid (rows.length = k) ∧ Hid (SL No w0 wr [rRdr (B + 1) s l', rBlk B 43 #[.int .i64 0], rBlk (B + 2) 114 #[.pointer (some ⟨B + 1, 0, none⟩)], rBlk g 30 #[.slice A k c], rRow 33 7 (.slice A k c) k (rows.flatMap Cel.cells), rList rPk rows, rBlk z 25 #[.slice DA n cn, .slice MB m cm], rBlk y 30 #[.slice none 0 0]]) ∧ Hid (pmany ppick n [] s = pmany ppick (n - k) (rows.map Pk.con) l'))
  case atStart => exact ⟨0, [], none, 0, s, rfl, by omega, rfl, rfl, H, HP⟩
  case round =>
    clear H HP
    obtain ⟨k, rows, A, c, l', hgk, hk, rfl, hac, H, HP⟩ := hrel
    have Hgk := Lib.hid hgk
    have hk16 : k ≤ 16 := by omega
    clear hgk
    by_cases hlt : k < n
    · have HN := Lib.hid (HP.out.trans (pmany_step hlt))
      have HA := Lib.hid (fun w (hr : Rdr w (B + 1) s l') => pkread_any (B + 1) s l' w hr)
      clear HP
      go_upto_region 2 with fail
      cases hx : ppick l' with
      | error e1 =>
        rw [hx] at HA HN
        clear hx
        refine wp_region_held_drew (S := fun _ => True) (by kernel_rfl) trivial (fun hHeld => ?_)
        replace H := Lib.hid (H.out.drew); (try simp only [List.set_cons_zero, List.set_cons_succ, List.cons_append, List.nil_append, List.eraseIdx_cons_zero, List.eraseIdx_cons_succ, List.setIfInBounds_toArray, World.size_alloc, selR, List.getD_cons_zero, List.getD_cons_succ] at H)
        refine wpAnyH_take (i := 0) (v := ?vq1_0) (get_o0) (by kernel_rfl) (by kernel_rfl) (by kernel_rfl) (by exact fun _ _ _ h => h) (Or.inl ⟨by rfl, ?hyq1_0⟩) (by assumption) ?_
        case hyq1_0 => (intro w hSw; (try dsimp only at hSw); go_simp) <;> with_reducible rfl
        try simp only [Act.put, List.setIfInBounds_toArray, List.set_cons_zero, List.set_cons_succ]
        refine wpAnyH_take (i := 2) (v := ?vq1_2) (get_os (get_os (get_o0))) (by kernel_rfl) (by kernel_rfl) (by kernel_rfl) (by exact fun _ _ _ h => h) (Or.inl ⟨by rfl, ?hyq1_2⟩) (by assumption) ?_
        case hyq1_2 => (intro w hSw; (try dsimp only at hSw); go_simp) <;> with_reducible rfl
        try simp only [Act.put, List.setIfInBounds_toArray, List.set_cons_zero, List.set_cons_succ]
        refine wpAnyH_ready (rs := [1, 3]) (by kernel_rfl) (by simp) ?_
        refine (AllReadyH.cons (get_os (get_o0)) (fun KK hKK => ?_) (AllReadyH.cons (get_os (get_os (get_os (get_o0)))) (fun KK hKK => ?_) AllReadyH.nil))
        · have c1 := (H.out.blk 3 rfl).cell 0; simp only [List.getElem?_toArray, List.getElem?_cons_zero, List.getElem?_cons_succ] at c1
          go_simp
          clear c1
          refine hKK.out _ _ trivial (fun hHeld => ?_)
          clear hKK KK
          try simp only [Act.put, List.setIfInBounds_toArray, List.set_cons_zero, List.set_cons_succ]
          refine wpAnyH_ready (rs := [3]) (by kernel_rfl) (by simp) ?_
          refine (AllReadyH.cons (get_os (get_os (get_os (get_o0)))) (fun KK hKK => ?_) AllReadyH.nil)
          go_simp
          refine (HA.out _ (H.out.rdr 0 rfl)).mono ?_; rintro e' w3 ⟨rfl, hg3, l3, hr3⟩
          replace H := Lib.hid (H.out.setRdr 0 rfl hg3 hr3); (try simp only [List.set_cons_zero, List.set_cons_succ, List.cons_append, List.nil_append, List.eraseIdx_cons_zero, List.eraseIdx_cons_succ, List.setIfInBounds_toArray, World.size_alloc, selR, List.getD_cons_zero, List.getD_cons_succ] at H)
          refine ⟨rfl, ?_⟩
          have H9 : SL No w0 _ (rAll B s l3 [rBlk g 30 #[.slice A k c], rRow 33 7 (.slice A k c) k (rows.flatMap Cel.cells), rList rPk rows, rBlk z 25 #[.slice DA n cn, .slice MB m cm], rBlk y 30 #[.slice none 0 0]]) := H.out
          exact SL.err H9 ⟨by rw [show ppicks n s = .error e1 from HN.out]; rfl, ⟨A, k, c, rows⟩, l3, H9, by show k ≤ 16; omega, fun _ _ h => by rw [show ppicks n s = .error e1 from HN.out] at h; cases h⟩
        · go_simp
          refine (HA.out _ (H.out.rdr 0 rfl)).mono ?_; rintro e' w3 ⟨rfl, hg3, l3, hr3⟩
          replace H := Lib.hid (H.out.setRdr 0 rfl hg3 hr3); (try simp only [List.set_cons_zero, List.set_cons_succ, List.cons_append, List.nil_append, List.eraseIdx_cons_zero, List.eraseIdx_cons_succ, List.setIfInBounds_toArray, World.size_alloc, selR, List.getD_cons_zero, List.getD_cons_succ] at H)
          refine ⟨rfl, ?_⟩
          have H9 : SL No w0 _ (rAll B s l3 [rBlk g 30 #[.slice A k c], rRow 33 7 (.slice A k c) k (rows.flatMap Cel.cells), rList rPk rows, rBlk z 25 #[.slice DA n cn, .slice MB m cm], rBlk y 30 #[.slice none 0 0]]) := H.out
          exact SL.err H9 ⟨by rw [show ppicks n s = .error e1 from HN.out]; rfl, ⟨A, k, c, rows⟩, l3, H9, by show k ≤ 16; omega, fun _ _ h => by rw [show ppicks n s = .error e1 from HN.out] at h; cases h⟩
      | ok q =>
        obtain ⟨rc, l3⟩ := q
        rw [hx] at HA HN
        have HN : Hid (pmany ppick n [] s = pmany ppick (n - (k + 1)) (rows.map Pk.con ++ [rc]) l3) := HN.out
        clear hx
        refine wp_region_held_drew (S := fun _ => True) (by kernel_rfl) trivial (fun hHeld => ?_)
        replace H := Lib.hid (H.out.drew); (try simp only [List.set_cons_zero, List.set_cons_succ, List.cons_append, List.nil_append, List.eraseIdx_cons_zero, List.eraseIdx_cons_succ, List.setIfInBounds_toArray, World.size_alloc, selR, List.getD_cons_zero, List.getD_cons_succ] at H)
        refine wpAnyH_take (i := 0) (v := ?vq2_0) (get_o0) (by kernel_rfl) (by kernel_rfl) (by kernel_rfl) (by exact fun _ _ _ h => h) (Or.inl ⟨by rfl, ?hyq2_0⟩) (by assumption) ?_
        case hyq2_0 => (intro w hSw; (try dsimp only at hSw); go_simp) <;> with_reducible rfl
        try simp only [Act.put, List.setIfInBounds_toArray, List.set_cons_zero, List.set_cons_succ]
        refine wpAnyH_take (i := 2) (v := ?vq2_2) (get_os (get_os (get_o0))) (by kernel_rfl) (by kernel_rfl) (by kernel_rfl) (by exact fun _ _ _ h => h) (Or.inl ⟨by rfl, ?hyq2_2⟩) (by assumption) ?_
        case hyq2_2 => (intro w hSw; (try dsimp only at hSw); go_simp) <;> with_reducible rfl
        try simp only [Act.put, List.setIfInBounds_toArray, List.set_cons_zero, List.set_cons_succ]
        refine wpAnyH_ready (rs := [1, 3]) (by kernel_rfl) (by simp) ?_
        refine (AllReadyH.cons (get_os (get_o0)) (fun KK hKK => ?_) (AllReadyH.cons (get_os (get_os (get_os (get_o0)))) (fun KK hKK => ?_) AllReadyH.nil))
        · have c1 := (H.out.blk 3 rfl).cell 0; simp only [List.getElem?_toArray, List.getElem?_cons_zero, List.getElem?_cons_succ] at c1
          go_simp
          clear c1
          refine hKK.out _ _ trivial (fun hHeld => ?_)
          clear hKK KK
          try simp only [Act.put, List.setIfInBounds_toArray, List.set_cons_zero, List.set_cons_succ]
          refine wpAnyH_ready (rs := [3]) (by kernel_rfl) (by simp) ?_
          refine (AllReadyH.cons (get_os (get_os (get_os (get_o0)))) (fun KK hKK => ?_) AllReadyH.nil)
          go_simp
          refine (HA.out _ (H.out.rdr 0 rfl)).mono ?_; rintro e' w3 ⟨D, rfl, hDc, hg3, hr3, hnew⟩
          replace H := Lib.hid (H.out.setRdrAdd 0 rfl hg3 hr3 (rPk D) hnew.1 hnew.2); (try simp only [List.set_cons_zero, List.set_cons_succ, List.cons_append, List.nil_append, List.eraseIdx_cons_zero, List.eraseIdx_cons_succ, List.setIfInBounds_toArray, World.size_alloc, selR, List.getD_cons_zero, List.getD_cons_succ] at H)
          have HDc := Lib.hid hDc
          clear hg3 hr3 hnew hDc
          refine hKK.out _ _ trivial (fun hHeld => ?_)
          clear hKK KK
          try simp only [Act.put, List.setIfInBounds_toArray, List.set_cons_zero, List.set_cons_succ]
          refine wpAnyH_ready (rs := [4]) (by kernel_rfl) (by simp) ?_
          refine (AllReadyH.cons (get_os (get_os (get_os (get_os (get_o0))))) (fun KK hKK => ?_) AllReadyH.nil)
          refine step_buildSlice1 rfl E_pk (.tmp 12) rfl (D.cs) rfl rfl (by omega) ?_
          replace H := Lib.hid (H.out.addRow ((Bel.refl _).alloc _) (own_made _ 33 (D.cs) _ rfl)); (try simp only [List.set_cons_zero, List.set_cons_succ, List.cons_append, List.nil_append, List.eraseIdx_cons_zero, List.eraseIdx_cons_succ, List.setIfInBounds_toArray, World.size_alloc, selR, List.getD_cons_zero, List.getD_cons_succ] at H)
          refine hKK.out _ _ trivial (fun hHeld => ?_)
          clear hKK KK
          try simp only [Act.put, List.setIfInBounds_toArray, List.set_cons_zero, List.set_cons_succ]
          refine wpAnyH_ready (rs := [5]) (by kernel_rfl) (by simp) ?_
          refine (AllReadyH.cons (get_os (get_os (get_os (get_os (get_os (get_o0)))))) (fun KK hKK => ?_) AllReadyH.nil)
          refine step_append0 rfl (.tmp 10) (.tmp 13) _ rfl E_pk 0 (Nat.zero_le _) _ k _ rfl (H.out.row 4 rfl) _ 1 1 _ rfl (Rd.of_own (H.out.row 9 rfl)) (pk1_one D) (by unfold maxLen; omega) (by omega) ?_
          intro vq wq howq hgq hatq
          replace H := Lib.hid (H.out.setRow 4 rfl hgq howq hatq); (try simp only [List.set_cons_zero, List.set_cons_succ, List.cons_append, List.nil_append, List.eraseIdx_cons_zero, List.eraseIdx_cons_succ, List.setIfInBounds_toArray, World.size_alloc, selR, List.getD_cons_zero, List.getD_cons_succ] at H)
          clear howq hgq hatq
          obtain ⟨A2, c2, rfl, _⟩ := own_slice (H.out.row 4 rfl)
          refine hKK.out _ _ trivial (fun hHeld => ?_)
          clear hKK KK
          try simp only [Act.put, List.setIfInBounds_toArray, List.set_cons_zero, List.set_cons_succ]
          refine wpAnyH_ready (rs := [6]) (by kernel_rfl) (by simp) ?_
          refine (AllReadyH.cons (get_os (get_os (get_os (get_os (get_os (get_os (get_o0))))))) (fun KK hKK => ?_) AllReadyH.nil)
          go_simp
          refine hKK.out _ _ trivial (fun hHeld => ?_)
          clear hKK KK
          try simp only [Act.put, List.setIfInBounds_toArray, List.set_cons_zero, List.set_cons_succ]
          refine wpAnyH_ready (rs := [7]) (by kernel_rfl) (by simp) ?_
          refine (AllReadyH.cons (get_os (get_os (get_os (get_os (get_os (get_os (get_os (get_o0)))))))) (fun KK hKK => ?_) AllReadyH.nil)
          have c1 := (H.out.blk 3 rfl).cell 0; simp only [List.getElem?_toArray, List.getElem?_cons_zero, List.getElem?_cons_succ] at c1; have f1 := (H.out.blk 3 rfl).frozen 0
          go_simp
          replace H := Lib.hid (H.out.setCell 3 rfl 0 (.slice A2 (k + 1) c2)); (try simp only [List.set_cons_zero, List.set_cons_succ, List.cons_append, List.nil_append, List.eraseIdx_cons_zero, List.eraseIdx_cons_succ, List.setIfInBounds_toArray, World.size_alloc, selR, List.getD_cons_zero, List.getD_cons_succ] at H)
          clear c1 f1
          refine hKK.out _ _ trivial (fun hHeld => ?_)
          clear hKK KK
          try simp only [Act.put, List.setIfInBounds_toArray, List.set_cons_zero, List.set_cons_succ]
          refine wpAnyH_done (by kernel_rfl) ?_ _
          clear hHeld
          replace H := Lib.hid (H.out.both 5 8 (by omega) rfl rfl (rList rPk (rows ++ [D])) (holds_list_snoc (H.out.get 5 rfl) (H.out.get 8 rfl)) list_snoc_D); (try simp only [List.set_cons_zero, List.set_cons_succ, List.cons_append, List.nil_append, List.eraseIdx_cons_zero, List.eraseIdx_cons_succ, List.setIfInBounds_toArray, World.size_alloc, selR, List.getD_cons_zero, List.getD_cons_succ] at H)
          replace H := Lib.hid (H.out.sel [0, 1, 2, 3, 4, 5, 6, 7] (by decide) (by simp)); (try simp only [List.set_cons_zero, List.set_cons_succ, List.cons_append, List.nil_append, List.eraseIdx_cons_zero, List.eraseIdx_cons_succ, List.setIfInBounds_toArray, World.size_alloc, selR, List.getD_cons_zero, List.getD_cons_succ] at H)
          have HN2 : Hid (pmany ppick n [] s = pmany ppick (n - (k + 1)) ((rows ++ [D]).map Pk.con) l3) := by show _ = _; rw [HN.out, List.map_append, List.map_cons, List.map_nil, HDc.out]
          go_wp2_with fail
          go_roundg (n - (k + 1))
          case rel => exact ⟨k + 1, rows ++ [D], A2, c2, l3, rfl, by omega, by go_num, by show _ = _; rw [List.length_append, hac.out]; rfl, by rw [List.flatMap_append, List.flatMap_cons, List.flatMap_nil, List.append_nil]; exact H, HN2⟩
          case measure => rw [Hgk.out]; omega
        · go_simp
          refine (HA.out _ (H.out.rdr 0 rfl)).mono ?_; rintro e' w3 ⟨D, rfl, hDc, hg3, hr3, hnew⟩
          replace H := Lib.hid (H.out.setRdrAdd 0 rfl hg3 hr3 (rPk D) hnew.1 hnew.2); (try simp only [List.set_cons_zero, List.set_cons_succ, List.cons_append, List.nil_append, List.eraseIdx_cons_zero, List.eraseIdx_cons_succ, List.setIfInBounds_toArray, World.size_alloc, selR, List.getD_cons_zero, List.getD_cons_succ] at H)
          have HDc := Lib.hid hDc
          clear hg3 hr3 hnew hDc
          refine hKK.out _ _ trivial (fun hHeld => ?_)
          clear hKK KK
          try simp only [Act.put, List.setIfInBounds_toArray, List.set_cons_zero, List.set_cons_succ]
          refine wpAnyH_ready (rs := [1, 4]) (by kernel_rfl) (by simp) ?_
          refine (AllReadyH.cons (get_os (get_o0)) (fun KK hKK => ?_) (AllReadyH.cons (get_os (get_os (get_os (get_os (get_o0))))) (fun KK hKK => ?_) AllReadyH.nil))
          · have c1 := (H.out.blk 3 rfl).cell 0; simp only [List.getElem?_toArray, List.getElem?_cons_zero, List.getElem?_cons_succ] at c1
            go_simp
            clear c1
            refine hKK.out _ _ trivial (fun hHeld => ?_)
            clear hKK KK
            try simp only [Act.put, List.setIfInBounds_toArray, List.set_cons_zero, List.set_cons_succ]
            refine wpAnyH_ready (rs := [4]) (by kernel_rfl) (by simp) ?_
            refine (AllReadyH.cons (get_os (get_os (get_os (get_os (get_o0))))) (fun KK hKK => ?_) AllReadyH.nil)
            refine step_buildSlice1 rfl E_pk (.tmp 12) rfl (D.cs) rfl rfl (by omega) ?_
            replace H := Lib.hid (H.out.addRow ((Bel.refl _).alloc _) (own_made _ 33 (D.cs) _ rfl)); (try simp only [List.set_cons_zero, List.set_cons_succ, List.cons_append, List.nil_append, List.eraseIdx_cons_zero, List.eraseIdx_cons_succ, List.setIfInBounds_toArray, World.size_alloc, selR, List.getD_cons_zero, List.getD_cons_succ] at H)
            refine hKK.out _ _ trivial (fun hHeld => ?_)
            clear hKK KK
            try simp only [Act.put, List.setIfInBounds_toArray, List.set_cons_zero, List.set_cons_succ]
            refine wpAnyH_ready (rs := [5]) (by kernel_rfl) (by simp) ?_
            refine (AllReadyH.cons (get_os (get_os (get_os (get_os (get_os (get_o0)))))) (fun KK hKK => ?_) AllReadyH.nil)
            refine step_append0 rfl (.tmp 10) (.tmp 13) _ rfl E_pk 0 (Nat.zero_le _) _ k _ rfl (H.out.row 4 rfl) _ 1 1 _ rfl (Rd.of_own (H.out.row 9 rfl)) (pk1_one D) (by unfold maxLen; omega) (by omega) ?_
            intro vq wq howq hgq hatq
            replace H := Lib.hid (H.out.setRow 4 rfl hgq howq hatq); (try simp only [List.set_cons_zero, List.set_cons_succ, List.cons_append, List.nil_append, List.eraseIdx_cons_zero, List.eraseIdx_cons_succ, List.setIfInBounds_toArray, World.size_alloc, selR, List.getD_cons_zero, List.getD_cons_succ] at H)
            clear howq hgq hatq
            obtain ⟨A2, c2, rfl, _⟩ := own_slice (H.out.row 4 rfl)
            refine hKK.out _ _ trivial (fun hHeld => ?_)
            clear hKK KK
            try simp only [Act.put, List.setIfInBounds_toArray, List.set_cons_zero, List.set_cons_succ]
            refine wpAnyH_ready (rs := [6]) (by kernel_rfl) (by simp) ?_
            refine (AllReadyH.cons (get_os (get_os (get_os (get_os (get_os (get_os (get_o0))))))) (fun KK hKK => ?_) AllReadyH.nil)
            go_simp
            refine hKK.out _ _ trivial (fun hHeld => ?_)
            clear hKK KK
            try simp only [Act.put, List.setIfInBounds_toArray, List.set_cons_zero, List.set_cons_succ]
            refine wpAnyH_ready (rs := [7]) (by kernel_rfl) (by simp) ?_
            refine (AllReadyH.cons (get_os (get_os (get_os (get_os (get_os (get_os (get_os (get_o0)))))))) (fun KK hKK => ?_) AllReadyH.nil)
            have c1 := (H.out.blk 3 rfl).cell 0; simp only [List.getElem?_toArray, List.getElem?_cons_zero, List.getElem?_cons_succ] at c1; have f1 := (H.out.blk 3 rfl).frozen 0
            go_simp
            replace H := Lib.hid (H.out.setCell 3 rfl 0 (.slice A2 (k + 1) c2)); (try simp only [List.set_cons_zero, List.set_cons_succ, List.cons_append, List.nil_append, List.eraseIdx_cons_zero, List.eraseIdx_cons_succ, List.setIfInBounds_toArray, World.size_alloc, selR, List.getD_cons_zero, List.getD_cons_succ] at H)
            clear c1 f1
            refine hKK.out _ _ trivial (fun hHeld => ?_)
            clear hKK KK
            try simp only [Act.put, List.setIfInBounds_toArray, List.set_cons_zero, List.set_cons_succ]
            refine wpAnyH_done (by kernel_rfl) ?_ _
            clear hHeld
            replace H := Lib.hid (H.out.both 5 8 (by omega) rfl rfl (rList rPk (rows ++ [D])) (holds_list_snoc (H.out.get 5 rfl) (H.out.get 8 rfl)) list_snoc_D); (try simp only [List.set_cons_zero, List.set_cons_succ, List.cons_append, List.nil_append, List.eraseIdx_cons_zero, List.eraseIdx_cons_succ, List.setIfInBounds_toArray, World.size_alloc, selR, List.getD_cons_zero, List.getD_cons_succ] at H)
            replace H := Lib.hid (H.out.sel [0, 1, 2, 3, 4, 5, 6, 7] (by decide) (by simp)); (try simp only [List.set_cons_zero, List.set_cons_succ, List.cons_append, List.nil_append, List.eraseIdx_cons_zero, List.eraseIdx_cons_succ, List.setIfInBounds_toArray, World.size_alloc, selR, List.getD_cons_zero, List.getD_cons_succ] at H)
            have HN2 : Hid (pmany ppick n [] s = pmany ppick (n - (k + 1)) ((rows ++ [D]).map Pk.con) l3) := by show _ = _; rw [HN.out, List.map_append, List.map_cons, List.map_nil, HDc.out]
            go_wp2_with fail
            go_roundg (n - (k + 1))
            case rel => exact ⟨k + 1, rows ++ [D], A2, c2, l3, rfl, by omega, by go_num, by show _ = _; rw [List.length_append, hac.out]; rfl, by rw [List.flatMap_append, List.flatMap_cons, List.flatMap_nil, List.append_nil]; exact H, HN2⟩
            case measure => rw [Hgk.out]; omega
          · refine step_buildSlice1 rfl E_pk (.tmp 12) rfl (D.cs) rfl rfl (by omega) ?_
            replace H := Lib.hid (H.out.addRow ((Bel.refl _).alloc _) (own_made _ 33 (D.cs) _ rfl)); (try simp only [List.set_cons_zero, List.set_cons_succ, List.cons_append, List.nil_append, List.eraseIdx_cons_zero, List.eraseIdx_cons_succ, List.setIfInBounds_toArray, World.size_alloc, selR, List.getD_cons_zero, List.getD_cons_succ] at H)
            refine hKK.out _ _ trivial (fun hHeld => ?_)
            clear hKK KK
            try simp only [Act.put, List.setIfInBounds_toArray, List.set_cons_zero, List.set_cons_succ]
            refine wpAnyH_ready (rs := [1]) (by kernel_rfl) (by simp) ?_
            refine (AllReadyH.cons (get_os (get_o0)) (fun KK hKK => ?_) AllReadyH.nil)
            have c1 := (H.out.blk 3 rfl).cell 0; simp only [List.getElem?_toArray, List.getElem?_cons_zero, List.getElem?_cons_succ] at c1
            go_simp
            clear c1
            refine hKK.out _ _ trivial (fun hHeld => ?_)
            clear hKK KK
            try simp only [Act.put, List.setIfInBounds_toArray, List.set_cons_zero, List.set_cons_succ]
            refine wpAnyH_ready (rs := [5]) (by kernel_rfl) (by simp) ?_
            refine (AllReadyH.cons (get_os (get_os (get_os (get_os (get_os (get_o0)))))) (fun KK hKK => ?_) AllReadyH.nil)
            refine step_append0 rfl (.tmp 10) (.tmp 13) _ rfl E_pk 0 (Nat.zero_le _) _ k _ rfl (H.out.row 4 rfl) _ 1 1 _ rfl (Rd.of_own (H.out.row 9 rfl)) (pk1_one D) (by unfold maxLen; omega) (by omega) ?_
            intro vq wq howq hgq hatq
            replace H := Lib.hid (H.out.setRow 4 rfl hgq howq hatq); (try simp only [List.set_cons_zero, List.set_cons_succ, List.cons_append, List.nil_append, List.eraseIdx_cons_zero, List.eraseIdx_cons_succ, List.setIfInBounds_toArray, World.size_alloc, selR, List.getD_cons_zero, List.getD_cons_succ] at H)
            clear howq hgq hatq
            obtain ⟨A2, c2, rfl, _⟩ := own_slice (H.out.row 4 rfl)
            refine hKK.out _ _ trivial (fun hHeld => ?_)
            clear hKK KK
            try simp only [Act.put, List.setIfInBounds_toArray, List.set_cons_zero, List.set_cons_succ]
            refine wpAnyH_ready (rs := [6]) (by kernel_rfl) (by simp) ?_
            refine (AllReadyH.cons (get_os (get_os (get_os (get_os (get_os (get_os (get_o0))))))) (fun KK hKK => ?_) AllReadyH.nil)
            go_simp
            refine hKK.out _ _ trivial (fun hHeld => ?_)
            clear hKK KK
            try simp only [Act.put, List.setIfInBounds_toArray, List.set_cons_zero, List.set_cons_succ]
            refine wpAnyH_ready (rs := [7]) (by kernel_rfl) (by simp) ?_
            refine (AllReadyH.cons (get_os (get_os (get_os (get_os (get_os (get_os (get_os (get_o0)))))))) (fun KK hKK => ?_) AllReadyH.nil)
            have c1 := (H.out.blk 3 rfl).cell 0; simp only [List.getElem?_toArray, List.getElem?_cons_zero, List.getElem?_cons_succ] at c1; have f1 := (H.out.blk 3 rfl).frozen 0
            go_simp
            replace H := Lib.hid (H.out.setCell 3 rfl 0 (.slice A2 (k + 1) c2)); (try simp only [List.set_cons_zero, List.set_cons_succ, List.cons_append, List.nil_append, List.eraseIdx_cons_zero, List.eraseIdx_cons_succ, List.setIfInBounds_toArray, World.size_alloc, selR, List.getD_cons_zero, List.getD_cons_succ] at H)
            clear c1 f1
            refine hKK.out _ _ trivial (fun hHeld => ?_)
            clear hKK KK
            try simp only [Act.put, List.setIfInBounds_toArray, List.set_cons_zero, List.set_cons_succ]
            refine wpAnyH_done (by kernel_rfl) ?_ _
            clear hHeld
            replace H := Lib.hid (H.out.both 5 8 (by omega) rfl rfl (rList rPk (rows ++ [D])) (holds_list_snoc (H.out.get 5 rfl) (H.out.get 8 rfl)) list_snoc_D); (try simp only [List.set_cons_zero, List.set_cons_succ, List.cons_append, List.nil_append, List.eraseIdx_cons_zero, List.eraseIdx_cons_succ, List.setIfInBounds_toArray, World.size_alloc, selR, List.getD_cons_zero, List.getD_cons_succ] at H)
            replace H := Lib.hid (H.out.sel [0, 1, 2, 3, 4, 5, 6, 7] (by decide) (by simp)); (try simp only [List.set_cons_zero, List.set_cons_succ, List.cons_append, List.nil_append, List.eraseIdx_cons_zero, List.eraseIdx_cons_succ, List.setIfInBounds_toArray, World.size_alloc, selR, List.getD_cons_zero, List.getD_cons_succ] at H)
            have HN2 : Hid (pmany ppick n [] s = pmany ppick (n - (k + 1)) ((rows ++ [D]).map Pk.con) l3) := by show _ = _; rw [HN.out, List.map_append, List.map_cons, List.map_nil, HDc.out]
            go_wp2_with fail
            go_roundg (n - (k + 1))
            case rel => exact ⟨k + 1, rows ++ [D], A2, c2, l3, rfl, by omega, by go_num, by show _ = _; rw [List.length_append, hac.out]; rfl, by rw [List.flatMap_append, List.flatMap_cons, List.flatMap_nil, List.append_nil]; exact H, HN2⟩
            case measure => rw [Hgk.out]; omega
    · have HN : Hid (ppicks n s = .ok (rows.map Pk.con, l')) := by show _ = _; unfold ppicks; rw [HP.out, show n - k = 0 by omega]; rfl
      clear HP
      go_wp2_with fail
      go_end0
      have H9 : SL No w0 _ (rAll B s l' [rBlk g 30 #[.slice A k c], rRow 33 7 (.slice A k c) k (rows.flatMap Cel.cells), rList rPk rows, rBlk z 25 #[.slice DA n cn, .slice MB m cm], rBlk y 30 #[.slice none 0 0]]) := H.out
      exact SL.ok H9 ⟨by rw [HN.out]; rfl, ⟨A, k, c, rows⟩, l', H9, by show k ≤ 16; omega, fun rs r h => by rw [HN.out] at h; injection h with h; injection h with h _⟩

/-- Picks of the call's own, with all that they hold. -/
abbrev rQry (X : Row Pk) : Res := ⟨fun g => (rRow 33 7 (.slice X.A X.n X.c) X.n (X.l.flatMap Cel.cells)).D g ∨ (rList rPk X.l).D g, fun w => X.rd w ∧ X.n ≤ 16 ∧ ∀ p ∈ X.l, p.set.n ≤ 200⟩
theorem holds_qry {X : Row Pk} {w : World} (h1 : (rRow 33 7 (.slice X.A X.n X.c) X.n (X.l.flatMap Cel.cells)).holds w) (h2 : (rList rPk X.l).holds w) (h3 : X.n ≤ 16) : (rQry X).holds w :=
  ⟨fun g hg => hg.elim (h1.1 g) (h2.1 g), fun w' hs hk => ⟨⟨Rd.of_own (h1.2 w' hs fun g hg => hk g (.inl hg)), fun r hr => (h2.2 w' hs (fun g hg => hk g (.inr hg)) r hr).rd, by omega⟩, h3, fun r hr => (h2.2 w' hs (fun g hg => hk g (.inr hg)) r hr).sn⟩⟩
theorem holds_qry_nil (w : World) : (rQry ⟨none, 0, 0, []⟩).holds w := holds_qry (holds_row (World.ownsRow_nil w 0 _ _)) (holds_list_nil _ w) (by show 0 ≤ 16; omega)
theorem qry_nil_new {m : Nat} : ∀ g, (rQry ⟨none, 0, 0, []⟩).D g → m ≤ g := by
  rintro g (h | ⟨T, hT, _⟩)
  · simp [Value.ownBlock] at h
  · cases hT
def Tkask (r : List PC × Int) (w : World) (e : Ending) (w' : World) : Prop := ∃ X : Qr, e = .returned (.tuple #[.agg X.cs, .int .i64 r.2]) ∧ X.con = r.1 ∧ Bel w w' ∧ NewR w w' (rQry X.ps)

set_option maxRecDepth 100000 in
set_option maxHeartbeats 2000000 in
theorem asktake_any (d : Sch) (s : List UInt8) (w : World) (hd : d.rd w) (hs : s.length ≤ 1000001) (hn : d.dm.n ≤ 1000000) (hm : d.ms.n ≤ 1000000) (hdd : ∀ x ∈ d.dm.l, x.tr.n ≤ 1000000 ∧ ∀ t ∈ x.tr.l, t.up.n ≤ 100000) :
    Calls Try.prog 26 #[.agg d.cs, .string ⟨s.toArray⟩] w (Tkask (asktake d.con s) w) := by
  have hmf : ∀ (fn : Fn) (first cap : Array Value) (w : World), (Instr.makeFunc fn first cap).run Try.prog w = .ok (.func fn first cap) w := fun _ _ _ _ => rfl
  have HC := Lib.hid (fun w' (hb : Bel w w') => schcheck_any d w' (hd.mono hb) hn hm hdd)
  have HBC := Lib.hid (fun (X : Qr) w' (hX : X.rd w') (hb : Bel w w') (h2 : ∀ p ∈ X.ps.l, p.set.n ≤ 100000) => askcheck_any d X w' (hd.mono hb) hX hn hm hdd h2)
  have hl1 : d.con.dims.length = d.dm.n := by have : d.dm.l.length = d.dm.n := hd.dm.len; simpa using this
  have H := Lib.hid (((SL.start No w).alloc d.cs 25).alloc #[.slice none 0 0] 30)
  (try simp only [List.set_cons_zero, List.set_cons_succ, List.cons_append, List.nil_append, List.eraseIdx_cons_zero, List.eraseIdx_cons_succ, List.setIfInBounds_toArray, World.size_alloc, selR, List.getD_cons_zero, List.getD_cons_succ] at H)
  have hcs : d.cs = #[.slice d.dm.A d.dm.n d.dm.c, .slice d.ms.A d.ms.n d.ms.c] := rfl
  have HCS := Lib.hid hcs
  clear hcs hd hdd
  by_cases hE : schErr d.con = 0
  · obtain ⟨_, q2, _, _, q5, _⟩ := schErr_zero hE
    have hn16 : d.dm.n ≤ 16 := by omega
    have HT0 : Hid (asktake d.con s = match ppicks d.dm.n s with
      | .error k => ([], k)
      | .ok (q, r) => if r ≠ [] then ([], 3) else if askErr d.con q = 0 then (q, 0) else ([], askErr d.con q)) := by
      show _ = _
      unfold asktake
      rw [if_neg (by omega), hl1]
      rfl
    rw [hE] at HC
    clear hE q2 q5 hl1
    go_enter Try.func26, Try.ntmps26
    rw [← HCS.out] at *
    go_wp2_with ((with_reducible show wpList _ _ _ (⟨some 9, _, _, _, _, _⟩ :: _) _ _); (refine wpList_load_blk rfl rowSch (.tmp 2) rfl _ rfl (H.out.blk 0 rfl) rfl ?_))
    refine (HC.out _ H.out.to).mono ?_; rintro e w1 ⟨rfl, hb1⟩
    replace H := Lib.hid (H.out.bel hb1); (try simp only [List.set_cons_zero, List.set_cons_succ, List.cons_append, List.nil_append, List.eraseIdx_cons_zero, List.eraseIdx_cons_succ, List.setIfInBounds_toArray, World.size_alloc, selR, List.getD_cons_zero, List.getD_cons_succ] at H)
    clear hb1 HC
    generalize w.heap.size + 1 = y at *
    generalize w.heap.size = z at *
    go_wp2_with fail
    replace H := Lib.hid (H.out.alloc #[.slice none 0 0] 30); (try simp only [List.set_cons_zero, List.set_cons_succ, List.cons_append, List.nil_append, List.eraseIdx_cons_zero, List.eraseIdx_cons_succ, List.setIfInBounds_toArray, World.size_alloc, selR, List.getD_cons_zero, List.getD_cons_succ] at H)
    replace H := Lib.hid (H.out.addNil 33 7); (try simp only [List.set_cons_zero, List.set_cons_succ, List.cons_append, List.nil_append, List.eraseIdx_cons_zero, List.eraseIdx_cons_succ, List.setIfInBounds_toArray, World.size_alloc, selR, List.getD_cons_zero, List.getD_cons_succ] at H)
    replace H := Lib.hid (H.out.add (Bel.refl _) (rList rPk []) (holds_list_nil _ _) list_nil_D); (try simp only [List.set_cons_zero, List.set_cons_succ, List.cons_append, List.nil_append, List.eraseIdx_cons_zero, List.eraseIdx_cons_succ, List.setIfInBounds_toArray, World.size_alloc, selR, List.getD_cons_zero, List.getD_cons_succ] at H)
    replace H := Lib.hid (H.out.sel [2, 3, 4, 0, 1] (by decide) (by simp)); (try simp only [List.set_cons_zero, List.set_cons_succ, List.cons_append, List.nil_append, List.eraseIdx_cons_zero, List.eraseIdx_cons_succ, List.setIfInBounds_toArray, World.size_alloc, selR, List.getD_cons_zero, List.getD_cons_succ] at H)
    generalize w1.heap.size = g at *
    generalize w1.alloc (.cells #[.slice none 0 0] 30) = W at *
    refine (all_any 64 #[.pointer (some ⟨z, 0, none⟩), .pointer (some ⟨g, 0, none⟩)] s W hs (Rask w s W.heap.size g z y d (ppicks d.dm.n s)) (cf_any Try.func64 (by kernel_rfl) (by kernel_rfl)) (fun w4 h1 h2 h3 h4 h5 => asktake1_any w W.heap.size g z y s d w4 hn16 (H.out.begin h1 h3 h4 h5))).mono ?_
    rintro e w5 ⟨k, w4, rfl, ⟨hk, X, q, hS, hX16, hD⟩, hbut, _⟩
    replace H := Lib.hid (hS.ended hbut); (try simp only [List.set_cons_zero, List.set_cons_succ, List.cons_append, List.nil_append, List.eraseIdx_cons_zero, List.eraseIdx_cons_succ, List.setIfInBounds_toArray, World.size_alloc, selR, List.getD_cons_zero, List.getD_cons_succ] at H)
    clear hS hbut
    generalize W.heap.size = B at *
    cases hT : ppicks d.dm.n s with
    | error k' =>
      have HT : Hid (asktake d.con s = ([], k')) := by show _ = _; rw [HT0.out, hT]
      have hk' : k' ≠ 0 := pmany_err (fun l k h => ppick_err h) hT
      rw [hT] at hk
      have hk2 : k = k' := hk
      subst hk2
      have dk : (k == 0) = false := by simpa using hk'
      have dk2 : (k != 0) = true := by simpa using hk'
      clear hT hk hk' hD HT0
      go_wp2_with ((with_reducible show wpList _ _ _ (⟨_, .store _ (.tmp 4) _, _, _, _, _⟩ :: _) _ _); (refine wpList_store_blk rfl rowQry (.tmp 4) (.tmp 25) rfl _ rfl (H.out.blk 4 rfl) rfl (#[.slice none 0 0]) rfl rfl (by simp [Value.oneCell']) ?_; intro wq bq hgq; replace H := Lib.hid (H.out.setBlk 4 rfl hgq bq); (try simp only [List.set_cons_zero, List.set_cons_succ, List.cons_append, List.nil_append, List.eraseIdx_cons_zero, List.eraseIdx_cons_succ, List.setIfInBounds_toArray, World.size_alloc, selR, List.getD_cons_zero, List.getD_cons_succ] at H); clear hgq bq))
      refine bodyPost_ret (results_blk rfl rowQry rfl (H.out.blk 4 rfl) rfl) rfl ?_
      rw [HT.out]
      exact ⟨⟨⟨none, 0, 0, []⟩⟩, rfl, rfl, H.out.to, holds_qry_nil _, qry_nil_new⟩
    | ok q =>
      obtain ⟨rs, l⟩ := q
      rw [hT] at hk
      obtain rfl := hD _ _ hT
      by_cases hl : l = []
      · have HT1 : Hid (asktake d.con s = if askErr d.con (X.l.map Pk.con) = 0 then (X.l.map Pk.con, 0) else ([], askErr d.con (X.l.map Pk.con))) := by show _ = _; rw [HT0.out, hT]; simp only; rw [if_neg (by simp [hl])]
        have hk2 : k = 0 := by rw [hk]; show (if l = [] then (0 : Int) else 3) = 0; rw [if_pos hl]
        subst hk2
        clear hT hk hl hD HT0
        replace H := Lib.hid (H.out.both 1 2 (by omega) rfl rfl (rQry X) (holds_qry (H.out.get 1 rfl) (H.out.get 2 rfl) hX16) (fun g hg => hg)); (try simp only [List.set_cons_zero, List.set_cons_succ, List.cons_append, List.nil_append, List.eraseIdx_cons_zero, List.eraseIdx_cons_succ, List.setIfInBounds_toArray, World.size_alloc, selR, List.getD_cons_zero, List.getD_cons_succ] at H)
        go_wp2_with (first | ((with_reducible show wpList _ _ _ (⟨some 20, _, _, _, _, _⟩ :: _) _ _); (refine wpList_load_blk rfl rowSch (.tmp 2) rfl _ rfl (H.out.blk 2 rfl) rfl ?_)) | ((with_reducible show wpList _ _ _ (⟨some 21, _, _, _, _, _⟩ :: _) _ _); (refine wpList_load_blk rfl rowQry (.tmp 7) rfl _ rfl (H.out.blk 0 rfl) rfl ?_)))
        refine (HBC.out ⟨X⟩ _ (H.out.at_ 1 rfl).1 H.out.to (fun p hp => by have := (H.out.at_ 1 rfl).2.2 p hp; omega)).mono ?_; rintro e w6 ⟨rfl, hb6⟩
        replace H := Lib.hid (H.out.bel hb6); (try simp only [List.set_cons_zero, List.set_cons_succ, List.cons_append, List.nil_append, List.eraseIdx_cons_zero, List.eraseIdx_cons_succ, List.setIfInBounds_toArray, World.size_alloc, selR, List.getD_cons_zero, List.getD_cons_succ] at H)
        simp only [Qr.con]
        clear hb6 HBC
        by_cases hE2 : askErr d.con (X.l.map Pk.con) = 0
        · have HT : Hid (asktake d.con s = (X.l.map Pk.con, 0)) := by show _ = _; rw [HT1.out, if_pos hE2]
          rw [hE2]
          clear hE2 HT1
          go_wp2_with (first | ((with_reducible show wpList _ _ _ (⟨some 27, _, _, _, _, _⟩ :: _) _ _); (refine wpList_load_blk rfl rowQry (.tmp 7) rfl _ rfl (H.out.blk 0 rfl) rfl ?_)) | ((with_reducible show wpList _ _ _ (⟨_, .store _ (.tmp 4) _, _, _, _, _⟩ :: _) _ _); (refine wpList_store_blk rfl rowQry (.tmp 4) (.tmp 27) rfl _ rfl (H.out.blk 3 rfl) rfl (#[.slice X.A X.n X.c]) rfl rfl (by simp [Value.oneCell']) ?_; intro wq bq hgq; replace H := Lib.hid (H.out.setBlk 3 rfl hgq bq); (try simp only [List.set_cons_zero, List.set_cons_succ, List.cons_append, List.nil_append, List.eraseIdx_cons_zero, List.eraseIdx_cons_succ, List.setIfInBounds_toArray, World.size_alloc, selR, List.getD_cons_zero, List.getD_cons_succ] at H); clear hgq bq)))
          refine bodyPost_ret (results_blk rfl rowQry rfl (H.out.blk 3 rfl) rfl) rfl ?_
          rw [HT.out]
          exact ⟨⟨X⟩, rfl, rfl, H.out.to, H.out.get 1 rfl, H.out.new 1 rfl⟩
        · have HT : Hid (asktake d.con s = ([], askErr d.con (X.l.map Pk.con))) := by show _ = _; rw [HT1.out, if_neg hE2]
          have dk : (askErr d.con (X.l.map Pk.con) == 0) = false := by simpa using hE2
          have dk2 : (askErr d.con (X.l.map Pk.con) != 0) = true := by simpa using hE2
          clear hE2 HT1
          go_wp2_with ((with_reducible show wpList _ _ _ (⟨_, .store _ (.tmp 4) _, _, _, _, _⟩ :: _) _ _); (refine wpList_store_blk rfl rowQry (.tmp 4) (.tmp 25) rfl _ rfl (H.out.blk 3 rfl) rfl (#[.slice none 0 0]) rfl rfl (by simp [Value.oneCell']) ?_; intro wq bq hgq; replace H := Lib.hid (H.out.setBlk 3 rfl hgq bq); (try simp only [List.set_cons_zero, List.set_cons_succ, List.cons_append, List.nil_append, List.eraseIdx_cons_zero, List.eraseIdx_cons_succ, List.setIfInBounds_toArray, World.size_alloc, selR, List.getD_cons_zero, List.getD_cons_succ] at H); clear hgq bq))
          refine bodyPost_ret (results_blk rfl rowQry rfl (H.out.blk 3 rfl) rfl) rfl ?_
          rw [HT.out]
          exact ⟨⟨⟨none, 0, 0, []⟩⟩, rfl, rfl, H.out.to, holds_qry_nil _, qry_nil_new⟩
      · have HT : Hid (asktake d.con s = ([], 3)) := by show _ = _; rw [HT0.out, hT]; simp only; rw [if_pos hl]
        have hk2 : k = 3 := by rw [hk]; show (if l = [] then (0 : Int) else 3) = 3; rw [if_neg hl]
        subst hk2
        clear hT hk hl hD HT0
        go_wp2_with ((with_reducible show wpList _ _ _ (⟨_, .store _ (.tmp 4) _, _, _, _, _⟩ :: _) _ _); (refine wpList_store_blk rfl rowQry (.tmp 4) (.tmp 25) rfl _ rfl (H.out.blk 4 rfl) rfl (#[.slice none 0 0]) rfl rfl (by simp [Value.oneCell']) ?_; intro wq bq hgq; replace H := Lib.hid (H.out.setBlk 4 rfl hgq bq); (try simp only [List.set_cons_zero, List.set_cons_succ, List.cons_append, List.nil_append, List.eraseIdx_cons_zero, List.eraseIdx_cons_succ, List.setIfInBounds_toArray, World.size_alloc, selR, List.getD_cons_zero, List.getD_cons_succ] at H); clear hgq bq))
        refine bodyPost_ret (results_blk rfl rowQry rfl (H.out.blk 4 rfl) rfl) rfl ?_
        rw [HT.out]
        exact ⟨⟨⟨none, 0, 0, []⟩⟩, rfl, rfl, H.out.to, holds_qry_nil _, qry_nil_new⟩
  · have HT : Hid (asktake d.con s = ([], schErr d.con)) := by show _ = _; unfold asktake; rw [if_pos hE]
    have dE : (schErr d.con == 0) = false := by simpa using hE
    have dE2 : (schErr d.con != 0) = true := by simpa using hE
    clear hE
    go_enter Try.func26, Try.ntmps26
    rw [← HCS.out] at *
    go_wp2_with ((with_reducible show wpList _ _ _ (⟨some 9, _, _, _, _, _⟩ :: _) _ _); (refine wpList_load_blk rfl rowSch (.tmp 2) rfl _ rfl (H.out.blk 0 rfl) rfl ?_))
    refine (HC.out _ H.out.to).mono ?_; rintro e w1 ⟨rfl, hb1⟩
    replace H := Lib.hid (H.out.bel hb1); (try simp only [List.set_cons_zero, List.set_cons_succ, List.cons_append, List.nil_append, List.eraseIdx_cons_zero, List.eraseIdx_cons_succ, List.setIfInBounds_toArray, World.size_alloc, selR, List.getD_cons_zero, List.getD_cons_succ] at H)
    clear hb1 HC
    go_wp2_with ((with_reducible show wpList _ _ _ (⟨_, .store _ (.tmp 4) _, _, _, _, _⟩ :: _) _ _); (refine wpList_store_blk rfl rowQry (.tmp 4) (.tmp 13) rfl _ rfl (H.out.blk 1 rfl) rfl (#[.slice none 0 0]) rfl rfl (by simp [Value.oneCell']) ?_; intro wq bq hgq; replace H := Lib.hid (H.out.setBlk 1 rfl hgq bq); (try simp only [List.set_cons_zero, List.set_cons_succ, List.cons_append, List.nil_append, List.eraseIdx_cons_zero, List.eraseIdx_cons_succ, List.setIfInBounds_toArray, World.size_alloc, selR, List.getD_cons_zero, List.getD_cons_succ] at H); clear hgq bq))
    refine bodyPost_ret (results_blk rfl rowQry rfl (H.out.blk 1 rfl) rfl) rfl ?_
    rw [HT.out]
    exact ⟨⟨⟨none, 0, 0, []⟩⟩, rfl, rfl, H.out.to, holds_qry_nil _, qry_nil_new⟩

end Go.Proofs.Ytigjghfonpfdlaa
