/- batch.Take. -/
import Derived.Test.YtnjpoamebkehbaaBatR
import Derived.Test.YtnjpoamebkehbaaSchA
namespace Go.Proofs.Ytnjpoamebkehbaa
open Go.RowKit
set_option linter.unusedVariables false
set_option linter.unusedSimpArgs false

theorem rw1_one (D : Rw) : ∀ u ∈ ([.slice D.ts.A D.ts.n D.ts.c, .slice D.vs.A D.vs.n D.vs.c] : List Value), u.oneCell' = true := by simp [Value.oneCell']
/-- The rows read, and the reader. -/
def Rbat (w0 : World) (s : List UInt8) (B g z : Nat) (d : Sch) (o : PR (List RC)) (k : Int) (w' : World) : Prop :=
  k = endErr o ∧ ∃ (X : Row Rw) (q : List UInt8), SL No w0 w' (rAll B s q [rBlk g 82 #[.slice X.A X.n X.c], rRow 88 2 (.slice X.A X.n X.c) X.n (X.l.flatMap Cel.cells), rList rRw X.l, rBlk z 70 d.cs]) ∧ X.n ≤ 300 ∧ ∀ rows r, o = .ok (rows, r) → X.l.map Rw.con = rows
set_option maxRecDepth 100000 in
set_option maxHeartbeats 2000000 in
theorem battake1_any (w0 : World) (B g z : Nat) (s : List UInt8) (d : Sch) (w : World) (hn : d.dm.n ≤ 16) (hm : d.ms.n ≤ 3) (h : SL No w0 w (rAll B s s [rBlk g 82 #[.slice none 0 0], rRow 88 2 (.slice none 0 0) 0 (([] : List Rw).flatMap Cel.cells), rList rRw ([] : List Rw), rBlk z 70 d.cs])) :
    Calls Try.prog 112 #[.pointer (some ⟨B + 1, 0, none⟩), .pointer (some ⟨g, 0, none⟩), .pointer (some ⟨z, 0, none⟩)] w (AllPost B s (Rbat w0 s B g z d (prws d.dm.n d.ms.n s))) := by
  have HT := Lib.hid (fun w (hr : Rdr w (B + 1) s s) => num_any (B + 1) s s 300 w hr (by omega) (by omega))
  have H : Hid (SL No w0 w [rRdr (B + 1) s s, rBlk B 36 #[.int .i64 0], rBlk (B + 2) 52 #[.pointer (some ⟨B + 1, 0, none⟩)], rBlk g 82 #[.slice none 0 0], rRow 88 2 (.slice none 0 0) 0 (([] : List Rw).flatMap Cel.cells), rList rRw ([] : List Rw), rBlk z 70 d.cs]) := h
  clear h
  go_enter Try.func112, Try.ntmps112
  go_wp2_with fail
  cases hx : pnum 300 s with
  | error k =>
    have HE : Hid (prws d.dm.n d.ms.n s = .error k) := by show _ = _; unfold prws; rw [hx]
    rw [hx] at HT
    clear hx
    refine (HT.out _ (H.out.rdr 0 rfl)).mono ?_; rintro e w2 ⟨rfl, hg, l1, hr⟩
    replace H := Lib.hid (H.out.setRdr 0 rfl hg hr); (try simp only [List.set_cons_zero, List.set_cons_succ, List.cons_append, List.nil_append, List.eraseIdx_cons_zero, List.eraseIdx_cons_succ, List.setIfInBounds_toArray, World.size_alloc, selR, List.getD_cons_zero, List.getD_cons_succ] at H)
    clear hg hr
    go_wp2_with fail
    refine ⟨rfl, ?_⟩
    have H9 : SL No w0 _ (rAll B s l1 [rBlk g 82 #[.slice none 0 0], rRow 88 2 (.slice none 0 0) 0 (([] : List Rw).flatMap Cel.cells), rList rRw ([] : List Rw), rBlk z 70 d.cs]) := H.out
    exact SL.err H9 ⟨by rw [HE.out]; rfl, ⟨none, 0, 0, []⟩, l1, H9, Nat.zero_le _, fun _ _ h => by rw [HE.out] at h; cases h⟩
  | ok q =>
    obtain ⟨n, l1⟩ := q
    have hn300 := (pnum_ok hx).2.1
    have HE : Hid (prws d.dm.n d.ms.n s = pmany (prow d.dm.n d.ms.n) n [] l1) := by show _ = _; unfold prws; rw [hx]
    rw [hx] at HT
    clear hx
    refine (HT.out _ (H.out.rdr 0 rfl)).mono ?_; rintro e w2 ⟨rfl, hg, hr⟩
    replace H := Lib.hid (H.out.setRdr 0 rfl hg hr); (try simp only [List.set_cons_zero, List.set_cons_succ, List.cons_append, List.nil_append, List.eraseIdx_cons_zero, List.eraseIdx_cons_succ, List.setIfInBounds_toArray, World.size_alloc, selR, List.getD_cons_zero, List.getD_cons_succ] at H)
    clear hg hr HT
    go_wp2_with fail
    have HP : Hid (pmany (prow d.dm.n d.ms.n) n [] l1 = pmany (prow d.dm.n d.ms.n) (n - 0) (([] : List Rw).map Rw.con) l1) := rfl
    go_loopg [6] n (fun gg s6 wr => ∃ (k : Nat) (rows : List Rw) (A : Option Addr) (c : Nat) (l' : List UInt8), gg = n - k ∧ k ≤ n ∧ s6 = .int .i64 k ∧ Hid (rows.length = k) ∧ Hid (SL No w0 wr [rRdr (B + 1) s l', rBlk B 36 #[.int .i64 0], rBlk (B + 2) 52 #[.pointer (some ⟨B + 1, 0, none⟩)], rBlk g 82 #[.slice A k c], rRow 88 2 (.slice A k c) k (rows.flatMap Cel.cells), rList rRw rows, rBlk z 70 d.cs]) ∧ Hid (pmany (prow d.dm.n d.ms.n) n [] l1 = pmany (prow d.dm.n d.ms.n) (n - k) (rows.map Rw.con) l'))
    case atStart => exact ⟨0, [], none, 0, l1, rfl, by omega, rfl, rfl, H, HP⟩
    case round =>
      clear H HP
      obtain ⟨k, rows, A, c, l', hgk, hk, rfl, hac, H, HP⟩ := hrel
      have Hgk := Lib.hid hgk
      have hk300 : k ≤ 300 := by omega
      clear hgk
      by_cases hlt : k < n
      · have HN := Lib.hid (HP.out.trans (pmany_step hlt))
        have HA := Lib.hid (fun w (hr : Rdr w (B + 1) s l') => batread_any (B + 1) s l' d w hr hn hm)
        clear HP
        go_upto_region 2 with fail
        cases hx : prow d.dm.n d.ms.n l' with
        | error e1 =>
          rw [hx] at HA HN
          clear hx
          refine wp_region_held_drew (S := fun _ => True) (by kernel_rfl) trivial (fun hHeld => ?_)
          replace H := Lib.hid (H.out.drew); (try simp only [List.set_cons_zero, List.set_cons_succ, List.cons_append, List.nil_append, List.eraseIdx_cons_zero, List.eraseIdx_cons_succ, List.setIfInBounds_toArray, World.size_alloc, selR, List.getD_cons_zero, List.getD_cons_succ] at H)
          refine wpAnyH_take (i := 1) (v := ?vq1_1) (get_os (get_o0)) (by kernel_rfl) (by kernel_rfl) (by kernel_rfl) (by exact fun _ _ _ h => h) (Or.inl ⟨by rfl, ?hyq1_1⟩) (by assumption) ?_
          case hyq1_1 => (intro w hSw; (try dsimp only at hSw); go_simp) <;> with_reducible rfl
          try simp only [Act.put, List.setIfInBounds_toArray, List.set_cons_zero, List.set_cons_succ]
          refine wpAnyH_ready (rs := [0, 2]) (by kernel_rfl) (by simp) ?_
          refine (AllReadyH.cons (get_o0) (fun KK hKK => ?_) (AllReadyH.cons (get_os (get_os (get_o0))) (fun KK hKK => ?_) AllReadyH.nil))
          · have c1 := (H.out.blk 3 rfl).cell 0; simp only [List.getElem?_toArray, List.getElem?_cons_zero, List.getElem?_cons_succ] at c1
            go_simp
            clear c1
            refine hKK.out _ _ trivial (fun hHeld => ?_)
            clear hKK KK
            try simp only [Act.put, List.setIfInBounds_toArray, List.set_cons_zero, List.set_cons_succ]
            refine wpAnyH_ready (rs := [2]) (by kernel_rfl) (by simp) ?_
            refine (AllReadyH.cons (get_os (get_os (get_o0))) (fun KK hKK => ?_) AllReadyH.nil)
            refine step_load_blk rfl rowSch (.tmp 2) rfl _ rfl (H.out.blk 6 rfl) rfl ?_
            refine hKK.out _ _ trivial (fun hHeld => ?_)
            clear hKK KK
            try simp only [Act.put, List.setIfInBounds_toArray, List.set_cons_zero, List.set_cons_succ]
            refine wpAnyH_ready (rs := [3]) (by kernel_rfl) (by simp) ?_
            refine (AllReadyH.cons (get_os (get_os (get_os (get_o0)))) (fun KK hKK => ?_) AllReadyH.nil)
            go_simp
            refine (HA.out _ (H.out.rdr 0 rfl)).mono ?_; rintro e' w3 ⟨rfl, hg3, l3, hr3⟩
            replace H := Lib.hid (H.out.setRdr 0 rfl hg3 hr3); (try simp only [List.set_cons_zero, List.set_cons_succ, List.cons_append, List.nil_append, List.eraseIdx_cons_zero, List.eraseIdx_cons_succ, List.setIfInBounds_toArray, World.size_alloc, selR, List.getD_cons_zero, List.getD_cons_succ] at H)
            refine ⟨rfl, ?_⟩
            have H9 : SL No w0 _ (rAll B s l3 [rBlk g 82 #[.slice A k c], rRow 88 2 (.slice A k c) k (rows.flatMap Cel.cells), rList rRw rows, rBlk z 70 d.cs]) := H.out
            exact SL.err H9 ⟨by rw [HE.out]; exact HN.out ▸ rfl, ⟨A, k, c, rows⟩, l3, H9, by show k ≤ 300; omega, fun _ _ h => by rw [HE.out, HN.out] at h; cases h⟩
          · refine step_load_blk rfl rowSch (.tmp 2) rfl _ rfl (H.out.blk 6 rfl) rfl ?_
            refine hKK.out _ _ trivial (fun hHeld => ?_)
            clear hKK KK
            try simp only [Act.put, List.setIfInBounds_toArray, List.set_cons_zero, List.set_cons_succ]
            refine wpAnyH_ready (rs := [0, 3]) (by kernel_rfl) (by simp) ?_
            refine (AllReadyH.cons (get_o0) (fun KK hKK => ?_) (AllReadyH.cons (get_os (get_os (get_os (get_o0)))) (fun KK hKK => ?_) AllReadyH.nil))
            · have c1 := (H.out.blk 3 rfl).cell 0; simp only [List.getElem?_toArray, List.getElem?_cons_zero, List.getElem?_cons_succ] at c1
              go_simp
              clear c1
              refine hKK.out _ _ trivial (fun hHeld => ?_)
              clear hKK KK
              try simp only [Act.put, List.setIfInBounds_toArray, List.set_cons_zero, List.set_cons_succ]
              refine wpAnyH_ready (rs := [3]) (by kernel_rfl) (by simp) ?_
              refine (AllReadyH.cons (get_os (get_os (get_os (get_o0)))) (fun KK hKK => ?_) AllReadyH.nil)
              go_simp
              refine (HA.out _ (H.out.rdr 0 rfl)).mono ?_; rintro e' w3 ⟨rfl, hg3, l3, hr3⟩
              replace H := Lib.hid (H.out.setRdr 0 rfl hg3 hr3); (try simp only [List.set_cons_zero, List.set_cons_succ, List.cons_append, List.nil_append, List.eraseIdx_cons_zero, List.eraseIdx_cons_succ, List.setIfInBounds_toArray, World.size_alloc, selR, List.getD_cons_zero, List.getD_cons_succ] at H)
              refine ⟨rfl, ?_⟩
              have H9 : SL No w0 _ (rAll B s l3 [rBlk g 82 #[.slice A k c], rRow 88 2 (.slice A k c) k (rows.flatMap Cel.cells), rList rRw rows, rBlk z 70 d.cs]) := H.out
              exact SL.err H9 ⟨by rw [HE.out]; exact HN.out ▸ rfl, ⟨A, k, c, rows⟩, l3, H9, by show k ≤ 300; omega, fun _ _ h => by rw [HE.out, HN.out] at h; cases h⟩
            · go_simp
              refine (HA.out _ (H.out.rdr 0 rfl)).mono ?_; rintro e' w3 ⟨rfl, hg3, l3, hr3⟩
              replace H := Lib.hid (H.out.setRdr 0 rfl hg3 hr3); (try simp only [List.set_cons_zero, List.set_cons_succ, List.cons_append, List.nil_append, List.eraseIdx_cons_zero, List.eraseIdx_cons_succ, List.setIfInBounds_toArray, World.size_alloc, selR, List.getD_cons_zero, List.getD_cons_succ] at H)
              refine ⟨rfl, ?_⟩
              have H9 : SL No w0 _ (rAll B s l3 [rBlk g 82 #[.slice A k c], rRow 88 2 (.slice A k c) k (rows.flatMap Cel.cells), rList rRw rows, rBlk z 70 d.cs]) := H.out
              exact SL.err H9 ⟨by rw [HE.out]; exact HN.out ▸ rfl, ⟨A, k, c, rows⟩, l3, H9, by show k ≤ 300; omega, fun _ _ h => by rw [HE.out, HN.out] at h; cases h⟩
        | ok q =>
          obtain ⟨rc, l3⟩ := q
          rw [hx] at HA HN
          have HN : Hid (pmany (prow d.dm.n d.ms.n) n [] l1 = pmany (prow d.dm.n d.ms.n) (n - (k + 1)) (rows.map Rw.con ++ [rc]) l3) := HN.out
          clear hx
          refine wp_region_held_drew (S := fun _ => True) (by kernel_rfl) trivial (fun hHeld => ?_)
          replace H := Lib.hid (H.out.drew); (try simp only [List.set_cons_zero, List.set_cons_succ, List.cons_append, List.nil_append, List.eraseIdx_cons_zero, List.eraseIdx_cons_succ, List.setIfInBounds_toArray, World.size_alloc, selR, List.getD_cons_zero, List.getD_cons_succ] at H)
          refine wpAnyH_take (i := 1) (v := ?vq2_1) (get_os (get_o0)) (by kernel_rfl) (by kernel_rfl) (by kernel_rfl) (by exact fun _ _ _ h => h) (Or.inl ⟨by rfl, ?hyq2_1⟩) (by assumption) ?_
          case hyq2_1 => (intro w hSw; (try dsimp only at hSw); go_simp) <;> with_reducible rfl
          try simp only [Act.put, List.setIfInBounds_toArray, List.set_cons_zero, List.set_cons_succ]
          refine wpAnyH_ready (rs := [0, 2]) (by kernel_rfl) (by simp) ?_
          refine (AllReadyH.cons (get_o0) (fun KK hKK => ?_) (AllReadyH.cons (get_os (get_os (get_o0))) (fun KK hKK => ?_) AllReadyH.nil))
          · have c1 := (H.out.blk 3 rfl).cell 0; simp only [List.getElem?_toArray, List.getElem?_cons_zero, List.getElem?_cons_succ] at c1
            go_simp
            clear c1
            refine hKK.out _ _ trivial (fun hHeld => ?_)
            clear hKK KK
            try simp only [Act.put, List.setIfInBounds_toArray, List.set_cons_zero, List.set_cons_succ]
            refine wpAnyH_ready (rs := [2]) (by kernel_rfl) (by simp) ?_
            refine (AllReadyH.cons (get_os (get_os (get_o0))) (fun KK hKK => ?_) AllReadyH.nil)
            refine step_load_blk rfl rowSch (.tmp 2) rfl _ rfl (H.out.blk 6 rfl) rfl ?_
            refine hKK.out _ _ trivial (fun hHeld => ?_)
            clear hKK KK
            try simp only [Act.put, List.setIfInBounds_toArray, List.set_cons_zero, List.set_cons_succ]
            refine wpAnyH_ready (rs := [3]) (by kernel_rfl) (by simp) ?_
            refine (AllReadyH.cons (get_os (get_os (get_os (get_o0)))) (fun KK hKK => ?_) AllReadyH.nil)
            go_simp
            refine (HA.out _ (H.out.rdr 0 rfl)).mono ?_; rintro e' w3 ⟨D, rfl, hDc, hg3, hr3, hnew⟩
            replace H := Lib.hid (H.out.setRdrAdd 0 rfl hg3 hr3 (rRw D) hnew.1 hnew.2); (try simp only [List.set_cons_zero, List.set_cons_succ, List.cons_append, List.nil_append, List.eraseIdx_cons_zero, List.eraseIdx_cons_succ, List.setIfInBounds_toArray, World.size_alloc, selR, List.getD_cons_zero, List.getD_cons_succ] at H)
            have HDc := Lib.hid hDc
            clear hg3 hr3 hnew hDc
            refine hKK.out _ _ trivial (fun hHeld => ?_)
            clear hKK KK
            try simp only [Act.put, List.setIfInBounds_toArray, List.set_cons_zero, List.set_cons_succ]
            refine wpAnyH_ready (rs := [4]) (by kernel_rfl) (by simp) ?_
            refine (AllReadyH.cons (get_os (get_os (get_os (get_os (get_o0))))) (fun KK hKK => ?_) AllReadyH.nil)
            refine step_buildSlice1 rfl E_rw (.tmp 11) rfl (D.cs) rfl rfl (by omega) ?_
            replace H := Lib.hid (H.out.addRow ((Bel.refl _).alloc _) (own_made _ 88 (D.cs) _ rfl)); (try simp only [List.set_cons_zero, List.set_cons_succ, List.cons_append, List.nil_append, List.eraseIdx_cons_zero, List.eraseIdx_cons_succ, List.setIfInBounds_toArray, World.size_alloc, selR, List.getD_cons_zero, List.getD_cons_succ] at H)
            refine hKK.out _ _ trivial (fun hHeld => ?_)
            clear hKK KK
            try simp only [Act.put, List.setIfInBounds_toArray, List.set_cons_zero, List.set_cons_succ]
            refine wpAnyH_ready (rs := [5]) (by kernel_rfl) (by simp) ?_
            refine (AllReadyH.cons (get_os (get_os (get_os (get_os (get_os (get_o0)))))) (fun KK hKK => ?_) AllReadyH.nil)
            refine step_append0 rfl (.tmp 8) (.tmp 12) _ rfl E_rw 0 (Nat.zero_le _) _ k _ rfl (H.out.row 4 rfl) _ 1 1 _ rfl (Rd.of_own (H.out.row 8 rfl)) (rw1_one D) (by unfold maxLen; omega) (by omega) ?_
            intro vq wq howq hgq hatq
            replace H := Lib.hid (H.out.setRow 4 rfl hgq howq hatq); (try simp only [List.set_cons_zero, List.set_cons_succ, List.cons_append, List.nil_append, List.eraseIdx_cons_zero, List.eraseIdx_cons_succ, List.setIfInBounds_toArray, World.size_alloc, selR, List.getD_cons_zero, List.getD_cons_succ] at H)
            clear howq hgq hatq
            obtain ⟨A2, c2, rfl, _⟩ := own_slice (H.out.row 4 rfl)
            refine hKK.out _ _ trivial (fun hHeld => ?_)
            clear hKK KK
            try simp only [Act.put, List.setIfInBounds_toArray, List.set_cons_zero, List.set_cons_succ]
            refine wpAnyH_ready (rs := [6]) (by kernel_rfl) (by simp) ?_
            refine (AllReadyH.cons (get_os (get_os (get_os (get_os (get_os (get_os (get_o0))))))) (fun KK hKK => ?_) AllReadyH.nil)
            have c1 := (H.out.blk 3 rfl).cell 0; simp only [List.getElem?_toArray, List.getElem?_cons_zero, List.getElem?_cons_succ] at c1; have f1 := (H.out.blk 3 rfl).frozen 0
            go_simp
            replace H := Lib.hid (H.out.setCell 3 rfl 0 (.slice A2 (k + 1) c2)); (try simp only [List.set_cons_zero, List.set_cons_succ, List.cons_append, List.nil_append, List.eraseIdx_cons_zero, List.eraseIdx_cons_succ, List.setIfInBounds_toArray, World.size_alloc, selR, List.getD_cons_zero, List.getD_cons_succ] at H)
            clear c1 f1
            refine hKK.out _ _ trivial (fun hHeld => ?_)
            clear hKK KK
            try simp only [Act.put, List.setIfInBounds_toArray, List.set_cons_zero, List.set_cons_succ]
            refine wpAnyH_done (by kernel_rfl) ?_ _
            clear hHeld
            replace H := Lib.hid (H.out.both 5 7 (by omega) rfl rfl (rList rRw (rows ++ [D])) (holds_list_snoc (H.out.get 5 rfl) (H.out.get 7 rfl)) list_snoc_D); (try simp only [List.set_cons_zero, List.set_cons_succ, List.cons_append, List.nil_append, List.eraseIdx_cons_zero, List.eraseIdx_cons_succ, List.setIfInBounds_toArray, World.size_alloc, selR, List.getD_cons_zero, List.getD_cons_succ] at H)
            replace H := Lib.hid (H.out.sel [0, 1, 2, 3, 4, 5, 6] (by decide) (by simp)); (try simp only [List.set_cons_zero, List.set_cons_succ, List.cons_append, List.nil_append, List.eraseIdx_cons_zero, List.eraseIdx_cons_succ, List.setIfInBounds_toArray, World.size_alloc, selR, List.getD_cons_zero, List.getD_cons_succ] at H)
            have HN2 : Hid (pmany (prow d.dm.n d.ms.n) n [] l1 = pmany (prow d.dm.n d.ms.n) (n - (k + 1)) ((rows ++ [D]).map Rw.con) l3) := by show _ = _; rw [HN.out, List.map_append, List.map_cons, List.map_nil, HDc.out]
            go_wp2_with fail
            go_roundg (n - (k + 1))
            case rel => exact ⟨k + 1, rows ++ [D], A2, c2, l3, rfl, by omega, by go_num, by show _ = _; rw [List.length_append, hac.out]; rfl, by rw [List.flatMap_append, List.flatMap_cons, List.flatMap_nil, List.append_nil]; exact H, HN2⟩
            case measure => rw [Hgk.out]; omega
          · refine step_load_blk rfl rowSch (.tmp 2) rfl _ rfl (H.out.blk 6 rfl) rfl ?_
            refine hKK.out _ _ trivial (fun hHeld => ?_)
            clear hKK KK
            try simp only [Act.put, List.setIfInBounds_toArray, List.set_cons_zero, List.set_cons_succ]
            refine wpAnyH_ready (rs := [0, 3]) (by kernel_rfl) (by simp) ?_
            refine (AllReadyH.cons (get_o0) (fun KK hKK => ?_) (AllReadyH.cons (get_os (get_os (get_os (get_o0)))) (fun KK hKK => ?_) AllReadyH.nil))
            · have c1 := (H.out.blk 3 rfl).cell 0; simp only [List.getElem?_toArray, List.getElem?_cons_zero, List.getElem?_cons_succ] at c1
              go_simp
              clear c1
              refine hKK.out _ _ trivial (fun hHeld => ?_)
              clear hKK KK
              try simp only [Act.put, List.setIfInBounds_toArray, List.set_cons_zero, List.set_cons_succ]
              refine wpAnyH_ready (rs := [3]) (by kernel_rfl) (by simp) ?_
              refine (AllReadyH.cons (get_os (get_os (get_os (get_o0)))) (fun KK hKK => ?_) AllReadyH.nil)
              go_simp
              refine (HA.out _ (H.out.rdr 0 rfl)).mono ?_; rintro e' w3 ⟨D, rfl, hDc, hg3, hr3, hnew⟩
              replace H := Lib.hid (H.out.setRdrAdd 0 rfl hg3 hr3 (rRw D) hnew.1 hnew.2); (try simp only [List.set_cons_zero, List.set_cons_succ, List.cons_append, List.nil_append, List.eraseIdx_cons_zero, List.eraseIdx_cons_succ, List.setIfInBounds_toArray, World.size_alloc, selR, List.getD_cons_zero, List.getD_cons_succ] at H)
              have HDc := Lib.hid hDc
              clear hg3 hr3 hnew hDc
              refine hKK.out _ _ trivial (fun hHeld => ?_)
              clear hKK KK
              try simp only [Act.put, List.setIfInBounds_toArray, List.set_cons_zero, List.set_cons_succ]
              refine wpAnyH_ready (rs := [4]) (by kernel_rfl) (by simp) ?_
              refine (AllReadyH.cons (get_os (get_os (get_os (get_os (get_o0))))) (fun KK hKK => ?_) AllReadyH.nil)
              refine step_buildSlice1 rfl E_rw (.tmp 11) rfl (D.cs) rfl rfl (by omega) ?_
              replace H := Lib.hid (H.out.addRow ((Bel.refl _).alloc _) (own_made _ 88 (D.cs) _ rfl)); (try simp only [List.set_cons_zero, List.set_cons_succ, List.cons_append, List.nil_append, List.eraseIdx_cons_zero, List.eraseIdx_cons_succ, List.setIfInBounds_toArray, World.size_alloc, selR, List.getD_cons_zero, List.getD_cons_succ] at H)
              refine hKK.out _ _ trivial (fun hHeld => ?_)
              clear hKK KK
              try simp only [Act.put, List.setIfInBounds_toArray, List.set_cons_zero, List.set_cons_succ]
              refine wpAnyH_ready (rs := [5]) (by kernel_rfl) (by simp) ?_
              refine (AllReadyH.cons (get_os (get_os (get_os (get_os (get_os (get_o0)))))) (fun KK hKK => ?_) AllReadyH.nil)
              refine step_append0 rfl (.tmp 8) (.tmp 12) _ rfl E_rw 0 (Nat.zero_le _) _ k _ rfl (H.out.row 4 rfl) _ 1 1 _ rfl (Rd.of_own (H.out.row 8 rfl)) (rw1_one D) (by unfold maxLen; omega) (by omega) ?_
              intro vq wq howq hgq hatq
              replace H := Lib.hid (H.out.setRow 4 rfl hgq howq hatq); (try simp only [List.set_cons_zero, List.set_cons_succ, List.cons_append, List.nil_append, List.eraseIdx_cons_zero, List.eraseIdx_cons_succ, List.setIfInBounds_toArray, World.size_alloc, selR, List.getD_cons_zero, List.getD_cons_succ] at H)
              clear howq hgq hatq
              obtain ⟨A2, c2, rfl, _⟩ := own_slice (H.out.row 4 rfl)
              refine hKK.out _ _ trivial (fun hHeld => ?_)
              clear hKK KK
              try simp only [Act.put, List.setIfInBounds_toArray, List.set_cons_zero, List.set_cons_succ]
              refine wpAnyH_ready (rs := [6]) (by kernel_rfl) (by simp) ?_
              refine (AllReadyH.cons (get_os (get_os (get_os (get_os (get_os (get_os (get_o0))))))) (fun KK hKK => ?_) AllReadyH.nil)
              have c1 := (H.out.blk 3 rfl).cell 0; simp only [List.getElem?_toArray, List.getElem?_cons_zero, List.getElem?_cons_succ] at c1; have f1 := (H.out.blk 3 rfl).frozen 0
              go_simp
              replace H := Lib.hid (H.out.setCell 3 rfl 0 (.slice A2 (k + 1) c2)); (try simp only [List.set_cons_zero, List.set_cons_succ, List.cons_append, List.nil_append, List.eraseIdx_cons_zero, List.eraseIdx_cons_succ, List.setIfInBounds_toArray, World.size_alloc, selR, List.getD_cons_zero, List.getD_cons_succ] at H)
              clear c1 f1
              refine hKK.out _ _ trivial (fun hHeld => ?_)
              clear hKK KK
              try simp only [Act.put, List.setIfInBounds_toArray, List.set_cons_zero, List.set_cons_succ]
              refine wpAnyH_done (by kernel_rfl) ?_ _
              clear hHeld
              replace H := Lib.hid (H.out.both 5 7 (by omega) rfl rfl (rList rRw (rows ++ [D])) (holds_list_snoc (H.out.get 5 rfl) (H.out.get 7 rfl)) list_snoc_D); (try simp only [List.set_cons_zero, List.set_cons_succ, List.cons_append, List.nil_append, List.eraseIdx_cons_zero, List.eraseIdx_cons_succ, List.setIfInBounds_toArray, World.size_alloc, selR, List.getD_cons_zero, List.getD_cons_succ] at H)
              replace H := Lib.hid (H.out.sel [0, 1, 2, 3, 4, 5, 6] (by decide) (by simp)); (try simp only [List.set_cons_zero, List.set_cons_succ, List.cons_append, List.nil_append, List.eraseIdx_cons_zero, List.eraseIdx_cons_succ, List.setIfInBounds_toArray, World.size_alloc, selR, List.getD_cons_zero, List.getD_cons_succ] at H)
              have HN2 : Hid (pmany (prow d.dm.n d.ms.n) n [] l1 = pmany (prow d.dm.n d.ms.n) (n - (k + 1)) ((rows ++ [D]).map Rw.con) l3) := by show _ = _; rw [HN.out, List.map_append, List.map_cons, List.map_nil, HDc.out]
              go_wp2_with fail
              go_roundg (n - (k + 1))
              case rel => exact ⟨k + 1, rows ++ [D], A2, c2, l3, rfl, by omega, by go_num, by show _ = _; rw [List.length_append, hac.out]; rfl, by rw [List.flatMap_append, List.flatMap_cons, List.flatMap_nil, List.append_nil]; exact H, HN2⟩
              case measure => rw [Hgk.out]; omega
            · go_simp
              refine (HA.out _ (H.out.rdr 0 rfl)).mono ?_; rintro e' w3 ⟨D, rfl, hDc, hg3, hr3, hnew⟩
              replace H := Lib.hid (H.out.setRdrAdd 0 rfl hg3 hr3 (rRw D) hnew.1 hnew.2); (try simp only [List.set_cons_zero, List.set_cons_succ, List.cons_append, List.nil_append, List.eraseIdx_cons_zero, List.eraseIdx_cons_succ, List.setIfInBounds_toArray, World.size_alloc, selR, List.getD_cons_zero, List.getD_cons_succ] at H)
              have HDc := Lib.hid hDc
              clear hg3 hr3 hnew hDc
              refine hKK.out _ _ trivial (fun hHeld => ?_)
              clear hKK KK
              try simp only [Act.put, List.setIfInBounds_toArray, List.set_cons_zero, List.set_cons_succ]
              refine wpAnyH_ready (rs := [0, 4]) (by kernel_rfl) (by simp) ?_
              refine (AllReadyH.cons (get_o0) (fun KK hKK => ?_) (AllReadyH.cons (get_os (get_os (get_os (get_os (get_o0))))) (fun KK hKK => ?_) AllReadyH.nil))
              · have c1 := (H.out.blk 3 rfl).cell 0; simp only [List.getElem?_toArray, List.getElem?_cons_zero, List.getElem?_cons_succ] at c1
                go_simp
                clear c1
                refine hKK.out _ _ trivial (fun hHeld => ?_)
                clear hKK KK
                try simp only [Act.put, List.setIfInBounds_toArray, List.set_cons_zero, List.set_cons_succ]
                refine wpAnyH_ready (rs := [4]) (by kernel_rfl) (by simp) ?_
                refine (AllReadyH.cons (get_os (get_os (get_os (get_os (get_o0))))) (fun KK hKK => ?_) AllReadyH.nil)
                refine step_buildSlice1 rfl E_rw (.tmp 11) rfl (D.cs) rfl rfl (by omega) ?_
                replace H := Lib.hid (H.out.addRow ((Bel.refl _).alloc _) (own_made _ 88 (D.cs) _ rfl)); (try simp only [List.set_cons_zero, List.set_cons_succ, List.cons_append, List.nil_append, List.eraseIdx_cons_zero, List.eraseIdx_cons_succ, List.setIfInBounds_toArray, World.size_alloc, selR, List.getD_cons_zero, List.getD_cons_succ] at H)
                refine hKK.out _ _ trivial (fun hHeld => ?_)
                clear hKK KK
                try simp only [Act.put, List.setIfInBounds_toArray, List.set_cons_zero, List.set_cons_succ]
                refine wpAnyH_ready (rs := [5]) (by kernel_rfl) (by simp) ?_
                refine (AllReadyH.cons (get_os (get_os (get_os (get_os (get_os (get_o0)))))) (fun KK hKK => ?_) AllReadyH.nil)
                refine step_append0 rfl (.tmp 8) (.tmp 12) _ rfl E_rw 0 (Nat.zero_le _) _ k _ rfl (H.out.row 4 rfl) _ 1 1 _ rfl (Rd.of_own (H.out.row 8 rfl)) (rw1_one D) (by unfold maxLen; omega) (by omega) ?_
                intro vq wq howq hgq hatq
                replace H := Lib.hid (H.out.setRow 4 rfl hgq howq hatq); (try simp only [List.set_cons_zero, List.set_cons_succ, List.cons_append, List.nil_append, List.eraseIdx_cons_zero, List.eraseIdx_cons_succ, List.setIfInBounds_toArray, World.size_alloc, selR, List.getD_cons_zero, List.getD_cons_succ] at H)
                clear howq hgq hatq
                obtain ⟨A2, c2, rfl, _⟩ := own_slice (H.out.row 4 rfl)
                refine hKK.out _ _ trivial (fun hHeld => ?_)
                clear hKK KK
                try simp only [Act.put, List.setIfInBounds_toArray, List.set_cons_zero, List.set_cons_succ]
                refine wpAnyH_ready (rs := [6]) (by kernel_rfl) (by simp) ?_
                refine (AllReadyH.cons (get_os (get_os (get_os (get_os (get_os (get_os (get_o0))))))) (fun KK hKK => ?_) AllReadyH.nil)
                have c1 := (H.out.blk 3 rfl).cell 0; simp only [List.getElem?_toArray, List.getElem?_cons_zero, List.getElem?_cons_succ] at c1; have f1 := (H.out.blk 3 rfl).frozen 0
                go_simp
                replace H := Lib.hid (H.out.setCell 3 rfl 0 (.slice A2 (k + 1) c2)); (try simp only [List.set_cons_zero, List.set_cons_succ, List.cons_append, List.nil_append, List.eraseIdx_cons_zero, List.eraseIdx_cons_succ, List.setIfInBounds_toArray, World.size_alloc, selR, List.getD_cons_zero, List.getD_cons_succ] at H)
                clear c1 f1
                refine hKK.out _ _ trivial (fun hHeld => ?_)
                clear hKK KK
                try simp only [Act.put, List.setIfInBounds_toArray, List.set_cons_zero, List.set_cons_succ]
                refine wpAnyH_done (by kernel_rfl) ?_ _
                clear hHeld
                replace H := Lib.hid (H.out.both 5 7 (by omega) rfl rfl (rList rRw (rows ++ [D])) (holds_list_snoc (H.out.get 5 rfl) (H.out.get 7 rfl)) list_snoc_D); (try simp only [List.set_cons_zero, List.set_cons_succ, List.cons_append, List.nil_append, List.eraseIdx_cons_zero, List.eraseIdx_cons_succ, List.setIfInBounds_toArray, World.size_alloc, selR, List.getD_cons_zero, List.getD_cons_succ] at H)
                replace H := Lib.hid (H.out.sel [0, 1, 2, 3, 4, 5, 6] (by decide) (by simp)); (try simp only [List.set_cons_zero, List.set_cons_succ, List.cons_append, List.nil_append, List.eraseIdx_cons_zero, List.eraseIdx_cons_succ, List.setIfInBounds_toArray, World.size_alloc, selR, List.getD_cons_zero, List.getD_cons_succ] at H)
                have HN2 : Hid (pmany (prow d.dm.n d.ms.n) n [] l1 = pmany (prow d.dm.n d.ms.n) (n - (k + 1)) ((rows ++ [D]).map Rw.con) l3) := by show _ = _; rw [HN.out, List.map_append, List.map_cons, List.map_nil, HDc.out]
                go_wp2_with fail
                go_roundg (n - (k + 1))
                case rel => exact ⟨k + 1, rows ++ [D], A2, c2, l3, rfl, by omega, by go_num, by show _ = _; rw [List.length_append, hac.out]; rfl, by rw [List.flatMap_append, List.flatMap_cons, List.flatMap_nil, List.append_nil]; exact H, HN2⟩
                case measure => rw [Hgk.out]; omega
              · refine step_buildSlice1 rfl E_rw (.tmp 11) rfl (D.cs) rfl rfl (by omega) ?_
                replace H := Lib.hid (H.out.addRow ((Bel.refl _).alloc _) (own_made _ 88 (D.cs) _ rfl)); (try simp only [List.set_cons_zero, List.set_cons_succ, List.cons_append, List.nil_append, List.eraseIdx_cons_zero, List.eraseIdx_cons_succ, List.setIfInBounds_toArray, World.size_alloc, selR, List.getD_cons_zero, List.getD_cons_succ] at H)
                refine hKK.out _ _ trivial (fun hHeld => ?_)
                clear hKK KK
                try simp only [Act.put, List.setIfInBounds_toArray, List.set_cons_zero, List.set_cons_succ]
                refine wpAnyH_ready (rs := [0]) (by kernel_rfl) (by simp) ?_
                refine (AllReadyH.cons (get_o0) (fun KK hKK => ?_) AllReadyH.nil)
                have c1 := (H.out.blk 3 rfl).cell 0; simp only [List.getElem?_toArray, List.getElem?_cons_zero, List.getElem?_cons_succ] at c1
                go_simp
                clear c1
                refine hKK.out _ _ trivial (fun hHeld => ?_)
                clear hKK KK
                try simp only [Act.put, List.setIfInBounds_toArray, List.set_cons_zero, List.set_cons_succ]
                refine wpAnyH_ready (rs := [5]) (by kernel_rfl) (by simp) ?_
                refine (AllReadyH.cons (get_os (get_os (get_os (get_os (get_os (get_o0)))))) (fun KK hKK => ?_) AllReadyH.nil)
                refine step_append0 rfl (.tmp 8) (.tmp 12) _ rfl E_rw 0 (Nat.zero_le _) _ k _ rfl (H.out.row 4 rfl) _ 1 1 _ rfl (Rd.of_own (H.out.row 8 rfl)) (rw1_one D) (by unfold maxLen; omega) (by omega) ?_
                intro vq wq howq hgq hatq
                replace H := Lib.hid (H.out.setRow 4 rfl hgq howq hatq); (try simp only [List.set_cons_zero, List.set_cons_succ, List.cons_append, List.nil_append, List.eraseIdx_cons_zero, List.eraseIdx_cons_succ, List.setIfInBounds_toArray, World.size_alloc, selR, List.getD_cons_zero, List.getD_cons_succ] at H)
                clear howq hgq hatq
                obtain ⟨A2, c2, rfl, _⟩ := own_slice (H.out.row 4 rfl)
                refine hKK.out _ _ trivial (fun hHeld => ?_)
                clear hKK KK
                try simp only [Act.put, List.setIfInBounds_toArray, List.set_cons_zero, List.set_cons_succ]
                refine wpAnyH_ready (rs := [6]) (by kernel_rfl) (by simp) ?_
                refine (AllReadyH.cons (get_os (get_os (get_os (get_os (get_os (get_os (get_o0))))))) (fun KK hKK => ?_) AllReadyH.nil)
                have c1 := (H.out.blk 3 rfl).cell 0; simp only [List.getElem?_toArray, List.getElem?_cons_zero, List.getElem?_cons_succ] at c1; have f1 := (H.out.blk 3 rfl).frozen 0
                go_simp
                replace H := Lib.hid (H.out.setCell 3 rfl 0 (.slice A2 (k + 1) c2)); (try simp only [List.set_cons_zero, List.set_cons_succ, List.cons_append, List.nil_append, List.eraseIdx_cons_zero, List.eraseIdx_cons_succ, List.setIfInBounds_toArray, World.size_alloc, selR, List.getD_cons_zero, List.getD_cons_succ] at H)
                clear c1 f1
                refine hKK.out _ _ trivial (fun hHeld => ?_)
                clear hKK KK
                try simp only [Act.put, List.setIfInBounds_toArray, List.set_cons_zero, List.set_cons_succ]
                refine wpAnyH_done (by kernel_rfl) ?_ _
                clear hHeld
                replace H := Lib.hid (H.out.both 5 7 (by omega) rfl rfl (rList rRw (rows ++ [D])) (holds_list_snoc (H.out.get 5 rfl) (H.out.get 7 rfl)) list_snoc_D); (try simp only [List.set_cons_zero, List.set_cons_succ, List.cons_append, List.nil_append, List.eraseIdx_cons_zero, List.eraseIdx_cons_succ, List.setIfInBounds_toArray, World.size_alloc, selR, List.getD_cons_zero, List.getD_cons_succ] at H)
                replace H := Lib.hid (H.out.sel [0, 1, 2, 3, 4, 5, 6] (by decide) (by simp)); (try simp only [List.set_cons_zero, List.set_cons_succ, List.cons_append, List.nil_append, List.eraseIdx_cons_zero, List.eraseIdx_cons_succ, List.setIfInBounds_toArray, World.size_alloc, selR, List.getD_cons_zero, List.getD_cons_succ] at H)
                have HN2 : Hid (pmany (prow d.dm.n d.ms.n) n [] l1 = pmany (prow d.dm.n d.ms.n) (n - (k + 1)) ((rows ++ [D]).map Rw.con) l3) := by show _ = _; rw [HN.out, List.map_append, List.map_cons, List.map_nil, HDc.out]
                go_wp2_with fail
                go_roundg (n - (k + 1))
                case rel => exact ⟨k + 1, rows ++ [D], A2, c2, l3, rfl, by omega, by go_num, by show _ = _; rw [List.length_append, hac.out]; rfl, by rw [List.flatMap_append, List.flatMap_cons, List.flatMap_nil, List.append_nil]; exact H, HN2⟩
                case measure => rw [Hgk.out]; omega
      · have HN : Hid (prws d.dm.n d.ms.n s = .ok (rows.map Rw.con, l')) := by show _ = _; rw [HE.out, HP.out, show n - k = 0 by omega]; rfl
        clear HP HE
        go_wp2_with fail
        go_end0
        have H9 : SL No w0 _ (rAll B s l' [rBlk g 82 #[.slice A k c], rRow 88 2 (.slice A k c) k (rows.flatMap Cel.cells), rList rRw rows, rBlk z 70 d.cs]) := H.out
        exact SL.ok H9 ⟨by rw [HN.out]; rfl, ⟨A, k, c, rows⟩, l', H9, by show k ≤ 300; omega, fun rs r h => by rw [HN.out] at h; injection h with h; injection h with h _⟩

/-- Rows of the call's own, with all that they hold. -/
abbrev rBat (X : Row Rw) : Res := ⟨fun g => (rRow 88 2 (.slice X.A X.n X.c) X.n (X.l.flatMap Cel.cells)).D g ∨ (rList rRw X.l).D g, fun w => X.rd w ∧ X.n ≤ 300⟩
theorem holds_bat {X : Row Rw} {w : World} (h1 : (rRow 88 2 (.slice X.A X.n X.c) X.n (X.l.flatMap Cel.cells)).holds w) (h2 : (rList rRw X.l).holds w) (h3 : X.n ≤ 300) : (rBat X).holds w :=
  ⟨fun g hg => hg.elim (h1.1 g) (h2.1 g), fun w' hs hk => ⟨⟨Rd.of_own (h1.2 w' hs fun g hg => hk g (.inl hg)), fun r hr => (h2.2 w' hs (fun g hg => hk g (.inr hg)) r hr).rd, by omega⟩, h3⟩⟩
theorem holds_bat_nil (w : World) : (rBat ⟨none, 0, 0, []⟩).holds w := holds_bat (holds_row (World.ownsRow_nil w 0 _ _)) (holds_list_nil _ w) (by show 0 ≤ 300; omega)
theorem bat_nil_new {m : Nat} : ∀ g, (rBat ⟨none, 0, 0, []⟩).D g → m ≤ g := by
  rintro g (h | ⟨T, hT, _⟩)
  · simp [Value.ownBlock] at h
  · cases hT
def Tkbat (r : List RC × Int) (w : World) (e : Ending) (w' : World) : Prop := ∃ X : Row Rw, e = .returned (.tuple #[.slice X.A X.n X.c, .int .i64 r.2]) ∧ X.l.map Rw.con = r.1 ∧ Bel w w' ∧ NewR w w' (rBat X)

set_option maxRecDepth 100000 in
set_option maxHeartbeats 2000000 in
theorem battake_any (d : Sch) (s : List UInt8) (w : World) (hd : d.rd w) (hs : s.length ≤ 1000001) (hn : d.dm.n ≤ 1000000) (hm : d.ms.n ≤ 1000000) (hdd : ∀ x ∈ d.dm.l, x.tr.n ≤ 1000000 ∧ ∀ t ∈ x.tr.l, t.up.n ≤ 100000) :
    Calls Try.prog 57 #[.agg d.cs, .string ⟨s.toArray⟩] w (Tkbat (battake d.con s) w) := by
  have hmf : ∀ (fn : Fn) (first cap : Array Value) (w : World), (Instr.makeFunc fn first cap).run Try.prog w = .ok (.func fn first cap) w := fun _ _ _ _ => rfl
  have HC := Lib.hid (fun w' (hb : Bel w w') => schcheck_any d w' (hd.mono hb) hn hm hdd)
  have HBC := Lib.hid (fun (X : Row Rw) w' (hX : X.rd w') (hb : Bel w w') => batcheck_any d X w' (hd.mono hb) hX hn hm hdd)
  have hl1 : d.con.dims.length = d.dm.n := by have : d.dm.l.length = d.dm.n := hd.dm.len; simpa using this
  have hl2 : d.con.ms.length = d.ms.n := by have : d.ms.l.length = d.ms.n := hd.ms.len; simpa using this
  have H := Lib.hid ((SL.start No w).alloc d.cs 70)
  (try simp only [List.set_cons_zero, List.set_cons_succ, List.cons_append, List.nil_append, List.eraseIdx_cons_zero, List.eraseIdx_cons_succ, List.setIfInBounds_toArray, World.size_alloc, selR, List.getD_cons_zero, List.getD_cons_succ] at H)
  have hcs : d.cs = #[.slice d.dm.A d.dm.n d.dm.c, .slice d.ms.A d.ms.n d.ms.c] := rfl
  have HCS := Lib.hid hcs
  clear hcs hd hdd
  by_cases hE : schErr d.con = 0
  · obtain ⟨_, q2, _, _, q5, _⟩ := schErr_zero hE
    have hn16 : d.dm.n ≤ 16 := by omega
    have hm3 : d.ms.n ≤ 3 := by omega
    have HT0 : Hid (battake d.con s = match prws d.dm.n d.ms.n s with
      | .error k => ([], k)
      | .ok (rows, r) => if r = [] then (if batErr d.con rows = 0 then (rows, 0) else ([], batErr d.con rows)) else ([], 3)) := by
      show _ = _
      unfold battake
      rw [if_neg (by omega), hl1, hl2]
      rfl
    rw [hE] at HC
    clear hE q2 q5 hl1 hl2
    go_enter Try.func57, Try.ntmps57
    rw [← HCS.out] at *
    go_wp2_with ((with_reducible show wpList _ _ _ (⟨some 9, _, _, _, _, _⟩ :: _) _ _); (refine wpList_load_blk rfl rowSch (.tmp 2) rfl _ rfl (H.out.blk 0 rfl) rfl ?_))
    refine (HC.out _ H.out.to).mono ?_; rintro e w1 ⟨rfl, hb1⟩
    replace H := Lib.hid (H.out.bel hb1); (try simp only [List.set_cons_zero, List.set_cons_succ, List.cons_append, List.nil_append, List.eraseIdx_cons_zero, List.eraseIdx_cons_succ, List.setIfInBounds_toArray, World.size_alloc, selR, List.getD_cons_zero, List.getD_cons_succ] at H)
    clear hb1 HC
    generalize w.heap.size = z at *
    go_wp2_with fail
    replace H := Lib.hid (H.out.alloc #[.slice none 0 0] 82); (try simp only [List.set_cons_zero, List.set_cons_succ, List.cons_append, List.nil_append, List.eraseIdx_cons_zero, List.eraseIdx_cons_succ, List.setIfInBounds_toArray, World.size_alloc, selR, List.getD_cons_zero, List.getD_cons_succ] at H)
    replace H := Lib.hid (H.out.addNil 88 2); (try simp only [List.set_cons_zero, List.set_cons_succ, List.cons_append, List.nil_append, List.eraseIdx_cons_zero, List.eraseIdx_cons_succ, List.setIfInBounds_toArray, World.size_alloc, selR, List.getD_cons_zero, List.getD_cons_succ] at H)
    replace H := Lib.hid (H.out.add (Bel.refl _) (rList rRw []) (holds_list_nil _ _) list_nil_D); (try simp only [List.set_cons_zero, List.set_cons_succ, List.cons_append, List.nil_append, List.eraseIdx_cons_zero, List.eraseIdx_cons_succ, List.setIfInBounds_toArray, World.size_alloc, selR, List.getD_cons_zero, List.getD_cons_succ] at H)
    replace H := Lib.hid (H.out.sel [1, 2, 3, 0] (by decide) (by simp)); (try simp only [List.set_cons_zero, List.set_cons_succ, List.cons_append, List.nil_append, List.eraseIdx_cons_zero, List.eraseIdx_cons_succ, List.setIfInBounds_toArray, World.size_alloc, selR, List.getD_cons_zero, List.getD_cons_succ] at H)
    generalize w1.heap.size = g at *
    generalize w1.alloc (.cells #[.slice none 0 0] 82) = W at *
    refine (all_any 112 #[.pointer (some ⟨g, 0, none⟩), .pointer (some ⟨z, 0, none⟩)] s W hs (Rbat w s W.heap.size g z d (prws d.dm.n d.ms.n s)) (cf_any Try.func112 (by kernel_rfl) (by kernel_rfl)) (fun w4 h1 h2 h3 h4 h5 => battake1_any w W.heap.size g z s d w4 hn16 hm3 (H.out.begin h1 h3 h4 h5))).mono ?_
    rintro e w5 ⟨k, w4, rfl, ⟨hk, X, q, hS, hX300, hD⟩, hbut, _⟩
    replace H := Lib.hid (hS.ended hbut); (try simp only [List.set_cons_zero, List.set_cons_succ, List.cons_append, List.nil_append, List.eraseIdx_cons_zero, List.eraseIdx_cons_succ, List.setIfInBounds_toArray, World.size_alloc, selR, List.getD_cons_zero, List.getD_cons_succ] at H)
    clear hS hbut
    generalize W.heap.size = B at *
    cases hT : prws d.dm.n d.ms.n s with
    | error k' =>
      have HT : Hid (battake d.con s = ([], k')) := by show _ = _; rw [HT0.out, hT]
      have hk' := prws_err hT
      rw [hT] at hk
      have hk2 : k = k' := hk
      subst hk2
      have dk : (k == 0) = false := by simpa using hk'
      have dk2 : (k != 0) = true := by simpa using hk'
      clear hT hk hk' hD HT0
      go_wp2
      go_ret2
      rw [HT.out]
      exact ⟨⟨none, 0, 0, []⟩, rfl, rfl, H.out.to, holds_bat_nil _, bat_nil_new⟩
    | ok q =>
      obtain ⟨rs, l⟩ := q
      rw [hT] at hk
      obtain rfl := hD _ _ hT
      by_cases hl : l = []
      · have HT1 : Hid (battake d.con s = if batErr d.con (X.l.map Rw.con) = 0 then (X.l.map Rw.con, 0) else ([], batErr d.con (X.l.map Rw.con))) := by show _ = _; rw [HT0.out, hT]; simp only; rw [if_pos hl]
        have hk2 : k = 0 := by rw [hk]; show (if l = [] then (0 : Int) else 3) = 0; rw [if_pos hl]
        subst hk2
        clear hT hk hl hD HT0
        replace H := Lib.hid (H.out.both 1 2 (by omega) rfl rfl (rBat X) (holds_bat (H.out.get 1 rfl) (H.out.get 2 rfl) hX300) (fun g hg => hg)); (try simp only [List.set_cons_zero, List.set_cons_succ, List.cons_append, List.nil_append, List.eraseIdx_cons_zero, List.eraseIdx_cons_succ, List.setIfInBounds_toArray, World.size_alloc, selR, List.getD_cons_zero, List.getD_cons_succ] at H)
        have c0 := (H.out.blk 0 rfl).cell 0; simp only [List.getElem?_toArray, List.getElem?_cons_zero, List.getElem?_cons_succ] at c0
        go_wp2_with ((with_reducible show wpList _ _ _ (⟨some 19, _, _, _, _, _⟩ :: _) _ _); (refine wpList_load_blk rfl rowSch (.tmp 2) rfl _ rfl (H.out.blk 2 rfl) rfl ?_))
        refine (HBC.out X _ (H.out.at_ 1 rfl).1 H.out.to).mono ?_; rintro e w6 ⟨rfl, hb6⟩
        replace H := Lib.hid (H.out.bel hb6); (try simp only [List.set_cons_zero, List.set_cons_succ, List.cons_append, List.nil_append, List.eraseIdx_cons_zero, List.eraseIdx_cons_succ, List.setIfInBounds_toArray, World.size_alloc, selR, List.getD_cons_zero, List.getD_cons_succ] at H)
        clear hb6 HBC c0
        by_cases hE2 : batErr d.con (X.l.map Rw.con) = 0
        · have HT : Hid (battake d.con s = (X.l.map Rw.con, 0)) := by show _ = _; rw [HT1.out, if_pos hE2]
          rw [hE2]
          clear hE2 HT1
          have c0 := (H.out.blk 0 rfl).cell 0; simp only [List.getElem?_toArray, List.getElem?_cons_zero, List.getElem?_cons_succ] at c0
          go_wp2
          go_ret2
          rw [HT.out]
          exact ⟨X, rfl, rfl, H.out.to, H.out.get 1 rfl, H.out.new 1 rfl⟩
        · have HT : Hid (battake d.con s = ([], batErr d.con (X.l.map Rw.con))) := by show _ = _; rw [HT1.out, if_neg hE2]
          have dk : (batErr d.con (X.l.map Rw.con) == 0) = false := by simpa using hE2
          have dk2 : (batErr d.con (X.l.map Rw.con) != 0) = true := by simpa using hE2
          clear hE2 HT1
          go_wp2
          go_ret2
          rw [HT.out]
          exact ⟨⟨none, 0, 0, []⟩, rfl, rfl, H.out.to, holds_bat_nil _, bat_nil_new⟩
      · have HT : Hid (battake d.con s = ([], 3)) := by show _ = _; rw [HT0.out, hT]; simp only; rw [if_neg hl]
        have hk2 : k = 3 := by rw [hk]; show (if l = [] then (0 : Int) else 3) = 3; rw [if_neg hl]
        subst hk2
        clear hT hk hl hD HT0
        go_wp2
        go_ret2
        rw [HT.out]
        exact ⟨⟨none, 0, 0, []⟩, rfl, rfl, H.out.to, holds_bat_nil _, bat_nil_new⟩
  · have HT : Hid (battake d.con s = ([], schErr d.con)) := by show _ = _; unfold battake; rw [if_pos hE]
    have dE : (schErr d.con == 0) = false := by simpa using hE
    have dE2 : (schErr d.con != 0) = true := by simpa using hE
    clear hE
    go_enter Try.func57, Try.ntmps57
    rw [← HCS.out] at *
    go_wp2_with ((with_reducible show wpList _ _ _ (⟨some 9, _, _, _, _, _⟩ :: _) _ _); (refine wpList_load_blk rfl rowSch (.tmp 2) rfl _ rfl (H.out.blk 0 rfl) rfl ?_))
    refine (HC.out _ H.out.to).mono ?_; rintro e w1 ⟨rfl, hb1⟩
    replace H := Lib.hid (H.out.bel hb1); (try simp only [List.set_cons_zero, List.set_cons_succ, List.cons_append, List.nil_append, List.eraseIdx_cons_zero, List.eraseIdx_cons_succ, List.setIfInBounds_toArray, World.size_alloc, selR, List.getD_cons_zero, List.getD_cons_succ] at H)
    clear hb1 HC
    go_wp2
    go_ret2
    rw [HT.out]
    exact ⟨⟨none, 0, 0, []⟩, rfl, rfl, H.out.to, holds_bat_nil _, bat_nil_new⟩

end Go.Proofs.Ytnjpoamebkehbaa
