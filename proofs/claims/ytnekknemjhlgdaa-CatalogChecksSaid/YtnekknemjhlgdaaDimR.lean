/- dim.Read: a dimension read by a reader. -/
import Derived.Test.YtnekknemjhlgdaaSepT
namespace Go.Proofs.Ytnekknemjhlgdaa
open Go.RowKit
set_option linter.unusedVariables false
set_option linter.unusedSimpArgs false

/-- How dim.Read ends. -/
def DmPost (b : Nat) (s : List UInt8) (o : PR DC) (w : World) (e : Ending) (w' : World) : Prop :=
  match o with
  | .error k => RErr b s k w e w'
  | .ok (d, l) => ∃ D : Dm, e = .returned (.agg D.cs) ∧ D.con = d ∧ w.grownBy w' (some b) ∧ Rdr w' b s l ∧ NewR w w' (rDm D)
theorem own_made (w : World) (t : TypeId) (cs : Array Value) (size : Nat) (hs : cs.size = size) : (w.alloc (.cells cs t)).ownsRow w.heap.size t size (.slice (some ⟨w.heap.size, 0, none⟩) 1 1) 1 cs.toList :=
  ⟨by simp [hs], .inr ⟨w.heap.size, 1, cs, rfl, Nat.le_refl _, heap_alloc_new w _, Nat.le_refl _, by unfold maxLen; omega, by omega, by rw [List.take_of_length_le (by simp [hs])]⟩⟩
theorem tirs_one (l : List Tir) : ∀ u ∈ (l.flatMap Cel.cells : List Value), u.oneCell' = true := by
  intro u hu
  obtain ⟨T, _, hT⟩ := List.mem_flatMap.1 hu
  have := tir_one T
  rw [Array.all_eq_true'] at this
  exact this u (Array.mem_toList_iff.1 hT)
theorem pdims_err {n : Nat} {k : Int} : ∀ {acc : List TC} {l : List UInt8}, pdims n acc l = .error k → k ≠ 0 := by
  induction n with
  | zero => intro acc l h; cases h
  | succ n ih =>
    intro acc l h
    rw [pdims] at h
    split at h
    · rename_i h1; injection h with h; subst h; exact ptier_err h1
    · exact ih h
theorem pdim_err {k : Int} {l : List UInt8} (h : pdim l = .error k) : k ≠ 0 := by
  unfold pdim at h
  split at h
  · rename_i h1; injection h with h; subst h; have := ptxt_err h1; omega
  · split at h
    · rename_i h1; injection h with h; subst h; have := pnum_err h1; omega
    · split at h
      · rename_i h1; injection h with h; subst h; exact pdims_err h1
      · unfold pdimC at h
        split at h
        · cases h
        · rename_i h1; injection h with h; subst h; exact h1

set_option maxRecDepth 100000 in
set_option maxHeartbeats 1000000 in
theorem dmread_any (b : Nat) (s l : List UInt8) (w : World) (hR : Rdr w b s l) :
    Calls Try.prog 143 #[.pointer (some ⟨b, 0, none⟩)] w (DmPost b s (pdim l) w) := by
  have hbw := hR.lt
  have H := Lib.hid ((SL.rdr1 w hR).alloc #[.string ⟨#[]⟩, .slice none 0 0] 64)
  (try simp only [List.set_cons_zero, List.set_cons_succ, List.cons_append, List.nil_append, List.eraseIdx_cons_zero, List.eraseIdx_cons_succ, List.setIfInBounds_toArray, World.size_alloc, selR, List.getD_cons_zero, List.getD_cons_succ] at H)
  clear hR
  go_enter Try.func143, Try.ntmps143
  go_wp2_with fail
  generalize w.heap.size = z at *
  generalize w.alloc (.cells #[.string ⟨#[]⟩, .slice none 0 0] 64) = w1 at *
  have HT := Lib.hid (text_any b s l 12 w1 (H.out.rdr 0 rfl) (by omega) (by omega))
  cases hx : ptxt 12 l with
  | error k =>
    have HE : Hid (pdim l = .error k) := by show _ = _; unfold pdim; rw [hx]
    rw [hx] at HT
    clear hx
    refine HT.out.mono ?_; rintro e w2 ⟨rfl, hg, l1, hr⟩
    replace H := Lib.hid (H.out.setRdr 0 rfl hg hr); (try simp only [List.set_cons_zero, List.set_cons_succ, List.cons_append, List.nil_append, List.eraseIdx_cons_zero, List.eraseIdx_cons_succ, List.setIfInBounds_toArray, World.size_alloc, selR, List.getD_cons_zero, List.getD_cons_succ] at H)
    clear hg hr
    go_wp2_with fail
    refine ⟨rfl, ?_⟩
    rw [HE.out]
    exact ⟨rfl, H.out.fr.grown, l1, H.out.rdr 0 rfl⟩
  | ok q =>
    obtain ⟨nm, l1⟩ := q
    have hnm := (ptxt_ok hx).1
    have HE : Hid (pdim l = match pnum 4 l1 with | .error k => .error k | .ok (n, r) => match pdims n [] r with | .error k => .error k | .ok (trs, r) => pdimC ⟨nm, trs⟩ r) := by show _ = _; unfold pdim; rw [hx]; rfl
    rw [hx] at HT
    clear hx
    refine HT.out.mono ?_; rintro e w2 ⟨rfl, hg, hr⟩
    replace H := Lib.hid (H.out.setRdr 0 rfl hg hr); (try simp only [List.set_cons_zero, List.set_cons_succ, List.cons_append, List.nil_append, List.eraseIdx_cons_zero, List.eraseIdx_cons_succ, List.setIfInBounds_toArray, World.size_alloc, selR, List.getD_cons_zero, List.getD_cons_succ] at H)
    clear hg hr HT
    go_wp2_with ((with_reducible show wpList _ _ _ (⟨_, .store _ (.tmp 3) _, _, _, _, _⟩ :: _) _ _); refine wpList_store_new rfl rowDm (.tmp 3) (.tmp 9) rfl rfl rfl #[.string ⟨nm.toArray⟩, .slice none 0 0] rfl rfl (by simp [Value.oneCell']) ?_; replace H := Lib.hid (H.out.alloc #[.string ⟨nm.toArray⟩, .slice none 0 0] 64); (try simp only [List.set_cons_zero, List.set_cons_succ, List.cons_append, List.nil_append, List.eraseIdx_cons_zero, List.eraseIdx_cons_succ, List.setIfInBounds_toArray, World.size_alloc, selR, List.getD_cons_zero, List.getD_cons_succ] at H))
    generalize w2.heap.size = y at *
    generalize w2.alloc (.cells #[.string ⟨nm.toArray⟩, .slice none 0 0] 64) = w3 at *
    have HT := Lib.hid (num_any b s l1 4 w3 (H.out.rdr 0 rfl) (by omega) (by omega))
    cases hx : pnum 4 l1 with
    | error k =>
      rw [hx] at HT HE
      clear hx
      refine HT.out.mono ?_; rintro e w4 ⟨rfl, hg, l2, hr⟩
      replace H := Lib.hid (H.out.setRdr 0 rfl hg hr); (try simp only [List.set_cons_zero, List.set_cons_succ, List.cons_append, List.nil_append, List.eraseIdx_cons_zero, List.eraseIdx_cons_succ, List.setIfInBounds_toArray, World.size_alloc, selR, List.getD_cons_zero, List.getD_cons_succ] at H)
      clear hg hr
      go_wp2_with fail
      refine ⟨rfl, ?_⟩
      rw [HE.out]
      exact ⟨rfl, H.out.fr.grown, l2, H.out.rdr 0 rfl⟩
    | ok q =>
      obtain ⟨n, l2⟩ := q
      have hn4 := (pnum_ok hx).2.1
      rw [hx] at HT HE
      clear hx
      refine HT.out.mono ?_; rintro e w4 ⟨rfl, hg, hr⟩
      replace H := Lib.hid (H.out.setRdr 0 rfl hg hr); (try simp only [List.set_cons_zero, List.set_cons_succ, List.cons_append, List.nil_append, List.eraseIdx_cons_zero, List.eraseIdx_cons_succ, List.setIfInBounds_toArray, World.size_alloc, selR, List.getD_cons_zero, List.getD_cons_succ] at H)
      clear hg hr HT
      replace H := Lib.hid (H.out.addNil 140 3); (try simp only [List.set_cons_zero, List.set_cons_succ, List.cons_append, List.nil_append, List.eraseIdx_cons_zero, List.eraseIdx_cons_succ, List.setIfInBounds_toArray, World.size_alloc, selR, List.getD_cons_zero, List.getD_cons_succ] at H)
      replace H := Lib.hid (H.out.add (Bel.refl _) _ (holds_tirs_nil w4) (fun g hg => by obtain ⟨T, hT, _⟩ := hg; cases hT)); (try simp only [List.set_cons_zero, List.set_cons_succ, List.cons_append, List.nil_append, List.eraseIdx_cons_zero, List.eraseIdx_cons_succ, List.setIfInBounds_toArray, World.size_alloc, selR, List.getD_cons_zero, List.getD_cons_succ] at H)
      go_wp2_with fail
      have HP0 : Hid (pdims n [] l2 = pdims (n - 0) (([] : List Tir).map Tir.con) l2) := rfl
      go_loopg [4, 12] n (fun gg s4 s12 wr => ∃ (k : Nat) (acc : List Tir) (A : Option Addr) (c : Nat) (l' : List UInt8), gg = n - k ∧ k ≤ n ∧ s12 = .int .i64 k ∧ s4 = .int .i64 (aboveOf (acc.map Tir.con)) ∧ Hid (acc.length = k) ∧ Hid (SL (One b) w wr [rRdr b s l', rBlk z 64 #[.string ⟨#[]⟩, .slice none 0 0], rBlk y 64 #[.string ⟨nm.toArray⟩, .slice A k c], rRow 140 3 (.slice A k c) k (acc.flatMap Cel.cells), rTirs acc]) ∧ Hid (pdims n [] l2 = pdims (n - k) (acc.map Tir.con) l'))
      case atStart => exact ⟨0, [], none, 0, l2, rfl, by omega, rfl, rfl, rfl, H, HP0⟩
      case round =>
        clear H HP0
        obtain ⟨k, acc, A, c, l', hgk, hk, rfl, rfl, hac, H, HP⟩ := hrel
        have Hgk := Lib.hid hgk
        have hk4 : k ≤ 4 := by omega
        clear hgk
        by_cases hlt : k < n
        · have hab : I64 (aboveOf (acc.map Tir.con)) := by
            unfold I64
            cases acc with
            | nil => simp [aboveOf]
            | cons u r =>
              have h1 := (H.out.at_ 4 rfl) u (List.mem_cons_self ..)
              have h2 := Row.rd.len (Tir.rd.ts h1.rd)
              have h3 := h1.tn
              show _ ≤ ((u.ts.l.length : Nat) : Int) ∧ ((u.ts.l.length : Nat) : Int) ≤ _
              omega
          have HT := Lib.hid (trread_any b s l' (aboveOf (acc.map Tir.con)) wr (H.out.rdr 0 rfl) hab)
          have HN : Hid (pdims n [] l2 = match ptier (aboveOf (acc.map Tir.con)) l' with | .error k => .error k | .ok (t, r) => pdims (n - (k + 1)) (t :: acc.map Tir.con) r) := by show _ = _; rw [HP.out, show n - k = (n - (k + 1)) + 1 by omega, pdims]; rfl
          clear HP
          generalize hAB : aboveOf (acc.map Tir.con) = ab at *
          have HAB := Lib.hid hAB
          clear hAB
          go_wp2_with fail
          cases hx : ptier ab l' with
          | error e1 =>
            rw [hx] at HT HN
            clear hx
            refine HT.out.mono ?_; rintro e w5 ⟨rfl, hg, l3, hr⟩
            replace H := Lib.hid (H.out.setRdr 0 rfl hg hr); (try simp only [List.set_cons_zero, List.set_cons_succ, List.cons_append, List.nil_append, List.eraseIdx_cons_zero, List.eraseIdx_cons_succ, List.setIfInBounds_toArray, World.size_alloc, selR, List.getD_cons_zero, List.getD_cons_succ] at H)
            clear hg hr
            go_wp2_with fail
            refine ⟨rfl, ?_⟩
            rw [HE.out, show pdims n [] l2 = .error e1 from HN.out]
            exact ⟨rfl, H.out.fr.grown, l3, H.out.rdr 0 rfl⟩
          | ok q =>
            obtain ⟨tc, l3⟩ := q
            rw [hx] at HT HN
            clear hx
            refine HT.out.mono ?_; rintro e w5 ⟨T, rfl, hTc, hg, hr, hown⟩
            replace H := Lib.hid (H.out.setRdrAdd 0 rfl hg hr (rTir T) (holds_tir hown) (fun g hg => by have := tir_new hown g hg; omega)); (try simp only [List.set_cons_zero, List.set_cons_succ, List.cons_append, List.nil_append, List.eraseIdx_cons_zero, List.eraseIdx_cons_succ, List.setIfInBounds_toArray, World.size_alloc, selR, List.getD_cons_zero, List.getD_cons_succ] at H)
            have HTc := Lib.hid hTc
            have hTn := hown.tn
            clear hg hr HT hTc hown
            go_wp2_with (first | ((with_reducible show wpList _ _ _ (⟨_, .store _ (.tmp 5) _, _, _, _, _⟩ :: _) _ _); refine wpList_store_new rfl rowTir (.tmp 5) (.tmp 16) rfl rfl rfl T.cs rfl rfl (tir_one T) ?_; replace H := Lib.hid (H.out.alloc T.cs 140); (try simp only [List.set_cons_zero, List.set_cons_succ, List.cons_append, List.nil_append, List.eraseIdx_cons_zero, List.eraseIdx_cons_succ, List.setIfInBounds_toArray, World.size_alloc, selR, List.getD_cons_zero, List.getD_cons_succ] at H); have c1 := (H.out.blk 6 rfl).cell 1; simp only [List.getElem?_toArray, List.getElem?_cons_zero, List.getElem?_cons_succ] at c1) | ((with_reducible show wpList _ _ _ (⟨some 20, _, _, _, _, _⟩ :: _) _ _); refine wpList_load_blk rfl rowTir (.tmp 5) rfl _ rfl (H.out.blk 6 rfl) rfl ?_) | ((with_reducible show wpList _ _ _ (⟨some 21, _, _, _, _, _⟩ :: _) _ _); refine wpList_buildSlice1 rfl E_tir (.tmp 20) rfl T.cs rfl rfl (by omega) ?_; replace H := Lib.hid (H.out.addRow ((Bel.refl _).alloc _) (own_made _ 140 T.cs 3 rfl)); (try simp only [List.set_cons_zero, List.set_cons_succ, List.cons_append, List.nil_append, List.eraseIdx_cons_zero, List.eraseIdx_cons_succ, List.setIfInBounds_toArray, World.size_alloc, selR, List.getD_cons_zero, List.getD_cons_succ] at H); clear c1; have c0 := (H.out.blk 2 rfl).cell 1; simp only [List.getElem?_toArray, List.getElem?_cons_zero, List.getElem?_cons_succ] at c0) | ((with_reducible show wpList _ _ _ (⟨some 24, _, _, _, _, _⟩ :: _) _ _); (refine wpList_append0 rfl (.tmp 21) (.tmp 23) _ rfl E_tir 0 (Nat.zero_le _) _ 1 _ rfl (H.out.row 7 rfl) A k c (acc.flatMap Cel.cells) rfl (Rd.of_own (H.out.row 3 rfl)) (tirs_one acc) (by unfold maxLen; omega) (by omega) ?_; intro vq wq howq hgq hatq; replace H := Lib.hid (H.out.setRow 7 rfl hgq howq hatq); (try simp only [List.set_cons_zero, List.set_cons_succ, List.cons_append, List.nil_append, List.eraseIdx_cons_zero, List.eraseIdx_cons_succ, List.setIfInBounds_toArray, World.size_alloc, selR, List.getD_cons_zero, List.getD_cons_succ] at H); clear howq hgq hatq; obtain ⟨A2, c2, rfl, _⟩ := own_slice (H.out.row 7 rfl); clear c0; have c0 := (H.out.blk 2 rfl).cell 1; simp only [List.getElem?_toArray, List.getElem?_cons_zero, List.getElem?_cons_succ] at c0; have f0 := (H.out.blk 2 rfl).frozen 1)))
            replace H := Lib.hid (H.out.setCell 2 rfl 1 (.slice A2 (1 + k) c2)); (try simp only [List.set_cons_zero, List.set_cons_succ, List.cons_append, List.nil_append, List.eraseIdx_cons_zero, List.eraseIdx_cons_succ, List.setIfInBounds_toArray, World.size_alloc, selR, List.getD_cons_zero, List.getD_cons_succ] at H)
            replace H := Lib.hid (H.out.both 4 5 (by omega) rfl rfl (rTirs (T :: acc)) (holds_tirs_cons (H.out.get 5 rfl) (H.out.get 4 rfl)) tirs_cons_D); (try simp only [List.set_cons_zero, List.set_cons_succ, List.cons_append, List.nil_append, List.eraseIdx_cons_zero, List.eraseIdx_cons_succ, List.setIfInBounds_toArray, World.size_alloc, selR, List.getD_cons_zero, List.getD_cons_succ] at H)
            replace H := Lib.hid (H.out.sel [0, 1, 2, 6, 4] (by decide) (by simp)); (try simp only [List.set_cons_zero, List.set_cons_succ, List.cons_append, List.nil_append, List.eraseIdx_cons_zero, List.eraseIdx_cons_succ, List.setIfInBounds_toArray, World.size_alloc, selR, List.getD_cons_zero, List.getD_cons_succ] at H)
            clear c0 f0
            rw [Nat.add_comm 1 k] at H ⊢
            have hAb : T.ts.l.length = T.ts.n := Row.rd.len (Tir.rd.ts ((H.out.at_ 4 rfl) T (List.mem_cons_self ..)).rd)
            have HAbv : Hid (Value.int .i64 T.ts.n = .int .i64 (aboveOf ((T :: acc).map Tir.con))) := by
              show _ = _
              show _ = Value.int .i64 ((T.ts.l.length : Nat) : Int)
              rw [hAb]
            have HN2 : Hid (pdims n [] l2 = pdims (n - (k + 1)) ((T :: acc).map Tir.con) l3) := by show _ = _; rw [HN.out, List.map_cons, HTc.out]
            clear hAb HN
            go_wp2_with fail
            go_roundg (n - (k + 1))
            case rel => exact ⟨k + 1, T :: acc, A2, c2, l3, rfl, by omega, by go_num, HAbv, by show _ = _; rw [List.length_cons, hac.out], H, HN2⟩
            case measure => rw [Hgk.out]; omega
        · have HN : Hid (pdim l = pdimC ⟨nm, acc.map Tir.con⟩ l') := by show _ = _; rw [HE.out, HP.out, show n - k = 0 by omega]; rfl
          clear HP HE
          replace H := Lib.hid (H.out.both 3 4 (by omega) rfl rfl (rDm ⟨nm, ⟨A, k, c, acc⟩⟩) (holds_dm (by omega) hk4 (H.out.get 3 rfl) (H.out.get 4 rfl)) (fun g hg => hg)); (try simp only [List.set_cons_zero, List.set_cons_succ, List.cons_append, List.nil_append, List.eraseIdx_cons_zero, List.eraseIdx_cons_succ, List.setIfInBounds_toArray, World.size_alloc, selR, List.getD_cons_zero, List.getD_cons_succ] at H)
          obtain ⟨D, hD⟩ : ∃ D : Dm, D = ⟨nm, ⟨A, k, c, acc⟩⟩ := ⟨_, rfl⟩
          have hDs : D.cs = #[.string ⟨nm.toArray⟩, .slice A k c] := by rw [hD]
          have hDc : D.con = ⟨nm, acc.map Tir.con⟩ := by rw [hD]
          rw [← hD, ← hDs] at H
          rw [← hDc] at HN
          clear hD hDs hDc
          go_wp2_with ((with_reducible show wpList _ _ _ (⟨some 27, _, _, _, _, _⟩ :: _) _ _); refine wpList_load_blk rfl rowDm (.tmp 3) rfl _ rfl (H.out.blk 2 rfl) rfl ?_)
          refine (dmcheck_any D _ (H.out.at_ 3 rfl).rd (by have := (H.out.at_ 3 rfl).n4; omega) (fun t ht => by have := (H.out.at_ 3 rfl).up t ht; omega)).mono ?_; rintro e w5 ⟨rfl, hb5⟩
          replace H := Lib.hid (H.out.bel hb5); (try simp only [List.set_cons_zero, List.set_cons_succ, List.cons_append, List.nil_append, List.eraseIdx_cons_zero, List.eraseIdx_cons_succ, List.setIfInBounds_toArray, World.size_alloc, selR, List.getD_cons_zero, List.getD_cons_succ] at H)
          clear hb5
          have hEr := dimErr_range D.con
          by_cases hE0 : dimErr D.con = 0
          · have HN2 : Hid (pdim l = .ok (D.con, l')) := by show _ = _; rw [HN.out]; unfold pdimC; rw [if_pos hE0]
            rw [hE0]
            clear hE0 hEr HN
            go_wp2_with fail
            refine (want_yes b s l' 0 _ (H.out.rdr 0 rfl)).mono ?_; rintro e w6 ⟨rfl, rfl⟩
            go_wp2_with (first | ((with_reducible show wpList _ _ _ (⟨some 34, _, _, _, _, _⟩ :: _) _ _); refine wpList_load_blk rfl rowDm (.tmp 3) rfl _ rfl (H.out.blk 2 rfl) rfl ?_) | ((with_reducible show wpList _ _ _ (⟨_, .store _ (.tmp 2) _, _, _, _, _⟩ :: _) _ _); refine wpList_store_blk rfl rowDm (.tmp 2) (.tmp 34) rfl _ rfl (H.out.blk 1 rfl) rfl D.cs rfl rfl (dm_one D) ?_; intro wq bq hgq; replace H := Lib.hid (H.out.setBlk 1 rfl hgq bq); (try simp only [List.set_cons_zero, List.set_cons_succ, List.cons_append, List.nil_append, List.eraseIdx_cons_zero, List.eraseIdx_cons_succ, List.setIfInBounds_toArray, World.size_alloc, selR, List.getD_cons_zero, List.getD_cons_succ] at H); clear hgq bq))
            refine bodyPost_ret (results_blk1 rfl rowDm rfl (H.out.blk 1 rfl) rfl) rfl ?_
            rw [HN2.out]
            exact ⟨D, rfl, rfl, H.out.fr.grown, H.out.rdr 0 rfl, H.out.get 3 rfl, H.out.new1 3 0 (by omega) rfl rfl rfl⟩
          · have HN2 : Hid (pdim l = .error (dimErr D.con)) := by show _ = _; rw [HN.out]; unfold pdimC; rw [if_neg hE0]
            have HW : Hid (wantErr (dimErr D.con) = dimErr D.con) := by show _ = _; unfold wantErr; rw [if_neg hE0]
            have dE : (dimErr D.con == 0) = false := by simpa using hE0
            clear hE0 HN
            go_wp2_with fail
            refine (want_no b s l' (dimErr D.con) _ (H.out.rdr 0 rfl)).mono ?_; rintro e w6 ⟨rfl, rfl⟩
            go_wp2_with fail
            refine ⟨rfl, ?_⟩
            rw [HN2.out, HW.out]
            exact ⟨rfl, H.out.fr.grown, _, H.out.rdr 0 rfl⟩

end Go.Proofs.Ytnekknemjhlgdaa
