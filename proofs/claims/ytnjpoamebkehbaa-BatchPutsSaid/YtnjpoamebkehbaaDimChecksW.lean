/- The walk of the law DimChecks. -/
import Derived.Test.YtnjpoamebkehbaaDimA
import Derived.Test.YtnjpoamebkehbaaDimT
import Derived.Test.YtnjpoamebkehbaaDimZ
import Derived.Test.YtnjpoamebkehbaaDimY
import Derived.Test.YtnjpoamebkehbaaDimX
namespace Go.Proofs.Ytnjpoamebkehbaa
open Go.RowKit
set_option linter.unusedVariables false
set_option linter.unusedSimpArgs false

theorem dmtake_put {d : DC} (h : dimErr d = 0) : dmtake (dimPut d) = (d, 0) := by
  unfold dmtake
  have := pdim_put h []
  rw [List.append_nil] at this
  rw [this]
  simp
theorem flat_len {α : Type} {l : List α} {f : α → List UInt8} {m : Nat} (h : ∀ x ∈ l, (f x).length ≤ m) : (l.flatMap f).length ≤ m * l.length := by
  induction l with
  | nil => simp
  | cons a r ih =>
    rw [List.flatMap_cons, List.length_append, List.length_cons, Nat.mul_add]
    have h1 := h a (List.mem_cons_self ..)
    have h2 := ih fun x hx => h x (List.mem_cons_of_mem _ hx)
    omega
theorem allOk_mem {trs : List TC} (h : AllOk trs) {t : TC} (ht : t ∈ trs) : ∃ above, tierErr t above = 0 := by
  obtain ⟨k, hk⟩ := List.mem_iff_getElem?.1 ht
  exact ⟨_, allOk_at h hk⟩
theorem dimPut_len {d : DC} (h : dimErr d = 0) : (dimPut d).length ≤ 50000 := by
  obtain ⟨h1, h2, h3, h4⟩ := dimErr_zero h
  have h5 := isName_len h1
  have h6 := nput_le9 d.nm.length
  have h7 := nput_le9 d.trs.length
  have h8 : (d.trs.reverse.flatMap tierPut).length ≤ 10000 * d.trs.reverse.length := flat_len fun t ht => by
    obtain ⟨a, ha⟩ := allOk_mem (dimFrom_ok h4) (List.mem_reverse.1 ht)
    exact tierPut_len ha
  rw [List.length_reverse] at h8
  unfold dimPut ptext
  simp only [List.length_append]
  omega

set_option maxRecDepth 100000 in
set_option maxHeartbeats 1000000 in
theorem walk_dimChecks (w : World) (d : Dm) (hd : d.rd w) :
    Calls Try.prog 6 #[.agg d.cs] w fun e w' => e = .returned (.bool true) ∧ Bel w w' := by
  have HF := Lib.hid (fun w' (hb : Bel w w') => dmfew_any d w' (hd.mono hb))
  have HP := Lib.hid (fun (hn : d.tr.n ≤ 1000000) (hu : ∀ t ∈ d.tr.l, t.up.n ≤ 100000) w' (hb : Bel w w') => dmput_any d w' (hd.mono hb) hn hu)
  have HR := Lib.hid (fun (hn : d.tr.n ≤ 1000000) (hu : ∀ t ∈ d.tr.l, t.up.n ≤ 100000) w' (hb : Bel w w') => dmwrong_any d w' (hd.mono hb) hn)
  have HC := Lib.hid (fun (hn : d.tr.n ≤ 1000000) (hu : ∀ t ∈ d.tr.l, t.up.n ≤ 100000) w' (hb : Bel w w') => dmcheck_any d w' (hd.mono hb) hn hu)
  have H := Lib.hid ((SL.start No w).alloc d.cs 24)
  (try simp only [List.set_cons_zero, List.set_cons_succ, List.cons_append, List.nil_append, List.eraseIdx_cons_zero, List.eraseIdx_cons_succ, List.setIfInBounds_toArray, World.size_alloc, selR, List.getD_cons_zero, List.getD_cons_succ] at H)
  have hcs : d.cs = #[.string ⟨d.nm.toArray⟩, .slice d.tr.A d.tr.n d.tr.c] := rfl
  by_cases hE : dimErr d.con = 0
  · have hV : dimPutV d.con = (dimPut d.con, 0) := by unfold dimPutV; rw [if_pos hE]
    have hl := dimPut_len hE
    have HT := Lib.hid (fun w => dmtake_any (dimPut d.con) w (by omega))
    rw [dmtake_put hE] at HT
    have HRP := Lib.hid (fun w' (hb : Bel w w') => rdmput_any d w' (hd.mono hb) hE)
    have HS := Lib.hid (fun (D : Dm) w' (hD : D.rd w') (hb : Bel w w') => dmsame_any D d w' hD (hd.mono hb))
    rw [hV] at HP
    rw [hE] at HR HC
    have HCS := Lib.hid hcs
    clear hE hV hcs hd hl
    go_enter Try.func6, Try.ntmps6
    rw [← HCS.out] at *
    go_wp2_with ((with_reducible show wpList _ _ _ (⟨some 8, _, _, _, _, _⟩ :: _) _ _); refine wpList_load_blkG (by first | rfl | go_simp) rowDm (.tmp 1) (by rfl) _ (by rfl) (H.out.blk 0 rfl) rfl ?_)
    refine (HF.out _ H.out.to).mono ?_; rintro e w1 ⟨b, rfl, hfew, hb1⟩
    replace H := Lib.hid (H.out.bel hb1); (try simp only [List.set_cons_zero, List.set_cons_succ, List.cons_append, List.nil_append, List.eraseIdx_cons_zero, List.eraseIdx_cons_succ, List.setIfInBounds_toArray, World.size_alloc, selR, List.getD_cons_zero, List.getD_cons_succ] at H)
    clear hb1 HF
    cases b with
    | false =>
      clear hfew
      go_wp2_with fail
      refine (awake16_any _).mono ?_; rintro e w2 ⟨rfl, hb2⟩
      go_wp2
      go_ret
      exact ⟨rfl, H.out.to.trans hb2⟩
    | true =>
      obtain ⟨hn1, hn2⟩ := hfew rfl
      clear hfew
      go_wp2_with ((with_reducible show wpList _ _ _ (⟨some 13, _, _, _, _, _⟩ :: _) _ _); refine wpList_load_blkG (by first | rfl | go_simp) rowDm (.tmp 1) (by rfl) _ (by rfl) (H.out.blk 0 rfl) rfl ?_)
      refine (HP.out (by omega) (fun t ht => by have := (hn2 t ht).2; omega) _ H.out.to).mono ?_; rintro e w2 ⟨rfl, hb2⟩
      replace H := Lib.hid (H.out.bel hb2); (try simp only [List.set_cons_zero, List.set_cons_succ, List.cons_append, List.nil_append, List.eraseIdx_cons_zero, List.eraseIdx_cons_succ, List.setIfInBounds_toArray, World.size_alloc, selR, List.getD_cons_zero, List.getD_cons_succ] at H)
      clear hb2 HP
      go_wp2_with ((with_reducible show wpList _ _ _ (⟨some 17, _, _, _, _, _⟩ :: _) _ _); refine wpList_load_blkG (by first | rfl | go_simp) rowDm (.tmp 1) (by rfl) _ (by rfl) (H.out.blk 0 rfl) rfl ?_)
      refine (HR.out (by omega) (fun t ht => by have := (hn2 t ht).2; omega) _ H.out.to).mono ?_; rintro e w3 ⟨rfl, hb3⟩
      replace H := Lib.hid (H.out.bel hb3); (try simp only [List.set_cons_zero, List.set_cons_succ, List.cons_append, List.nil_append, List.eraseIdx_cons_zero, List.eraseIdx_cons_succ, List.setIfInBounds_toArray, World.size_alloc, selR, List.getD_cons_zero, List.getD_cons_succ] at H)
      clear hb3 HR
      go_wp2_with ((with_reducible show wpList _ _ _ (⟨some 23, _, _, _, _, _⟩ :: _) _ _); refine wpList_load_blkG (by first | rfl | go_simp) rowDm (.tmp 1) (by rfl) _ (by rfl) (H.out.blk 0 rfl) rfl ?_)
      refine (HC.out (by omega) (fun t ht => by have := (hn2 t ht).2; omega) _ H.out.to).mono ?_; rintro e w4 ⟨rfl, hb4⟩
      replace H := Lib.hid (H.out.bel hb4); (try simp only [List.set_cons_zero, List.set_cons_succ, List.cons_append, List.nil_append, List.eraseIdx_cons_zero, List.eraseIdx_cons_succ, List.setIfInBounds_toArray, World.size_alloc, selR, List.getD_cons_zero, List.getD_cons_succ] at H)
      clear hb4 HC
      go_wp2_with fail
      refine (HT.out _).mono ?_; rintro e w5 ⟨D, rfl, hDc, hb5, hnew⟩
      replace H := Lib.hid (H.out.add hb5 (rDm D) hnew.1 hnew.2); (try simp only [List.set_cons_zero, List.set_cons_succ, List.cons_append, List.nil_append, List.eraseIdx_cons_zero, List.eraseIdx_cons_succ, List.setIfInBounds_toArray, World.size_alloc, selR, List.getD_cons_zero, List.getD_cons_succ] at H)
      have HDc := Lib.hid hDc
      clear hb5 hnew hDc HT
      go_wp2_with (first | ((with_reducible show wpList _ _ _ (⟨_, .store _ (.tmp 6) _, _, _, _, _⟩ :: _) _ _); (refine wpList_store_new rfl rowDm (.tmp 6) (.tmp 38) rfl rfl rfl (D.cs) rfl rfl (dm_one D) ?_; replace H := Lib.hid (H.out.alloc (D.cs) 24); (try simp only [List.set_cons_zero, List.set_cons_succ, List.cons_append, List.nil_append, List.eraseIdx_cons_zero, List.eraseIdx_cons_succ, List.setIfInBounds_toArray, World.size_alloc, selR, List.getD_cons_zero, List.getD_cons_succ] at H))) | ((with_reducible show wpList _ _ _ (⟨some 41, _, _, _, _, _⟩ :: _) _ _); refine wpList_load_blkG (by first | rfl | go_simp) rowDm (.tmp 1) (by rfl) _ (by rfl) (H.out.blk 0 rfl) rfl ?_))
      refine (HRP.out _ H.out.to).mono ?_; rintro e w6 ⟨rfl, hb6⟩
      replace H := Lib.hid (H.out.bel hb6); (try simp only [List.set_cons_zero, List.set_cons_succ, List.cons_append, List.nil_append, List.eraseIdx_cons_zero, List.eraseIdx_cons_succ, List.setIfInBounds_toArray, World.size_alloc, selR, List.getD_cons_zero, List.getD_cons_succ] at H)
      clear hb6 HRP
      go_wp2_with (first | ((with_reducible show wpList _ _ _ (⟨some 45, _, _, _, _, _⟩ :: _) _ _); refine wpList_load_blkG (by first | rfl | go_simp) rowDm (.tmp 6) (by rfl) _ (by rfl) (H.out.blk 2 rfl) rfl ?_) | ((with_reducible show wpList _ _ _ (⟨some 46, _, _, _, _, _⟩ :: _) _ _); refine wpList_load_blkG (by first | rfl | go_simp) rowDm (.tmp 1) (by rfl) _ (by rfl) (H.out.blk 0 rfl) rfl ?_))
      refine (HS.out D _ (H.out.at_ 1 rfl).rd H.out.to).mono ?_; rintro e w7 ⟨rfl, hb7⟩
      replace H := Lib.hid (H.out.bel hb7); (try simp only [List.set_cons_zero, List.set_cons_succ, List.cons_append, List.nil_append, List.eraseIdx_cons_zero, List.eraseIdx_cons_succ, List.setIfInBounds_toArray, World.size_alloc, selR, List.getD_cons_zero, List.getD_cons_succ] at H)
      clear hb7 HS
      rw [HDc.out, sameD_self]
      go_wp2_with fail
      refine (awake16_any _).mono ?_; rintro e w8 ⟨rfl, hb8⟩
      go_wp2
      go_ret
      exact ⟨rfl, H.out.to.trans hb8⟩
  · have hV : dimPutV d.con = ([], dimErr d.con) := by unfold dimPutV; rw [if_neg hE]
    have dE : (dimErr d.con == 0) = false := by simpa using hE
    have dE2 : (dimErr d.con != 0) = true := by simpa using hE
    rw [hV] at HP
    generalize dimErr d.con = E at *
    have HCS := Lib.hid hcs
    clear hE hV hcs hd
    go_enter Try.func6, Try.ntmps6
    rw [← HCS.out] at *
    go_wp2_with ((with_reducible show wpList _ _ _ (⟨some 8, _, _, _, _, _⟩ :: _) _ _); refine wpList_load_blkG (by first | rfl | go_simp) rowDm (.tmp 1) (by rfl) _ (by rfl) (H.out.blk 0 rfl) rfl ?_)
    refine (HF.out _ H.out.to).mono ?_; rintro e w1 ⟨b, rfl, hfew, hb1⟩
    replace H := Lib.hid (H.out.bel hb1); (try simp only [List.set_cons_zero, List.set_cons_succ, List.cons_append, List.nil_append, List.eraseIdx_cons_zero, List.eraseIdx_cons_succ, List.setIfInBounds_toArray, World.size_alloc, selR, List.getD_cons_zero, List.getD_cons_succ] at H)
    clear hb1 HF
    cases b with
    | false =>
      clear hfew
      go_wp2_with fail
      refine (awake16_any _).mono ?_; rintro e w2 ⟨rfl, hb2⟩
      go_wp2
      go_ret
      exact ⟨rfl, H.out.to.trans hb2⟩
    | true =>
      obtain ⟨hn1, hn2⟩ := hfew rfl
      clear hfew
      go_wp2_with ((with_reducible show wpList _ _ _ (⟨some 13, _, _, _, _, _⟩ :: _) _ _); refine wpList_load_blkG (by first | rfl | go_simp) rowDm (.tmp 1) (by rfl) _ (by rfl) (H.out.blk 0 rfl) rfl ?_)
      refine (HP.out (by omega) (fun t ht => by have := (hn2 t ht).2; omega) _ H.out.to).mono ?_; rintro e w2 ⟨rfl, hb2⟩
      replace H := Lib.hid (H.out.bel hb2); (try simp only [List.set_cons_zero, List.set_cons_succ, List.cons_append, List.nil_append, List.eraseIdx_cons_zero, List.eraseIdx_cons_succ, List.setIfInBounds_toArray, World.size_alloc, selR, List.getD_cons_zero, List.getD_cons_succ] at H)
      clear hb2 HP
      go_wp2_with ((with_reducible show wpList _ _ _ (⟨some 17, _, _, _, _, _⟩ :: _) _ _); refine wpList_load_blkG (by first | rfl | go_simp) rowDm (.tmp 1) (by rfl) _ (by rfl) (H.out.blk 0 rfl) rfl ?_)
      refine (HR.out (by omega) (fun t ht => by have := (hn2 t ht).2; omega) _ H.out.to).mono ?_; rintro e w3 ⟨rfl, hb3⟩
      replace H := Lib.hid (H.out.bel hb3); (try simp only [List.set_cons_zero, List.set_cons_succ, List.cons_append, List.nil_append, List.eraseIdx_cons_zero, List.eraseIdx_cons_succ, List.setIfInBounds_toArray, World.size_alloc, selR, List.getD_cons_zero, List.getD_cons_succ] at H)
      clear hb3 HR
      go_wp2_with ((with_reducible show wpList _ _ _ (⟨some 23, _, _, _, _, _⟩ :: _) _ _); refine wpList_load_blkG (by first | rfl | go_simp) rowDm (.tmp 1) (by rfl) _ (by rfl) (H.out.blk 0 rfl) rfl ?_)
      refine (HC.out (by omega) (fun t ht => by have := (hn2 t ht).2; omega) _ H.out.to).mono ?_; rintro e w4 ⟨rfl, hb4⟩
      replace H := Lib.hid (H.out.bel hb4); (try simp only [List.set_cons_zero, List.set_cons_succ, List.cons_append, List.nil_append, List.eraseIdx_cons_zero, List.eraseIdx_cons_succ, List.setIfInBounds_toArray, World.size_alloc, selR, List.getD_cons_zero, List.getD_cons_succ] at H)
      clear hb4 HC
      go_wp2_with fail
      refine (awake16_any _).mono ?_; rintro e w8 ⟨rfl, hb8⟩
      go_wp2
      go_ret
      exact ⟨rfl, H.out.to.trans hb8⟩


end Go.Proofs.Ytnjpoamebkehbaa
