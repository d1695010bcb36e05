/- The document's Read of dimensions. -/
import Derived.Test.YtnekknemjhlgdaaDimT
import Derived.Test.YtnekknemjhlgdaaScanB
import Derived.Test.YtnekknemjhlgdaaDimX
namespace Go.Proofs.Ytnekknemjhlgdaa
open Go.RowKit
set_option linter.unusedVariables false
set_option linter.unusedSimpArgs false

/-- Dimensions read, and what becomes of them. -/
def pdimT (nm : List UInt8) (o : PR (List TC)) : PR DC := match o with | .error k => .error k | .ok (trs, r) => pdimC ⟨nm, trs⟩ r
theorem pdim_then (l : List UInt8) : pdim l = match pthen (ptxt 12 l) (pnum 4) with | .error k => .error k | .ok ((nm, n), r) => pdimT nm (pdims n [] r) := by
  unfold pdim pthen pdimT
  cases ptxt 12 l with
  | error k => rfl
  | ok q =>
    obtain ⟨nm, r⟩ := q
    dsimp only
    cases pnum 4 r with
    | error k => rfl
    | ok q => rfl
/-- Where the document's Read stands. -/
def DInv (s l0 nm : List UInt8) (n k : Nat) (acc : List TC) (t kk : Int) : Prop :=
  (kk ≠ 0 ∧ pdim l0 = .error kk) ∨ (kk = 0 ∧ ∃ tn : Nat, t = tn ∧ tn ≤ s.length ∧ pdim l0 = pdimT nm (pdims (n - k) acc (s.drop tn)))
theorem DInv.start {s l0 nm : List UInt8} {n : Nat} {t k : Int} (h : SRes s (pthen (ptxt 12 l0) (pnum 4)) t k (nm, n)) : DInv s l0 nm n 0 [] t k := by
  rcases h with ⟨h1, h2⟩ | ⟨h1, tn, h3, h4, h2⟩
  · exact .inl ⟨h1, by rw [pdim_then, h2]⟩
  · exact .inr ⟨h1, tn, h3, h4, by rw [pdim_then, h2]; rfl⟩
theorem DInv.bad {s l0 nm : List UInt8} {n k : Nat} {acc : List TC} {t kk : Int} (h : DInv s l0 nm n k acc t kk) (hk : kk ≠ 0) : pdim l0 = .error kk := h.elim (fun h => h.2) (fun h => absurd h.1 hk)
theorem DInv.good {s l0 nm : List UInt8} {n k : Nat} {acc : List TC} {t : Int} (h : DInv s l0 nm n k acc t 0) : ∃ tn : Nat, t = tn ∧ tn ≤ s.length ∧ pdim l0 = pdimT nm (pdims (n - k) acc (s.drop tn)) := h.elim (fun h => absurd rfl h.1) (fun h => h.2)
theorem DInv.step {s l0 nm : List UInt8} {n k tn : Nat} {acc : List TC} {tc : TC} {t kk : Int} (hk : k < n) (h : pdim l0 = pdimT nm (pdims (n - k) acc (s.drop tn))) (h2 : SRes s (ptier (aboveOf acc) (s.drop tn)) t kk tc) : DInv s l0 nm n (k + 1) (tc :: acc) t kk := by
  rw [show n - k = (n - (k + 1)) + 1 by omega, pdims] at h
  rcases h2 with ⟨h1, h2⟩ | ⟨h1, m, h3, h4, h2⟩
  · exact .inl ⟨h1, by rw [h, h2]; rfl⟩
  · exact .inr ⟨h1, m, h3, h4, by rw [h, h2]⟩
/-- How the document's Read ends. -/
def RdmPost (s : List UInt8) (o : PR DC) (w : World) (e : Ending) (w' : World) : Prop :=
  ∃ (t k : Int) (D : Dm), e = .returned (.tuple #[scn s t k, .agg D.cs]) ∧ Bel w w' ∧ Hid (SRes s o t k D.con) ∧ (k = 0 → NewR w w' (rDm D))

set_option maxRecDepth 100000 in
set_option maxHeartbeats 1000000 in
theorem rdmread_any (s : List UInt8) (t0 : Nat) (w : World) (hs : s.length ≤ 1000001) (ht0 : t0 ≤ s.length) :
    Calls Try.prog 153 #[scn s t0 0] w (RdmPost s (pdim (s.drop t0)) w) := by
  obtain ⟨l0, hl0⟩ : ∃ l0, l0 = s.drop t0 := ⟨_, rfl⟩
  have HT := Lib.hid (fun w => rtext0_any s t0 12 hs ht0 (by omega) (by omega) w)
  rw [← hl0] at HT
  rw [← hl0]
  clear hl0
  have H := Lib.hid (((((SL.start No w).alloc (scs s t0 0) 161).alloc (scs [] 0 0) 161).alloc #[.string ⟨#[]⟩, .slice none 0 0] 64).alloc #[.string ⟨#[]⟩, .slice none 0 0] 64)
  (try simp only [List.set_cons_zero, List.set_cons_succ, List.cons_append, List.nil_append, List.eraseIdx_cons_zero, List.eraseIdx_cons_succ, List.setIfInBounds_toArray, World.size_alloc, selR, List.getD_cons_zero, List.getD_cons_succ] at H)
  go_enter Try.func153, Try.ntmps153
  go_wp2_with fail
  generalize w.heap.size + 1 + 1 + 1 = g at *
  generalize w.heap.size + 1 + 1 = z at *
  generalize w.heap.size + 1 = r at *
  generalize w.heap.size = a at *
  refine (HT.out _).mono ?_; rintro e w1 ⟨t1, k1, nm, rfl, hb1, hnm, HS⟩
  replace H := Lib.hid (H.out.bel hb1); (try simp only [List.set_cons_zero, List.set_cons_succ, List.cons_append, List.nil_append, List.eraseIdx_cons_zero, List.eraseIdx_cons_succ, List.setIfInBounds_toArray, World.size_alloc, selR, List.getD_cons_zero, List.getD_cons_succ] at H)
  have c0 := (H.out.blk 3 rfl).cell 0; simp only [List.getElem?_toArray, List.getElem?_cons_zero, List.getElem?_cons_succ] at c0; have f0 := (H.out.blk 3 rfl).frozen 0
  clear hb1 HT
  go_wp2_with (first | ((with_reducible show wpList _ _ _ (⟨_, .store _ (.tmp 1) _, _, _, _, _⟩ :: _) _ _); (refine wpList_store_blk rfl rowScn (.tmp 1) (.tmp 13) rfl _ rfl (H.out.blk 0 rfl) rfl (scs s t1 k1) rfl rfl (scs_one _ _ _) ?_; intro wq bq hgq; replace H := Lib.hid (H.out.setBlk 0 rfl hgq bq); (try simp only [List.set_cons_zero, List.set_cons_succ, List.cons_append, List.nil_append, List.eraseIdx_cons_zero, List.eraseIdx_cons_succ, List.setIfInBounds_toArray, World.size_alloc, selR, List.getD_cons_zero, List.getD_cons_succ] at H); clear hgq bq; clear c0 f0; have c0 := (H.out.blk 3 rfl).cell 0; simp only [List.getElem?_toArray, List.getElem?_cons_zero, List.getElem?_cons_succ] at c0; have f0 := (H.out.blk 3 rfl).frozen 0)) | ((with_reducible show wpList _ _ _ (⟨some 17, _, _, _, _, _⟩ :: _) _ _); (replace H := Lib.hid (H.out.setCell 3 rfl 0 (.string ⟨nm.toArray⟩)); (try simp only [List.set_cons_zero, List.set_cons_succ, List.cons_append, List.nil_append, List.eraseIdx_cons_zero, List.eraseIdx_cons_succ, List.setIfInBounds_toArray, World.size_alloc, selR, List.getD_cons_zero, List.getD_cons_succ] at H); refine wpList_load_blk rfl rowScn (.tmp 1) rfl _ rfl (H.out.blk 0 rfl) rfl ?_)))
  clear c0 f0
  generalize World.setCell _ _ _ = w3 at *
  refine (rnumS_any s _ t1 k1 nm HS.out 4 hs (by omega) (by omega) _).mono ?_; rintro e w4 ⟨t, k, n, rfl, hb4, hn4, HS2⟩
  replace H := Lib.hid (H.out.bel hb4); (try simp only [List.set_cons_zero, List.set_cons_succ, List.cons_append, List.nil_append, List.eraseIdx_cons_zero, List.eraseIdx_cons_succ, List.setIfInBounds_toArray, World.size_alloc, selR, List.getD_cons_zero, List.getD_cons_succ] at H)
  have HI := Lib.hid (DInv.start HS2.out)
  clear hb4 HS HS2
  go_wp2_with ((with_reducible show wpList _ _ _ (⟨_, .store _ (.tmp 1) _, _, _, _, _⟩ :: _) _ _); (refine wpList_store_blk rfl rowScn (.tmp 1) (.tmp 19) rfl _ rfl (H.out.blk 0 rfl) rfl (scs s t k) rfl rfl (scs_one _ _ _) ?_; intro wq bq hgq; replace H := Lib.hid (H.out.setBlk 0 rfl hgq bq); (try simp only [List.set_cons_zero, List.set_cons_succ, List.cons_append, List.nil_append, List.eraseIdx_cons_zero, List.eraseIdx_cons_succ, List.setIfInBounds_toArray, World.size_alloc, selR, List.getD_cons_zero, List.getD_cons_succ] at H); clear hgq bq))
  replace H := Lib.hid (H.out.addNil 140 3); (try simp only [List.set_cons_zero, List.set_cons_succ, List.cons_append, List.nil_append, List.eraseIdx_cons_zero, List.eraseIdx_cons_succ, List.setIfInBounds_toArray, World.size_alloc, selR, List.getD_cons_zero, List.getD_cons_succ] at H)
  replace H := Lib.hid (H.out.add (Bel.refl _) (rIf (k = 0) (rTirs [])) (holds_if fun _ => holds_tirs_nil _) (fun g hg => by obtain ⟨_, T, hT, _⟩ := hg; cases hT)); (try simp only [List.set_cons_zero, List.set_cons_succ, List.cons_append, List.nil_append, List.eraseIdx_cons_zero, List.eraseIdx_cons_succ, List.setIfInBounds_toArray, World.size_alloc, selR, List.getD_cons_zero, List.getD_cons_succ] at H)
  have HAB : Hid (k = 0 → I64 0 ∧ (0 : Int) = aboveOf (([] : List Tir).map Tir.con)) := fun _ => ⟨by unfold I64; omega, rfl⟩
  go_wp2_with fail
  go_loopg [6, 7] n (fun gg s6 s7 wr => ∃ (k : Nat) (acc : List Tir) (A : Option Addr) (c : Nat) (t kk ab : Int), gg = n - k ∧ k ≤ n ∧ s7 = .int .i64 k ∧ s6 = .int .i64 ab ∧ Hid (acc.length = k) ∧ Hid (kk = 0 → I64 ab ∧ ab = aboveOf (acc.map Tir.con)) ∧ Hid (SL No w wr [rBlk a 161 (scs s t kk), rBlk r 161 (scs [] 0 0), rBlk z 64 #[.string ⟨#[]⟩, .slice none 0 0], rBlk g 64 #[.string ⟨nm.toArray⟩, .slice A k c], rRow 140 3 (.slice A k c) k (acc.flatMap Cel.cells), rIf (kk = 0) (rTirs acc)]) ∧ Hid (DInv s l0 nm n k (acc.map Tir.con) t kk))
  case atStart => exact ⟨0, [], none, 0, t, k, 0, rfl, by omega, rfl, rfl, rfl, HAB, H, HI⟩
  case round =>
    clear H HI HAB
    obtain ⟨k, acc, A, c, t, kk, ab, hgk, hk, rfl, rfl, hac, HAB, H, HI⟩ := hrel
    have Hgk := Lib.hid hgk
    have hk4 : k ≤ 4 := by omega
    clear hgk
    have c0 := (H.out.blk 0 rfl).cell 2; simp only [List.getElem?_toArray, List.getElem?_cons_zero, List.getElem?_cons_succ] at c0; have f0 := (H.out.blk 0 rfl).frozen 2
    by_cases hlt : k < n
    · by_cases hkk : kk = 0
      · subst hkk
        obtain ⟨hab, habe⟩ := HAB.out rfl
        obtain ⟨tn, rfl, htn, hE⟩ := HI.out.good
        have HStep := Lib.hid (fun tc t' kk' (hS : SRes s (ptier (aboveOf (acc.map Tir.con)) (s.drop tn)) t' kk' tc) => DInv.step hlt hE hS)
        rw [← habe] at HStep
        clear hE HI HAB habe
        go_wp2_with ((with_reducible show wpList _ _ _ (⟨some 32, _, _, _, _, _⟩ :: _) _ _); (refine wpList_load_blk rfl rowScn (.tmp 1) rfl _ rfl (H.out.blk 0 rfl) rfl ?_))
        refine (rtrread_any s tn ab _ hs htn hab).mono ?_; rintro e w5 ⟨t', k', T, rfl, hb5, hS, hO⟩
        replace H := Lib.hid (H.out.add hb5 (rIf (k' = 0) (rTir T)) (holds_if fun h => holds_tir (hO h)) (fun g hg => tir_new (hO hg.1) g hg.2)); (try simp only [List.set_cons_zero, List.set_cons_succ, List.cons_append, List.nil_append, List.eraseIdx_cons_zero, List.eraseIdx_cons_succ, List.setIfInBounds_toArray, World.size_alloc, selR, List.getD_cons_zero, List.getD_cons_succ] at H)
        have HI : Hid (DInv s l0 nm n (k + 1) ((T :: acc).map Tir.con) t' k') := HStep.out _ _ _ hS.out
        have HAB : Hid (k' = 0 → I64 T.ts.n ∧ (T.ts.n : Int) = aboveOf ((T :: acc).map Tir.con)) := fun h => by
          have h1 : T.ts.l.length = T.ts.n := Row.rd.len (Tir.rd.ts (hO h).rd)
          have h2 := (hO h).tn
          refine ⟨by unfold I64; omega, ?_⟩
          show _ = ((T.ts.l.length : Nat) : Int)
          rw [h1]
        clear hb5 hS hO HStep c0 f0
        go_wp2_with (first | ((with_reducible show wpList _ _ _ (⟨_, .store _ (.tmp 8) _, _, _, _, _⟩ :: _) _ _); (replace H := Lib.hid ((H.out.alloc (scs [] 0 0) 161).alloc #[.string ⟨#[]⟩, .slice none 0 0, .slice none 0 0] 140); (try simp only [List.set_cons_zero, List.set_cons_succ, List.cons_append, List.nil_append, List.eraseIdx_cons_zero, List.eraseIdx_cons_succ, List.setIfInBounds_toArray, World.size_alloc, selR, List.getD_cons_zero, List.getD_cons_succ] at H); refine wpList_store_blk rfl rowScn (.tmp 8) (.tmp 35) rfl _ rfl (H.out.blk 7 rfl) rfl (scs s t' k') rfl rfl (scs_one _ _ _) ?_; intro wq bq hgq; replace H := Lib.hid (H.out.setBlk 7 rfl hgq bq); (try simp only [List.set_cons_zero, List.set_cons_succ, List.cons_append, List.nil_append, List.eraseIdx_cons_zero, List.eraseIdx_cons_succ, List.setIfInBounds_toArray, World.size_alloc, selR, List.getD_cons_zero, List.getD_cons_succ] at H); clear hgq bq)) | ((with_reducible show wpList _ _ _ (⟨_, .store _ (.tmp 9) _, _, _, _, _⟩ :: _) _ _); (refine wpList_store_blk rfl rowTir (.tmp 9) (.tmp 36) rfl _ rfl (H.out.blk 8 rfl) rfl (T.cs) rfl rfl (tir_one T) ?_; intro wq bq hgq; replace H := Lib.hid (H.out.setBlk 8 rfl hgq bq); (try simp only [List.set_cons_zero, List.set_cons_succ, List.cons_append, List.nil_append, List.eraseIdx_cons_zero, List.eraseIdx_cons_succ, List.setIfInBounds_toArray, World.size_alloc, selR, List.getD_cons_zero, List.getD_cons_succ] at H); clear hgq bq)) | ((with_reducible show wpList _ _ _ (⟨some 37, _, _, _, _, _⟩ :: _) _ _); (refine wpList_load_blk rfl rowScn (.tmp 8) rfl _ rfl (H.out.blk 7 rfl) rfl ?_)) | ((with_reducible show wpList _ _ _ (⟨_, .store _ (.tmp 1) _, _, _, _, _⟩ :: _) _ _); (refine wpList_store_blk rfl rowScn (.tmp 1) (.tmp 37) rfl _ rfl (H.out.blk 0 rfl) rfl (scs s t' k') rfl rfl (scs_one _ _ _) ?_; intro wq bq hgq; replace H := Lib.hid (H.out.setBlk 0 rfl hgq bq); (try simp only [List.set_cons_zero, List.set_cons_succ, List.cons_append, List.nil_append, List.eraseIdx_cons_zero, List.eraseIdx_cons_succ, List.setIfInBounds_toArray, World.size_alloc, selR, List.getD_cons_zero, List.getD_cons_succ] at H); clear hgq bq; have c1 := (H.out.blk 8 rfl).cell 1; simp only [List.getElem?_toArray, List.getElem?_cons_zero, List.getElem?_cons_succ] at c1)) | ((with_reducible show wpList _ _ _ (⟨some 41, _, _, _, _, _⟩ :: _) _ _); (refine wpList_load_blk rfl rowTir (.tmp 9) rfl _ rfl (H.out.blk 8 rfl) rfl ?_)) | ((with_reducible show wpList _ _ _ (⟨some 42, _, _, _, _, _⟩ :: _) _ _); (refine wpList_buildSlice1 rfl E_tir (.tmp 41) rfl (T.cs) rfl rfl (by omega) ?_; replace H := Lib.hid (H.out.addRow ((Bel.refl _).alloc _) (own_made _ 140 (T.cs) _ rfl)); (try simp only [List.set_cons_zero, List.set_cons_succ, List.cons_append, List.nil_append, List.eraseIdx_cons_zero, List.eraseIdx_cons_succ, List.setIfInBounds_toArray, World.size_alloc, selR, List.getD_cons_zero, List.getD_cons_succ] at H); clear c1; have c0 := (H.out.blk 3 rfl).cell 1; simp only [List.getElem?_toArray, List.getElem?_cons_zero, List.getElem?_cons_succ] at c0)) | ((with_reducible show wpList _ _ _ (⟨some 45, _, _, _, _, _⟩ :: _) _ _); (refine wpList_append0 rfl (.tmp 42) (.tmp 44) _ rfl E_tir 0 (Nat.zero_le _) _ 1 _ rfl (H.out.row 9 rfl) A k c (acc.flatMap Cel.cells) rfl (Rd.of_own (H.out.row 4 rfl)) (tirs_one acc) (by unfold maxLen; omega) (by omega) ?_; intro vq wq howq hgq hatq; replace H := Lib.hid (H.out.setRow 9 rfl hgq howq hatq); (try simp only [List.set_cons_zero, List.set_cons_succ, List.cons_append, List.nil_append, List.eraseIdx_cons_zero, List.eraseIdx_cons_succ, List.setIfInBounds_toArray, World.size_alloc, selR, List.getD_cons_zero, List.getD_cons_succ] at H); clear howq hgq hatq; obtain ⟨A2, c2, rfl, _⟩ := own_slice (H.out.row 9 rfl); clear c0; have c0 := (H.out.blk 3 rfl).cell 1; simp only [List.getElem?_toArray, List.getElem?_cons_zero, List.getElem?_cons_succ] at c0; have f0 := (H.out.blk 3 rfl).frozen 1)))
        replace H := Lib.hid (H.out.setCell 3 rfl 1 (.slice A2 (1 + k) c2)); (try simp only [List.set_cons_zero, List.set_cons_succ, List.cons_append, List.nil_append, List.eraseIdx_cons_zero, List.eraseIdx_cons_succ, List.setIfInBounds_toArray, World.size_alloc, selR, List.getD_cons_zero, List.getD_cons_succ] at H)
        replace H := Lib.hid (H.out.both 5 6 (by omega) rfl rfl (rIf (k' = 0) (rTirs (T :: acc))) (holds_if fun h => holds_tirs_cons (holds_if_of (H.out.get 6 rfl) h) (holds_if_of (H.out.get 5 rfl) (by trivial))) (fun g hg => (tirs_cons_D g hg.2).imp (fun h => ⟨by trivial, h⟩) (fun h => ⟨hg.1, h⟩))); (try simp only [List.set_cons_zero, List.set_cons_succ, List.cons_append, List.nil_append, List.eraseIdx_cons_zero, List.eraseIdx_cons_succ, List.setIfInBounds_toArray, World.size_alloc, selR, List.getD_cons_zero, List.getD_cons_succ] at H)
        replace H := Lib.hid (H.out.sel [0, 1, 2, 3, 8, 5] (by decide) (by simp)); (try simp only [List.set_cons_zero, List.set_cons_succ, List.cons_append, List.nil_append, List.eraseIdx_cons_zero, List.eraseIdx_cons_succ, List.setIfInBounds_toArray, World.size_alloc, selR, List.getD_cons_zero, List.getD_cons_succ] at H)
        clear c0 f0
        rw [Nat.add_comm 1 k] at H ⊢
        go_wp2_with fail
        go_roundg (n - (k + 1))
        case rel => exact ⟨k + 1, T :: acc, A2, c2, t', k', T.ts.n, rfl, by omega, by go_num, rfl, by show _ = _; rw [List.length_cons, hac.out], HAB, H, HI⟩
        case measure => rw [Hgk.out]; omega
      · have hk2 : (kk == 0) = false := by simpa using hkk
        obtain ⟨D, hD⟩ : ∃ D : Dm, D = ⟨nm, ⟨A, k, c, acc⟩⟩ := ⟨_, rfl⟩
        have hDs : D.cs = #[.string ⟨nm.toArray⟩, .slice A k c] := by rw [hD]
        have HSR : Hid (SRes s (pdim l0) t kk D.con) := .inl ⟨hkk, HI.out.bad hkk⟩
        have HKK := Lib.hid hkk
        rw [← hDs] at H
        clear hD hDs hkk HI HAB
        go_upto_region 14 with fail
        clear c0 f0 hk2
        refine wp_region_pair (by kernel_rfl) ⟨by kernel_rfl, by kernel_rfl, by kernel_rfl, by kernel_rfl, by kernel_rfl, by kernel_rfl, by kernel_rfl, by kernel_rfl⟩ rowScn rowDm (.tmp 1) (.tmp 4) (.tmp 2) (.tmp 3) (.tmp 53) (.tmp 54) rfl rfl rfl rfl rfl rfl rfl rfl rfl rfl _ _ _ _ (H.out.blk 0 rfl) (H.out.blk 3 rfl) (H.out.blk 1 rfl) (H.out.blk 2 rfl) rfl rfl rfl rfl (scs_one _ _ _) (dm_one D) (H.out.ne 1 2 (by decide) rfl rfl) (H.out.ne 0 1 (by decide) rfl rfl) (H.out.ne 0 2 (by decide) rfl rfl) (H.out.ne 3 1 (by decide) rfl rfl) (H.out.ne 3 2 (by decide) rfl rfl) rfl rfl rfl rfl rfl rfl (by exact fun _ _ _ h => h) (by exact fun _ _ _ h => h) ?_
        intro w10 r10 z10 hbut
        replace H := Lib.hid (H.out.butD 1 2 (by decide) rfl rfl hbut r10 z10); (try simp only [List.set_cons_zero, List.set_cons_succ, List.cons_append, List.nil_append, List.eraseIdx_cons_zero, List.eraseIdx_cons_succ, List.setIfInBounds_toArray, World.size_alloc, selR, List.getD_cons_zero, List.getD_cons_succ] at H)
        go_wp2_with fail
        refine bodyPost_ret (results_blk2 rfl rowScn rowDm rfl rfl r10 z10 rfl rfl) rfl ?_
        exact ⟨t, kk, D, rfl, H.out.to, HSR, fun h => absurd h HKK.out⟩
    · by_cases hkk : kk = 0
      · subst hkk
        obtain ⟨tn, rfl, htn, hE⟩ := HI.out.good
        have HN : Hid (pdim l0 = pdimC ⟨nm, acc.map Tir.con⟩ (s.drop tn)) := by show _ = _; rw [hE, show n - k = 0 by omega]; rfl
        replace H := Lib.hid (H.out.both 4 5 (by omega) rfl rfl (rDm ⟨nm, ⟨A, k, c, acc⟩⟩) (holds_dm (by omega) hk4 (H.out.get 4 rfl) (holds_if_of (H.out.get 5 rfl) (by trivial))) (fun g hg => hg.imp (fun h => h) (fun h => ⟨by trivial, h⟩))); (try simp only [List.set_cons_zero, List.set_cons_succ, List.cons_append, List.nil_append, List.eraseIdx_cons_zero, List.eraseIdx_cons_succ, List.setIfInBounds_toArray, World.size_alloc, selR, List.getD_cons_zero, List.getD_cons_succ] at H)
        obtain ⟨D, hD⟩ : ∃ D : Dm, D = ⟨nm, ⟨A, k, c, acc⟩⟩ := ⟨_, rfl⟩
        have hDs : D.cs = #[.string ⟨nm.toArray⟩, .slice A k c] := by rw [hD]
        have hDc : D.con = ⟨nm, acc.map Tir.con⟩ := by rw [hD]
        rw [← hD, ← hDs] at H
        rw [← hDc] at HN
        clear hD hDs hDc hE HI HAB
        go_wp2_with ((with_reducible show wpList _ _ _ (⟨some 50, _, _, _, _, _⟩ :: _) _ _); (refine wpList_load_blk rfl rowDm (.tmp 4) rfl _ rfl (H.out.blk 3 rfl) rfl ?_))
        refine (dmwrong_any D _ (H.out.at_ 4 rfl).rd (by have := (H.out.at_ 4 rfl).n4; omega)).mono ?_; rintro e w6 ⟨rfl, hb6⟩
        replace H := Lib.hid (H.out.bel hb6); (try simp only [List.set_cons_zero, List.set_cons_succ, List.cons_append, List.nil_append, List.eraseIdx_cons_zero, List.eraseIdx_cons_succ, List.setIfInBounds_toArray, World.size_alloc, selR, List.getD_cons_zero, List.getD_cons_succ] at H)
        clear hb6 c0 f0
        have HSR : Hid (SRes s (pdim l0) tn (dimErr D.con) D.con) := by
          show SRes _ _ _ _ _
          rw [HN.out]
          unfold pdimC
          by_cases h0 : dimErr D.con = 0
          · rw [if_pos h0]; exact .inr ⟨h0, tn, rfl, htn, rfl⟩
          · rw [if_neg h0]; exact .inl ⟨h0, rfl⟩
        generalize dimErr D.con = E at *
        have c0 := (H.out.blk 0 rfl).cell 2; simp only [List.getElem?_toArray, List.getElem?_cons_zero, List.getElem?_cons_succ] at c0; have f0 := (H.out.blk 0 rfl).frozen 2
        go_upto_region 14 with fail
        replace H := Lib.hid (H.out.setCell 0 rfl 2 (.int .i64 E)); (try simp only [List.set_cons_zero, List.set_cons_succ, List.cons_append, List.nil_append, List.eraseIdx_cons_zero, List.eraseIdx_cons_succ, List.setIfInBounds_toArray, World.size_alloc, selR, List.getD_cons_zero, List.getD_cons_succ] at H)
        clear c0 f0
        refine wp_region_pair (by kernel_rfl) ⟨by kernel_rfl, by kernel_rfl, by kernel_rfl, by kernel_rfl, by kernel_rfl, by kernel_rfl, by kernel_rfl, by kernel_rfl⟩ rowScn rowDm (.tmp 1) (.tmp 4) (.tmp 2) (.tmp 3) (.tmp 53) (.tmp 54) rfl rfl rfl rfl rfl rfl rfl rfl rfl rfl _ _ _ _ (H.out.blk 0 rfl) (H.out.blk 3 rfl) (H.out.blk 1 rfl) (H.out.blk 2 rfl) rfl rfl rfl rfl (scs_one _ _ _) (dm_one D) (H.out.ne 1 2 (by decide) rfl rfl) (H.out.ne 0 1 (by decide) rfl rfl) (H.out.ne 0 2 (by decide) rfl rfl) (H.out.ne 3 1 (by decide) rfl rfl) (H.out.ne 3 2 (by decide) rfl rfl) rfl rfl rfl rfl rfl rfl (by exact fun _ _ _ h => h) (by exact fun _ _ _ h => h) ?_
        intro w10 r10 z10 hbut
        replace H := Lib.hid (H.out.butD 1 2 (by decide) rfl rfl hbut r10 z10); (try simp only [List.set_cons_zero, List.set_cons_succ, List.cons_append, List.nil_append, List.eraseIdx_cons_zero, List.eraseIdx_cons_succ, List.setIfInBounds_toArray, World.size_alloc, selR, List.getD_cons_zero, List.getD_cons_succ] at H)
        go_wp2_with fail
        refine bodyPost_ret (results_blk2 rfl rowScn rowDm rfl rfl r10 z10 rfl rfl) rfl ?_
        exact ⟨tn, E, D, rfl, H.out.to, HSR, fun h => ⟨H.out.get 4 rfl, H.out.new 4 rfl⟩⟩
      · have hk2 : (kk == 0) = false := by simpa using hkk
        obtain ⟨D, hD⟩ : ∃ D : Dm, D = ⟨nm, ⟨A, k, c, acc⟩⟩ := ⟨_, rfl⟩
        have hDs : D.cs = #[.string ⟨nm.toArray⟩, .slice A k c] := by rw [hD]
        have HSR : Hid (SRes s (pdim l0) t kk D.con) := .inl ⟨hkk, HI.out.bad hkk⟩
        have HKK := Lib.hid hkk
        rw [← hDs] at H
        clear hD hDs hkk HI HAB
        go_upto_region 14 with fail
        clear c0 f0 hk2
        refine wp_region_pair (by kernel_rfl) ⟨by kernel_rfl, by kernel_rfl, by kernel_rfl, by kernel_rfl, by kernel_rfl, by kernel_rfl, by kernel_rfl, by kernel_rfl⟩ rowScn rowDm (.tmp 1) (.tmp 4) (.tmp 2) (.tmp 3) (.tmp 53) (.tmp 54) rfl rfl rfl rfl rfl rfl rfl rfl rfl rfl _ _ _ _ (H.out.blk 0 rfl) (H.out.blk 3 rfl) (H.out.blk 1 rfl) (H.out.blk 2 rfl) rfl rfl rfl rfl (scs_one _ _ _) (dm_one D) (H.out.ne 1 2 (by decide) rfl rfl) (H.out.ne 0 1 (by decide) rfl rfl) (H.out.ne 0 2 (by decide) rfl rfl) (H.out.ne 3 1 (by decide) rfl rfl) (H.out.ne 3 2 (by decide) rfl rfl) rfl rfl rfl rfl rfl rfl (by exact fun _ _ _ h => h) (by exact fun _ _ _ h => h) ?_
        intro w10 r10 z10 hbut
        replace H := Lib.hid (H.out.butD 1 2 (by decide) rfl rfl hbut r10 z10); (try simp only [List.set_cons_zero, List.set_cons_succ, List.cons_append, List.nil_append, List.eraseIdx_cons_zero, List.eraseIdx_cons_succ, List.setIfInBounds_toArray, World.size_alloc, selR, List.getD_cons_zero, List.getD_cons_succ] at H)
        go_wp2_with fail
        refine bodyPost_ret (results_blk2 rfl rowScn rowDm rfl rfl r10 z10 rfl rfl) rfl ?_
        exact ⟨t, kk, D, rfl, H.out.to, HSR, fun h => absurd h HKK.out⟩

end Go.Proofs.Ytnekknemjhlgdaa
