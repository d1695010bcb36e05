/- The document's Read of schemas. -/
import Derived.Test.YtnekknemjhlgdaaSchR
import Derived.Test.YtnekknemjhlgdaaSchX
import Derived.Test.YtnekknemjhlgdaaScanB
import Derived.Test.YtnekknemjhlgdaaDimS
namespace Go.Proofs.Ytnekknemjhlgdaa
open Go.RowKit
set_option linter.unusedVariables false
set_option linter.unusedSimpArgs false

/-- Where a scan stands that reads so many things of one kind. -/
def LInv {α : Type} (s : List UInt8) (o : PR (List α)) (p : List UInt8 → PR α) (n k : Nat) (acc : List α) (t kk : Int) : Prop :=
  (kk ≠ 0 ∧ o = .error kk) ∨ (kk = 0 ∧ ∃ tn : Nat, t = tn ∧ tn ≤ s.length ∧ o = pmany p (n - k) acc (s.drop tn))
section
variable {α : Type} {s : List UInt8} {o : PR (List α)} {p : List UInt8 → PR α} {n k : Nat} {acc : List α} {t kk : Int}
theorem LInv.bad (h : LInv s o p n k acc t kk) (hk : kk ≠ 0) : o = .error kk := h.elim (fun h => h.2) (fun h => absurd h.1 hk)
theorem LInv.good (h : LInv s o p n k acc t 0) : ∃ tn : Nat, t = tn ∧ tn ≤ s.length ∧ o = pmany p (n - k) acc (s.drop tn) := h.elim (fun h => absurd rfl h.1) (fun h => h.2)
theorem LInv.step {tn : Nat} {x : α} (hk : k < n) (h : o = pmany p (n - k) acc (s.drop tn)) (h2 : SRes s (p (s.drop tn)) t kk x) : LInv s o p n (k + 1) (acc ++ [x]) t kk := by
  rw [pmany_step hk] at h
  rcases h2 with ⟨h1, h2⟩ | ⟨h1, m, h3, h4, h2⟩
  · exact .inl ⟨h1, by rw [h, h2]⟩
  · exact .inr ⟨h1, m, h3, h4, by rw [h, h2]⟩
theorem LInv.done (h : LInv s o p n k acc t kk) (hk : kk ≠ 0 ∨ n ≤ k) : SRes s o t kk acc := by
  rcases h with ⟨h1, h2⟩ | ⟨h1, tn, h3, h4, h2⟩
  · exact .inl ⟨h1, h2⟩
  · rcases hk with hk | hk
    · exact absurd h1 hk
    · exact .inr ⟨h1, tn, h3, h4, by rw [h2, show n - k = 0 by omega]; rfl⟩
end
/-- The dimensions read; and the measures behind them. -/
def oDims (l : List UInt8) : PR (List DC) := match pnum 16 l with | .error k => .error k | .ok (n, r) => pmany pdim n [] r
def oMeas (l : List UInt8) : PR (List (List UInt8)) := match pthen (oDims l) (pnum 3) with | .error k => .error k | .ok ((_, m), r) => pmany (ptxt 12) m [] r
theorem psch_o1 {l : List UInt8} {k : Int} (h : oMeas l = .error k) : psch l = .error k := by
  unfold oMeas pthen oDims at h
  unfold psch
  cases h1 : pnum 16 l with
  | error e => rw [h1] at h; simpa using h
  | ok q =>
    obtain ⟨n, r⟩ := q
    rw [h1] at h
    simp only [psch1] at h ⊢
    cases h2 : pmany pdim n [] r with
    | error e => rw [h2] at h; simpa using h
    | ok q =>
      obtain ⟨ds, r2⟩ := q
      rw [h2] at h
      simp only [pschM] at h ⊢
      cases h3 : pnum 3 r2 with
      | error e => rw [h3] at h; simpa using h
      | ok q =>
        obtain ⟨m, r3⟩ := q
        rw [h3] at h
        simp only [psch2] at h ⊢
        rw [h]
theorem psch_o2 {l r r1 : List UInt8} {ds : List DC} {ms : List (List UInt8)} (hD : oDims l = .ok (ds, r1)) (h : oMeas l = .ok (ms, r)) : psch l = pschC ⟨ds, ms⟩ r := by
  unfold oMeas pthen at h
  rw [hD] at h
  unfold oDims at hD
  unfold psch
  cases h1 : pnum 16 l with
  | error e => rw [h1] at hD; cases hD
  | ok q =>
    obtain ⟨n, r2⟩ := q
    rw [h1] at hD
    simp only at hD h ⊢
    rw [hD]
    simp only [psch1, pschM]
    cases h3 : pnum 3 r1 with
    | error e => rw [h3] at h; cases h
    | ok q =>
      obtain ⟨m, r3⟩ := q
      rw [h3] at h
      simp only [psch2] at h ⊢
      rw [h]
theorem oDims_of {s l r : List UInt8} {ms : List (List UInt8)} {t kk : Int} {ds : List DC} (h : oMeas l = .ok (ms, r)) (hS : SRes s (oDims l) t kk ds) : kk = 0 ∧ ∃ r1, oDims l = .ok (ds, r1) := by
  rcases hS with ⟨_, h2⟩ | ⟨h1, tn, _, _, h2⟩
  · unfold oMeas pthen at h
    rw [h2] at h
    cases h
  · exact ⟨h1, _, h2⟩
theorem LInv.startD {s l : List UInt8} {t k : Int} {n : Nat} (h : SRes s (pnum 16 l) t k n) : LInv s (oDims l) pdim n 0 [] t k := by
  rcases h with ⟨h1, h2⟩ | ⟨h1, tn, h3, h4, h2⟩
  · exact .inl ⟨h1, by unfold oDims; rw [h2]⟩
  · exact .inr ⟨h1, tn, h3, h4, by unfold oDims; rw [h2]; rfl⟩
theorem LInv.startM {s l : List UInt8} {t k : Int} {m : Nat} {ds : List DC} (h : SRes s (pthen (oDims l) (pnum 3)) t k (ds, m)) : LInv s (oMeas l) (ptxt 12) m 0 [] t k := by
  rcases h with ⟨h1, h2⟩ | ⟨h1, tn, h3, h4, h2⟩
  · exact .inl ⟨h1, by unfold oMeas; rw [h2]⟩
  · exact .inr ⟨h1, tn, h3, h4, by unfold oMeas; rw [h2]; rfl⟩
/-- How the document's Read ends. -/
def RschPost (s : List UInt8) (o : PR SC) (w : World) (e : Ending) (w' : World) : Prop :=
  ∃ (t k : Int) (D : Sch), e = .returned (.tuple #[scn s t k, .agg D.cs]) ∧ Bel w w' ∧ Hid (SRes s o t k D.con) ∧ (k = 0 → NewR w w' (rSch D))

set_option maxRecDepth 100000 in
set_option maxHeartbeats 4000000 in
theorem rschread_any (s : List UInt8) (t0 : Nat) (w : World) (hs : s.length ≤ 1000001) (ht0 : t0 ≤ s.length) :
    Calls Try.prog 95 #[scn s t0 0] w (RschPost s (psch (s.drop t0)) w) := by
  obtain ⟨l0, hl0⟩ : ∃ l0, l0 = s.drop t0 := ⟨_, rfl⟩
  have HT := Lib.hid (fun w => rnum00_any s t0 16 hs ht0 (by omega) (by omega) w)
  rw [← hl0] at HT
  rw [← hl0]
  clear hl0
  have H := Lib.hid (((((SL.start No w).alloc (scs s t0 0) 161).alloc (scs [] 0 0) 161).alloc #[.slice none 0 0, .slice none 0 0] 25).alloc #[.slice none 0 0, .slice none 0 0] 25)
  (try simp only [List.set_cons_zero, List.set_cons_succ, List.cons_append, List.nil_append, List.eraseIdx_cons_zero, List.eraseIdx_cons_succ, List.setIfInBounds_toArray, World.size_alloc, selR, List.getD_cons_zero, List.getD_cons_succ] at H)
  go_enter Try.func95, Try.ntmps95
  go_wp2_with fail
  generalize w.heap.size + 1 + 1 + 1 = g at *
  generalize w.heap.size + 1 + 1 = z at *
  generalize w.heap.size + 1 = r at *
  generalize w.heap.size = a at *
  refine (HT.out _).mono ?_; rintro e w1 ⟨t, k, n, rfl, hb1, hn16, HS⟩
  replace H := Lib.hid (H.out.bel hb1); (try simp only [List.set_cons_zero, List.set_cons_succ, List.cons_append, List.nil_append, List.eraseIdx_cons_zero, List.eraseIdx_cons_succ, List.setIfInBounds_toArray, World.size_alloc, selR, List.getD_cons_zero, List.getD_cons_succ] at H)
  have HI := Lib.hid (LInv.startD HS.out)
  clear hb1 HT HS
  go_wp2_with ((with_reducible show wpList _ _ _ (⟨_, .store _ (.tmp 1) _, _, _, _, _⟩ :: _) _ _); (refine wpList_store_blk rfl rowScn (.tmp 1) (.tmp 15) rfl _ rfl (H.out.blk 0 rfl) rfl (scs s t k) rfl rfl (scs_one _ _ _) ?_; intro wq bq hgq; replace H := Lib.hid (H.out.setBlk 0 rfl hgq bq); (try simp only [List.set_cons_zero, List.set_cons_succ, List.cons_append, List.nil_append, List.eraseIdx_cons_zero, List.eraseIdx_cons_succ, List.setIfInBounds_toArray, World.size_alloc, selR, List.getD_cons_zero, List.getD_cons_succ] at H); clear hgq bq))
  replace H := Lib.hid (H.out.addNil 64 2); (try simp only [List.set_cons_zero, List.set_cons_succ, List.cons_append, List.nil_append, List.eraseIdx_cons_zero, List.eraseIdx_cons_succ, List.setIfInBounds_toArray, World.size_alloc, selR, List.getD_cons_zero, List.getD_cons_succ] at H)
  replace H := Lib.hid (H.out.add (Bel.refl _) (rIf (k = 0) (rList rDm [])) (holds_if fun _ => holds_list_nil _ _) (fun g hg => list_nil_D g hg.2)); (try simp only [List.set_cons_zero, List.set_cons_succ, List.cons_append, List.nil_append, List.eraseIdx_cons_zero, List.eraseIdx_cons_succ, List.setIfInBounds_toArray, World.size_alloc, selR, List.getD_cons_zero, List.getD_cons_succ] at H)
  go_loopg [6] n (fun gg s6 wr => ∃ (k : Nat) (acc : List Dm) (A : Option Addr) (c : Nat) (t kk : Int), gg = n - k ∧ k ≤ n ∧ s6 = .int .i64 k ∧ Hid (acc.length = k) ∧ Hid (SL No w wr [rBlk a 161 (scs s t kk), rBlk r 161 (scs [] 0 0), rBlk z 25 #[.slice none 0 0, .slice none 0 0], rBlk g 25 #[.slice A k c, .slice none 0 0], rRow 64 2 (.slice A k c) k (acc.flatMap Cel.cells), rIf (kk = 0) (rList rDm acc)]) ∧ Hid (LInv s (oDims l0) pdim n k (acc.map Dm.con) t kk))
  case atStart => exact ⟨0, [], none, 0, t, k, rfl, by omega, rfl, rfl, H, HI⟩
  case round =>
    clear H HI
    obtain ⟨k, acc, A, c, t, kk, hgk, hk, rfl, hac, H, HI⟩ := hrel
    have Hgk := Lib.hid hgk
    have hk16 : k ≤ 16 := by omega
    clear hgk
    have c0 := (H.out.blk 0 rfl).cell 2; simp only [List.getElem?_toArray, List.getElem?_cons_zero, List.getElem?_cons_succ] at c0; have f0 := (H.out.blk 0 rfl).frozen 2
    by_cases hkk : kk = 0
    · subst hkk
      by_cases hlt : k < n
      · obtain ⟨tn, rfl, htn, hE⟩ := HI.out.good
        have HStep := Lib.hid (fun x t' k' (hS : SRes s (pdim (s.drop tn)) t' k' x) => LInv.step hlt hE hS)
        clear hE HI
        go_wp2_with ((with_reducible show wpList _ _ _ (⟨some 28, _, _, _, _, _⟩ :: _) _ _); (refine wpList_load_blk rfl rowScn (.tmp 1) rfl _ rfl (H.out.blk 0 rfl) rfl ?_))
        refine (rdmread_any s tn _ hs htn).mono ?_; rintro e w5 ⟨t', k', D, rfl, hb5, hS, hO⟩
        replace H := Lib.hid (H.out.add hb5 (rIf (k' = 0) (rDm D)) (holds_if fun h => (hO h).1) (fun g hg => (hO hg.1).2 g hg.2)); (try simp only [List.set_cons_zero, List.set_cons_succ, List.cons_append, List.nil_append, List.eraseIdx_cons_zero, List.eraseIdx_cons_succ, List.setIfInBounds_toArray, World.size_alloc, selR, List.getD_cons_zero, List.getD_cons_succ] at H)
        have HI := Lib.hid (HStep.out _ _ _ hS.out)
        clear hb5 hS hO HStep c0 f0
        go_wp2_with (first | ((with_reducible show wpList _ _ _ (⟨_, .store _ (.tmp 7) _, _, _, _, _⟩ :: _) _ _); (replace H := Lib.hid ((H.out.alloc (scs [] 0 0) 161).alloc #[.string ⟨#[]⟩, .slice none 0 0] 64); (try simp only [List.set_cons_zero, List.set_cons_succ, List.cons_append, List.nil_append, List.eraseIdx_cons_zero, List.eraseIdx_cons_succ, List.setIfInBounds_toArray, World.size_alloc, selR, List.getD_cons_zero, List.getD_cons_succ] at H); refine wpList_store_blk rfl rowScn (.tmp 7) (.tmp 30) rfl _ rfl (H.out.blk 7 rfl) rfl (scs s t' k') rfl rfl (scs_one _ _ _) ?_; intro wq bq hgq; replace H := Lib.hid (H.out.setBlk 7 rfl hgq bq); (try simp only [List.set_cons_zero, List.set_cons_succ, List.cons_append, List.nil_append, List.eraseIdx_cons_zero, List.eraseIdx_cons_succ, List.setIfInBounds_toArray, World.size_alloc, selR, List.getD_cons_zero, List.getD_cons_succ] at H); clear hgq bq)) | ((with_reducible show wpList _ _ _ (⟨_, .store _ (.tmp 8) _, _, _, _, _⟩ :: _) _ _); (refine wpList_store_blk rfl rowDm (.tmp 8) (.tmp 31) rfl _ rfl (H.out.blk 8 rfl) rfl (D.cs) rfl rfl (dm_one D) ?_; intro wq bq hgq; replace H := Lib.hid (H.out.setBlk 8 rfl hgq bq); (try simp only [List.set_cons_zero, List.set_cons_succ, List.cons_append, List.nil_append, List.eraseIdx_cons_zero, List.eraseIdx_cons_succ, List.setIfInBounds_toArray, World.size_alloc, selR, List.getD_cons_zero, List.getD_cons_succ] at H); clear hgq bq)) | ((with_reducible show wpList _ _ _ (⟨some 32, _, _, _, _, _⟩ :: _) _ _); (refine wpList_load_blk rfl rowScn (.tmp 7) rfl _ rfl (H.out.blk 7 rfl) rfl ?_)) | ((with_reducible show wpList _ _ _ (⟨_, .store _ (.tmp 1) _, _, _, _, _⟩ :: _) _ _); (refine wpList_store_blk rfl rowScn (.tmp 1) (.tmp 32) rfl _ rfl (H.out.blk 0 rfl) rfl (scs s t' k') rfl rfl (scs_one _ _ _) ?_; intro wq bq hgq; replace H := Lib.hid (H.out.setBlk 0 rfl hgq bq); (try simp only [List.set_cons_zero, List.set_cons_succ, List.cons_append, List.nil_append, List.eraseIdx_cons_zero, List.eraseIdx_cons_succ, List.setIfInBounds_toArray, World.size_alloc, selR, List.getD_cons_zero, List.getD_cons_succ] at H); clear hgq bq; have c1 := (H.out.blk 3 rfl).cell 0; simp only [List.getElem?_toArray, List.getElem?_cons_zero, List.getElem?_cons_succ] at c1)) | ((with_reducible show wpList _ _ _ (⟨some 35, _, _, _, _, _⟩ :: _) _ _); (refine wpList_load_blk rfl rowDm (.tmp 8) rfl _ rfl (H.out.blk 8 rfl) rfl ?_)) | ((with_reducible show wpList _ _ _ (⟨some 36, _, _, _, _, _⟩ :: _) _ _); (refine wpList_buildSlice1 rfl E_dm (.tmp 35) rfl (D.cs) rfl rfl (by omega) ?_; replace H := Lib.hid (H.out.addRow ((Bel.refl _).alloc _) (own_made _ 64 (D.cs) _ rfl)); (try simp only [List.set_cons_zero, List.set_cons_succ, List.cons_append, List.nil_append, List.eraseIdx_cons_zero, List.eraseIdx_cons_succ, List.setIfInBounds_toArray, World.size_alloc, selR, List.getD_cons_zero, List.getD_cons_succ] at H); clear c1; have c1 := (H.out.blk 3 rfl).cell 0; simp only [List.getElem?_toArray, List.getElem?_cons_zero, List.getElem?_cons_succ] at c1)) | ((with_reducible show wpList _ _ _ (⟨some 37, _, _, _, _, _⟩ :: _) _ _); (refine wpList_append0 rfl (.tmp 34) (.tmp 36) _ rfl E_dm 0 (Nat.zero_le _) _ k _ rfl (H.out.row 4 rfl) _ 1 1 _ rfl (Rd.of_own (H.out.row 9 rfl)) (dm1_one D) (by unfold maxLen; omega) (by omega) ?_; intro vq wq howq hgq hatq; replace H := Lib.hid (H.out.setRow 4 rfl hgq howq hatq); (try simp only [List.set_cons_zero, List.set_cons_succ, List.cons_append, List.nil_append, List.eraseIdx_cons_zero, List.eraseIdx_cons_succ, List.setIfInBounds_toArray, World.size_alloc, selR, List.getD_cons_zero, List.getD_cons_succ] at H); clear howq hgq hatq; obtain ⟨A2, c2, rfl, _⟩ := own_slice (H.out.row 4 rfl); clear c1; have c1 := (H.out.blk 3 rfl).cell 0; simp only [List.getElem?_toArray, List.getElem?_cons_zero, List.getElem?_cons_succ] at c1; have f1 := (H.out.blk 3 rfl).frozen 0)))
        replace H := Lib.hid (H.out.setCell 3 rfl 0 (.slice A2 (k + 1) c2)); (try simp only [List.set_cons_zero, List.set_cons_succ, List.cons_append, List.nil_append, List.eraseIdx_cons_zero, List.eraseIdx_cons_succ, List.setIfInBounds_toArray, World.size_alloc, selR, List.getD_cons_zero, List.getD_cons_succ] at H)
        replace H := Lib.hid (H.out.both 5 6 (by omega) rfl rfl (rIf (k' = 0) (rList rDm (acc ++ [D]))) (holds_if fun h => holds_list_snoc (holds_if_of (H.out.get 5 rfl) (by trivial)) (holds_if_of (H.out.get 6 rfl) h)) (fun g hg => (list_snoc_D g hg.2).imp (fun h => ⟨by trivial, h⟩) (fun h => ⟨hg.1, h⟩))); (try simp only [List.set_cons_zero, List.set_cons_succ, List.cons_append, List.nil_append, List.eraseIdx_cons_zero, List.eraseIdx_cons_succ, List.setIfInBounds_toArray, World.size_alloc, selR, List.getD_cons_zero, List.getD_cons_succ] at H)
        replace H := Lib.hid (H.out.sel [0, 1, 2, 3, 4, 5] (by decide) (by simp)); (try simp only [List.set_cons_zero, List.set_cons_succ, List.cons_append, List.nil_append, List.eraseIdx_cons_zero, List.eraseIdx_cons_succ, List.setIfInBounds_toArray, World.size_alloc, selR, List.getD_cons_zero, List.getD_cons_succ] at H)
        clear c1 f1
        go_wp2_with fail
        go_roundg (n - (k + 1))
        case rel => exact ⟨k + 1, acc ++ [D], A2, c2, t', k', rfl, by omega, by go_num, by show _ = _; rw [List.length_append, hac.out]; rfl, by rw [List.flatMap_append, List.flatMap_cons, List.flatMap_nil, List.append_nil]; exact H, by rw [List.map_append]; exact HI⟩
        case measure => rw [Hgk.out]; omega
      · have HSD := Lib.hid (HI.out.done (.inr (by omega)))
        clear HI c0 f0
        go_wp2_with ((with_reducible show wpList _ _ _ (⟨some 40, _, _, _, _, _⟩ :: _) _ _); (refine wpList_load_blk rfl rowScn (.tmp 1) rfl _ rfl (H.out.blk 0 rfl) rfl ?_))
        refine (rnumS_any s (oDims l0) t 0 (acc.map Dm.con) HSD.out 3 hs (by omega) (by omega) _).mono ?_; rintro e w6 ⟨t2, k2, m, rfl, hb6, hm3, HS2⟩
        replace H := Lib.hid (H.out.bel hb6); (try simp only [List.set_cons_zero, List.set_cons_succ, List.cons_append, List.nil_append, List.eraseIdx_cons_zero, List.eraseIdx_cons_succ, List.setIfInBounds_toArray, World.size_alloc, selR, List.getD_cons_zero, List.getD_cons_succ] at H)
        have HI := Lib.hid (LInv.startM HS2.out)
        clear hb6 HS2
        go_wp2_with ((with_reducible show wpList _ _ _ (⟨_, .store _ (.tmp 1) _, _, _, _, _⟩ :: _) _ _); (refine wpList_store_blk rfl rowScn (.tmp 1) (.tmp 42) rfl _ rfl (H.out.blk 0 rfl) rfl (scs s t2 k2) rfl rfl (scs_one _ _ _) ?_; intro wq bq hgq; replace H := Lib.hid (H.out.setBlk 0 rfl hgq bq); (try simp only [List.set_cons_zero, List.set_cons_succ, List.cons_append, List.nil_append, List.eraseIdx_cons_zero, List.eraseIdx_cons_succ, List.setIfInBounds_toArray, World.size_alloc, selR, List.getD_cons_zero, List.getD_cons_succ] at H); clear hgq bq))
        replace H := Lib.hid (H.out.addNil 9 1); (try simp only [List.set_cons_zero, List.set_cons_succ, List.cons_append, List.nil_append, List.eraseIdx_cons_zero, List.eraseIdx_cons_succ, List.setIfInBounds_toArray, World.size_alloc, selR, List.getD_cons_zero, List.getD_cons_succ] at H)
        have HML : Hid (∀ x ∈ ([] : List (List UInt8)), x.length ≤ 12) := by show ∀ x ∈ ([] : List (List UInt8)), _; intro x hx; cases hx
        go_loopg [9] m (fun gg s9 wr => ∃ (j : Nat) (ms : List (List UInt8)) (B : Option Addr) (d : Nat) (t2 k2 : Int), gg = m - j ∧ j ≤ m ∧ s9 = .int .i64 j ∧ Hid (ms.length = j) ∧ Hid (∀ x ∈ ms, x.length ≤ 12) ∧ Hid (SL No w wr [rBlk a 161 (scs s t2 k2), rBlk r 161 (scs [] 0 0), rBlk z 25 #[.slice none 0 0, .slice none 0 0], rBlk g 25 #[.slice A k c, .slice B j d], rRow 64 2 (.slice A k c) k (acc.flatMap Cel.cells), rIf (True) (rList rDm acc), rRow 9 1 (.slice B j d) j (ms.map tx)]) ∧ Hid (LInv s (oMeas l0) (ptxt 12) m j ms t2 k2))
        case atStart => exact ⟨0, [], none, 0, t2, k2, rfl, by omega, rfl, rfl, HML, H, HI⟩
        case round =>
          clear H HI HML
          obtain ⟨j, ms, B, d, t2, k2, hgj, hj, rfl, hmc, HML, H, HI⟩ := hrel
          have Hgj := Lib.hid hgj
          have hj3 : j ≤ 3 := by omega
          clear hgj
          have c2 := (H.out.blk 0 rfl).cell 2; simp only [List.getElem?_toArray, List.getElem?_cons_zero, List.getElem?_cons_succ] at c2; have f2 := (H.out.blk 0 rfl).frozen 2
          by_cases hkk2 : k2 = 0
          · subst hkk2
            obtain ⟨tn, rfl, htn, hE⟩ := HI.out.good
            by_cases hlt2 : j < m
            · have HStep := Lib.hid (fun x t' k' (hS : SRes s (ptxt 12 (s.drop tn)) t' k' x) => LInv.step hlt2 hE hS)
              clear hE HI
              go_wp2_with ((with_reducible show wpList _ _ _ (⟨some 55, _, _, _, _, _⟩ :: _) _ _); (refine wpList_load_blk rfl rowScn (.tmp 1) rfl _ rfl (H.out.blk 0 rfl) rfl ?_))
              refine (rtext0_any s tn 12 hs htn (by omega) (by omega) _).mono ?_; rintro e w7 ⟨t', k', x, rfl, hb7, hx12, hS⟩
              replace H := Lib.hid (H.out.bel hb7); (try simp only [List.set_cons_zero, List.set_cons_succ, List.cons_append, List.nil_append, List.eraseIdx_cons_zero, List.eraseIdx_cons_succ, List.setIfInBounds_toArray, World.size_alloc, selR, List.getD_cons_zero, List.getD_cons_succ] at H)
              have HI := Lib.hid (HStep.out _ _ _ hS.out)
              have HML2 : Hid (∀ y ∈ ms ++ [x], y.length ≤ 12) := by
                intro y hy
                rcases List.mem_append.1 hy with hy | hy
                · exact HML.out y hy
                · rw [List.mem_singleton] at hy; subst hy; omega
              clear hb7 hS HStep c2 f2
              go_wp2_with (first | ((with_reducible show wpList _ _ _ (⟨_, .store _ (.tmp 10) _, _, _, _, _⟩ :: _) _ _); (refine wpList_store_new rfl rowScn (.tmp 10) (.tmp 57) rfl rfl rfl (scs s t' k') rfl rfl (scs_one _ _ _) ?_; replace H := Lib.hid (H.out.alloc (scs s t' k') 161); (try simp only [List.set_cons_zero, List.set_cons_succ, List.cons_append, List.nil_append, List.eraseIdx_cons_zero, List.eraseIdx_cons_succ, List.setIfInBounds_toArray, World.size_alloc, selR, List.getD_cons_zero, List.getD_cons_succ] at H))) | ((with_reducible show wpList _ _ _ (⟨some 59, _, _, _, _, _⟩ :: _) _ _); (refine wpList_load_blk rfl rowScn (.tmp 10) rfl _ rfl (H.out.blk 7 rfl) rfl ?_)) | ((with_reducible show wpList _ _ _ (⟨_, .store _ (.tmp 1) _, _, _, _, _⟩ :: _) _ _); (refine wpList_store_blk rfl rowScn (.tmp 1) (.tmp 59) rfl _ rfl (H.out.blk 0 rfl) rfl (scs s t' k') rfl rfl (scs_one _ _ _) ?_; intro wq bq hgq; replace H := Lib.hid (H.out.setBlk 0 rfl hgq bq); (try simp only [List.set_cons_zero, List.set_cons_succ, List.cons_append, List.nil_append, List.eraseIdx_cons_zero, List.eraseIdx_cons_succ, List.setIfInBounds_toArray, World.size_alloc, selR, List.getD_cons_zero, List.getD_cons_succ] at H); clear hgq bq; have c1 := (H.out.blk 3 rfl).cell 1; simp only [List.getElem?_toArray, List.getElem?_cons_zero, List.getElem?_cons_succ] at c1)) | ((with_reducible show wpList _ _ _ (⟨some 64, _, _, _, _, _⟩ :: _) _ _); (replace H := Lib.hid (H.out.alloc #[.string ⟨x.toArray⟩] 9); (try simp only [List.set_cons_zero, List.set_cons_succ, List.cons_append, List.nil_append, List.eraseIdx_cons_zero, List.eraseIdx_cons_succ, List.setIfInBounds_toArray, World.size_alloc, selR, List.getD_cons_zero, List.getD_cons_succ] at H); refine wpList_append0 rfl (.tmp 61) (.tmp 63) _ rfl E_text 0 (Nat.zero_le _) _ j _ rfl (H.out.row 6 rfl) _ 1 1 [.string ⟨x.toArray⟩] rfl (reads_of_block (H.out.blk 8 rfl) rfl) (by simp [Value.oneCell']) (by unfold maxLen; omega) (by omega) ?_; intro vq wq howq hgq hatq; replace H := Lib.hid (H.out.setRow 6 rfl hgq howq hatq); (try simp only [List.set_cons_zero, List.set_cons_succ, List.cons_append, List.nil_append, List.eraseIdx_cons_zero, List.eraseIdx_cons_succ, List.setIfInBounds_toArray, World.size_alloc, selR, List.getD_cons_zero, List.getD_cons_succ] at H); clear howq hgq hatq; obtain ⟨B2, d2, rfl, _⟩ := own_slice (H.out.row 6 rfl); clear c1; have c1 := (H.out.blk 3 rfl).cell 1; simp only [List.getElem?_toArray, List.getElem?_cons_zero, List.getElem?_cons_succ] at c1; have f1 := (H.out.blk 3 rfl).frozen 1)))
              replace H := Lib.hid (H.out.setCell 3 rfl 1 (.slice B2 (j + 1) d2)); (try simp only [List.set_cons_zero, List.set_cons_succ, List.cons_append, List.nil_append, List.eraseIdx_cons_zero, List.eraseIdx_cons_succ, List.setIfInBounds_toArray, World.size_alloc, selR, List.getD_cons_zero, List.getD_cons_succ] at H)
              replace H := Lib.hid (H.out.sel [0, 1, 2, 3, 4, 5, 6] (by decide) (by simp)); (try simp only [List.set_cons_zero, List.set_cons_succ, List.cons_append, List.nil_append, List.eraseIdx_cons_zero, List.eraseIdx_cons_succ, List.setIfInBounds_toArray, World.size_alloc, selR, List.getD_cons_zero, List.getD_cons_succ] at H)
              clear c1 f1
              go_wp2_with fail
              go_roundg (m - (j + 1))
              case rel => exact ⟨j + 1, ms ++ [x], B2, d2, t', k', rfl, by omega, by go_num, by show _ = _; rw [List.length_append, hmc.out]; rfl, HML2, by rw [List.map_append]; exact H, HI⟩
              case measure => rw [Hgj.out]; omega
            · have hoM : oMeas l0 = .ok (ms, s.drop tn) := by rw [hE, show m - j = 0 by omega]; rfl
              obtain ⟨hkk0, r1, hoD⟩ := oDims_of hoM HSD.out
              have HN : Hid (psch l0 = pschC ⟨acc.map Dm.con, ms⟩ (s.drop tn)) := psch_o2 hoD hoM
              replace H := Lib.hid (H.out.both 4 5 (by omega) rfl rfl (rX acc A k c) (holds_X (H.out.get 4 rfl) (holds_if_of (H.out.get 5 rfl) (by first | trivial | exact hkk0))) (fun g hg => hg.imp (fun h => h) (fun h => ⟨by first | trivial | exact hkk0, h⟩))); (try simp only [List.set_cons_zero, List.set_cons_succ, List.cons_append, List.nil_append, List.eraseIdx_cons_zero, List.eraseIdx_cons_succ, List.setIfInBounds_toArray, World.size_alloc, selR, List.getD_cons_zero, List.getD_cons_succ] at H)
              replace H := Lib.hid (H.out.both 4 5 (by omega) rfl rfl (rSch ⟨⟨A, k, c, acc⟩, ⟨B, j, d, ms⟩⟩) (holds_sch (of_X (H.out.get 4 rfl)).1 (of_X (H.out.get 4 rfl)).2 (H.out.get 5 rfl) HML.out hk16 hj3) (fun g hg => hg.elim (fun h => .inl (.inl h)) (fun h => h.elim (fun h => .inl (.inr h)) .inr))); (try simp only [List.set_cons_zero, List.set_cons_succ, List.cons_append, List.nil_append, List.eraseIdx_cons_zero, List.eraseIdx_cons_succ, List.setIfInBounds_toArray, World.size_alloc, selR, List.getD_cons_zero, List.getD_cons_succ] at H)
              obtain ⟨D, hD⟩ : ∃ D : Sch, D = ⟨⟨A, k, c, acc⟩, ⟨B, j, d, ms⟩⟩ := ⟨_, rfl⟩
              have hDs : D.cs = #[.slice A k c, .slice B j d] := by rw [hD]
              have hDc : D.con = ⟨acc.map Dm.con, ms⟩ := by rw [hD]
              rw [← hD, ← hDs] at H
              rw [← hDc] at HN
              clear hD hDs hDc hE HI hoM hoD HSD hkk0
              go_wp2_with ((with_reducible show wpList _ _ _ (⟨some 69, _, _, _, _, _⟩ :: _) _ _); (refine wpList_load_blk rfl rowSch (.tmp 4) rfl _ rfl (H.out.blk 3 rfl) rfl ?_))
              refine (schwrong_any D _ (H.out.at_ 4 rfl).rd (by have := (H.out.at_ 4 rfl).dn; omega) (by have := (H.out.at_ 4 rfl).mn; omega) (fun d hd => ((H.out.at_ 4 rfl).small d hd).1)).mono ?_; rintro e w8 ⟨rfl, hb8⟩
              replace H := Lib.hid (H.out.bel hb8); (try simp only [List.set_cons_zero, List.set_cons_succ, List.cons_append, List.nil_append, List.eraseIdx_cons_zero, List.eraseIdx_cons_succ, List.setIfInBounds_toArray, World.size_alloc, selR, List.getD_cons_zero, List.getD_cons_succ] at H)
              clear hb8 c2 f2
              have HSR : Hid (SRes s (psch l0) tn (schErr D.con) D.con) := by
                show SRes _ _ _ _ _
                rw [HN.out]
                unfold pschC
                by_cases h0 : schErr D.con = 0
                · rw [if_pos h0]; exact .inr ⟨h0, tn, rfl, htn, rfl⟩
                · rw [if_neg h0]; exact .inl ⟨h0, rfl⟩
              generalize schErr D.con = E at *
              have c2 := (H.out.blk 0 rfl).cell 2; simp only [List.getElem?_toArray, List.getElem?_cons_zero, List.getElem?_cons_succ] at c2; have f2 := (H.out.blk 0 rfl).frozen 2
              go_upto_region 18 with fail
              replace H := Lib.hid (H.out.setCell 0 rfl 2 (.int .i64 E)); (try simp only [List.set_cons_zero, List.set_cons_succ, List.cons_append, List.nil_append, List.eraseIdx_cons_zero, List.eraseIdx_cons_succ, List.setIfInBounds_toArray, World.size_alloc, selR, List.getD_cons_zero, List.getD_cons_succ] at H)
              clear c2 f2
              refine wp_region_pair (by kernel_rfl) ⟨by kernel_rfl, by kernel_rfl, by kernel_rfl, by kernel_rfl, by kernel_rfl, by kernel_rfl, by kernel_rfl, by kernel_rfl⟩ rowScn rowSch (.tmp 1) (.tmp 4) (.tmp 2) (.tmp 3) (.tmp 72) (.tmp 73) rfl rfl rfl rfl rfl rfl rfl rfl rfl rfl _ _ _ _ (H.out.blk 0 rfl) (H.out.blk 3 rfl) (H.out.blk 1 rfl) (H.out.blk 2 rfl) rfl rfl rfl rfl (scs_one _ _ _) (sch_one D) (H.out.ne 1 2 (by decide) rfl rfl) (H.out.ne 0 1 (by decide) rfl rfl) (H.out.ne 0 2 (by decide) rfl rfl) (H.out.ne 3 1 (by decide) rfl rfl) (H.out.ne 3 2 (by decide) rfl rfl) rfl rfl rfl rfl rfl rfl (by exact fun _ _ _ h => h) (by exact fun _ _ _ h => h) ?_
              intro w10 r10 z10 hbut
              replace H := Lib.hid (H.out.butD 1 2 (by decide) rfl rfl hbut r10 z10); (try simp only [List.set_cons_zero, List.set_cons_succ, List.cons_append, List.nil_append, List.eraseIdx_cons_zero, List.eraseIdx_cons_succ, List.setIfInBounds_toArray, World.size_alloc, selR, List.getD_cons_zero, List.getD_cons_succ] at H)
              go_wp2_with fail
              refine bodyPost_ret (results_blk2 rfl rowScn rowSch rfl rfl r10 z10 rfl rfl) rfl ?_
              exact ⟨tn, E, D, rfl, H.out.to, HSR, fun h => ⟨H.out.get 4 rfl, H.out.new 4 rfl⟩⟩
          · have hk3 : (k2 == 0) = false := by simpa using hkk2
            by_cases hlt2 : j < m
            · obtain ⟨D, hD⟩ : ∃ D : Sch, D = ⟨⟨A, k, c, acc⟩, ⟨B, j, d, ms⟩⟩ := ⟨_, rfl⟩
              have hDs : D.cs = #[.slice A k c, .slice B j d] := by rw [hD]
              have HSR : Hid (SRes s (psch l0) t2 k2 D.con) := .inl ⟨hkk2, psch_o1 (HI.out.bad hkk2)⟩
              have HKK := Lib.hid hkk2
              rw [← hDs] at H
              clear hD hDs hkk2 HI
              go_upto_region 18 with fail
              clear c2 f2 hk3
              refine wp_region_pair (by kernel_rfl) ⟨by kernel_rfl, by kernel_rfl, by kernel_rfl, by kernel_rfl, by kernel_rfl, by kernel_rfl, by kernel_rfl, by kernel_rfl⟩ rowScn rowSch (.tmp 1) (.tmp 4) (.tmp 2) (.tmp 3) (.tmp 72) (.tmp 73) rfl rfl rfl rfl rfl rfl rfl rfl rfl rfl _ _ _ _ (H.out.blk 0 rfl) (H.out.blk 3 rfl) (H.out.blk 1 rfl) (H.out.blk 2 rfl) rfl rfl rfl rfl (scs_one _ _ _) (sch_one D) (H.out.ne 1 2 (by decide) rfl rfl) (H.out.ne 0 1 (by decide) rfl rfl) (H.out.ne 0 2 (by decide) rfl rfl) (H.out.ne 3 1 (by decide) rfl rfl) (H.out.ne 3 2 (by decide) rfl rfl) rfl rfl rfl rfl rfl rfl (by exact fun _ _ _ h => h) (by exact fun _ _ _ h => h) ?_
              intro w10 r10 z10 hbut
              replace H := Lib.hid (H.out.butD 1 2 (by decide) rfl rfl hbut r10 z10); (try simp only [List.set_cons_zero, List.set_cons_succ, List.cons_append, List.nil_append, List.eraseIdx_cons_zero, List.eraseIdx_cons_succ, List.setIfInBounds_toArray, World.size_alloc, selR, List.getD_cons_zero, List.getD_cons_succ] at H)
              go_wp2_with fail
              refine bodyPost_ret (results_blk2 rfl rowScn rowSch rfl rfl r10 z10 rfl rfl) rfl ?_
              exact ⟨t2, k2, D, rfl, H.out.to, HSR, fun h => absurd h HKK.out⟩
            · obtain ⟨D, hD⟩ : ∃ D : Sch, D = ⟨⟨A, k, c, acc⟩, ⟨B, j, d, ms⟩⟩ := ⟨_, rfl⟩
              have hDs : D.cs = #[.slice A k c, .slice B j d] := by rw [hD]
              have HSR : Hid (SRes s (psch l0) t2 k2 D.con) := .inl ⟨hkk2, psch_o1 (HI.out.bad hkk2)⟩
              have HKK := Lib.hid hkk2
              rw [← hDs] at H
              clear hD hDs hkk2 HI
              go_upto_region 18 with fail
              clear c2 f2 hk3
              refine wp_region_pair (by kernel_rfl) ⟨by kernel_rfl, by kernel_rfl, by kernel_rfl, by kernel_rfl, by kernel_rfl, by kernel_rfl, by kernel_rfl, by kernel_rfl⟩ rowScn rowSch (.tmp 1) (.tmp 4) (.tmp 2) (.tmp 3) (.tmp 72) (.tmp 73) rfl rfl rfl rfl rfl rfl rfl rfl rfl rfl _ _ _ _ (H.out.blk 0 rfl) (H.out.blk 3 rfl) (H.out.blk 1 rfl) (H.out.blk 2 rfl) rfl rfl rfl rfl (scs_one _ _ _) (sch_one D) (H.out.ne 1 2 (by decide) rfl rfl) (H.out.ne 0 1 (by decide) rfl rfl) (H.out.ne 0 2 (by decide) rfl rfl) (H.out.ne 3 1 (by decide) rfl rfl) (H.out.ne 3 2 (by decide) rfl rfl) rfl rfl rfl rfl rfl rfl (by exact fun _ _ _ h => h) (by exact fun _ _ _ h => h) ?_
              intro w10 r10 z10 hbut
              replace H := Lib.hid (H.out.butD 1 2 (by decide) rfl rfl hbut r10 z10); (try simp only [List.set_cons_zero, List.set_cons_succ, List.cons_append, List.nil_append, List.eraseIdx_cons_zero, List.eraseIdx_cons_succ, List.setIfInBounds_toArray, World.size_alloc, selR, List.getD_cons_zero, List.getD_cons_succ] at H)
              go_wp2_with fail
              refine bodyPost_ret (results_blk2 rfl rowScn rowSch rfl rfl r10 z10 rfl rfl) rfl ?_
              exact ⟨t2, k2, D, rfl, H.out.to, HSR, fun h => absurd h HKK.out⟩
    · have hk0 : (kk == 0) = false := by simpa using hkk
      have HSD := Lib.hid (HI.out.done (.inl hkk))
      clear HI hkk
      by_cases hlt : k < n
      · go_wp2_with ((with_reducible show wpList _ _ _ (⟨some 40, _, _, _, _, _⟩ :: _) _ _); (refine wpList_load_blk rfl rowScn (.tmp 1) rfl _ rfl (H.out.blk 0 rfl) rfl ?_))
        refine (rnumS_any s (oDims l0) t kk (acc.map Dm.con) HSD.out 3 hs (by omega) (by omega) _).mono ?_; rintro e w6 ⟨t2, k2, m, rfl, hb6, hm3, HS2⟩
        replace H := Lib.hid (H.out.bel hb6); (try simp only [List.set_cons_zero, List.set_cons_succ, List.cons_append, List.nil_append, List.eraseIdx_cons_zero, List.eraseIdx_cons_succ, List.setIfInBounds_toArray, World.size_alloc, selR, List.getD_cons_zero, List.getD_cons_succ] at H)
        have HI := Lib.hid (LInv.startM HS2.out)
        clear hb6 HS2
        go_wp2_with ((with_reducible show wpList _ _ _ (⟨_, .store _ (.tmp 1) _, _, _, _, _⟩ :: _) _ _); (refine wpList_store_blk rfl rowScn (.tmp 1) (.tmp 42) rfl _ rfl (H.out.blk 0 rfl) rfl (scs s t2 k2) rfl rfl (scs_one _ _ _) ?_; intro wq bq hgq; replace H := Lib.hid (H.out.setBlk 0 rfl hgq bq); (try simp only [List.set_cons_zero, List.set_cons_succ, List.cons_append, List.nil_append, List.eraseIdx_cons_zero, List.eraseIdx_cons_succ, List.setIfInBounds_toArray, World.size_alloc, selR, List.getD_cons_zero, List.getD_cons_succ] at H); clear hgq bq))
        replace H := Lib.hid (H.out.addNil 9 1); (try simp only [List.set_cons_zero, List.set_cons_succ, List.cons_append, List.nil_append, List.eraseIdx_cons_zero, List.eraseIdx_cons_succ, List.setIfInBounds_toArray, World.size_alloc, selR, List.getD_cons_zero, List.getD_cons_succ] at H)
        have HML : Hid (∀ x ∈ ([] : List (List UInt8)), x.length ≤ 12) := by show ∀ x ∈ ([] : List (List UInt8)), _; intro x hx; cases hx
        go_loopg [9] m (fun gg s9 wr => ∃ (j : Nat) (ms : List (List UInt8)) (B : Option Addr) (d : Nat) (t2 k2 : Int), gg = m - j ∧ j ≤ m ∧ s9 = .int .i64 j ∧ Hid (ms.length = j) ∧ Hid (∀ x ∈ ms, x.length ≤ 12) ∧ Hid (SL No w wr [rBlk a 161 (scs s t2 k2), rBlk r 161 (scs [] 0 0), rBlk z 25 #[.slice none 0 0, .slice none 0 0], rBlk g 25 #[.slice A k c, .slice B j d], rRow 64 2 (.slice A k c) k (acc.flatMap Cel.cells), rIf (kk = 0) (rList rDm acc), rRow 9 1 (.slice B j d) j (ms.map tx)]) ∧ Hid (LInv s (oMeas l0) (ptxt 12) m j ms t2 k2))
        case atStart => exact ⟨0, [], none, 0, t2, k2, rfl, by omega, rfl, rfl, HML, H, HI⟩
        case round =>
          clear H HI HML
          obtain ⟨j, ms, B, d, t2, k2, hgj, hj, rfl, hmc, HML, H, HI⟩ := hrel
          have Hgj := Lib.hid hgj
          have hj3 : j ≤ 3 := by omega
          clear hgj
          have c2 := (H.out.blk 0 rfl).cell 2; simp only [List.getElem?_toArray, List.getElem?_cons_zero, List.getElem?_cons_succ] at c2; have f2 := (H.out.blk 0 rfl).frozen 2
          by_cases hkk2 : k2 = 0
          · subst hkk2
            obtain ⟨tn, rfl, htn, hE⟩ := HI.out.good
            by_cases hlt2 : j < m
            · have HStep := Lib.hid (fun x t' k' (hS : SRes s (ptxt 12 (s.drop tn)) t' k' x) => LInv.step hlt2 hE hS)
              clear hE HI
              go_wp2_with ((with_reducible show wpList _ _ _ (⟨some 55, _, _, _, _, _⟩ :: _) _ _); (refine wpList_load_blk rfl rowScn (.tmp 1) rfl _ rfl (H.out.blk 0 rfl) rfl ?_))
              refine (rtext0_any s tn 12 hs htn (by omega) (by omega) _).mono ?_; rintro e w7 ⟨t', k', x, rfl, hb7, hx12, hS⟩
              replace H := Lib.hid (H.out.bel hb7); (try simp only [List.set_cons_zero, List.set_cons_succ, List.cons_append, List.nil_append, List.eraseIdx_cons_zero, List.eraseIdx_cons_succ, List.setIfInBounds_toArray, World.size_alloc, selR, List.getD_cons_zero, List.getD_cons_succ] at H)
              have HI := Lib.hid (HStep.out _ _ _ hS.out)
              have HML2 : Hid (∀ y ∈ ms ++ [x], y.length ≤ 12) := by
                intro y hy
                rcases List.mem_append.1 hy with hy | hy
                · exact HML.out y hy
                · rw [List.mem_singleton] at hy; subst hy; omega
              clear hb7 hS HStep c2 f2
              go_wp2_with (first | ((with_reducible show wpList _ _ _ (⟨_, .store _ (.tmp 10) _, _, _, _, _⟩ :: _) _ _); (refine wpList_store_new rfl rowScn (.tmp 10) (.tmp 57) rfl rfl rfl (scs s t' k') rfl rfl (scs_one _ _ _) ?_; replace H := Lib.hid (H.out.alloc (scs s t' k') 161); (try simp only [List.set_cons_zero, List.set_cons_succ, List.cons_append, List.nil_append, List.eraseIdx_cons_zero, List.eraseIdx_cons_succ, List.setIfInBounds_toArray, World.size_alloc, selR, List.getD_cons_zero, List.getD_cons_succ] at H))) | ((with_reducible show wpList _ _ _ (⟨some 59, _, _, _, _, _⟩ :: _) _ _); (refine wpList_load_blk rfl rowScn (.tmp 10) rfl _ rfl (H.out.blk 7 rfl) rfl ?_)) | ((with_reducible show wpList _ _ _ (⟨_, .store _ (.tmp 1) _, _, _, _, _⟩ :: _) _ _); (refine wpList_store_blk rfl rowScn (.tmp 1) (.tmp 59) rfl _ rfl (H.out.blk 0 rfl) rfl (scs s t' k') rfl rfl (scs_one _ _ _) ?_; intro wq bq hgq; replace H := Lib.hid (H.out.setBlk 0 rfl hgq bq); (try simp only [List.set_cons_zero, List.set_cons_succ, List.cons_append, List.nil_append, List.eraseIdx_cons_zero, List.eraseIdx_cons_succ, List.setIfInBounds_toArray, World.size_alloc, selR, List.getD_cons_zero, List.getD_cons_succ] at H); clear hgq bq; have c1 := (H.out.blk 3 rfl).cell 1; simp only [List.getElem?_toArray, List.getElem?_cons_zero, List.getElem?_cons_succ] at c1)) | ((with_reducible show wpList _ _ _ (⟨some 64, _, _, _, _, _⟩ :: _) _ _); (replace H := Lib.hid (H.out.alloc #[.string ⟨x.toArray⟩] 9); (try simp only [List.set_cons_zero, List.set_cons_succ, List.cons_append, List.nil_append, List.eraseIdx_cons_zero, List.eraseIdx_cons_succ, List.setIfInBounds_toArray, World.size_alloc, selR, List.getD_cons_zero, List.getD_cons_succ] at H); refine wpList_append0 rfl (.tmp 61) (.tmp 63) _ rfl E_text 0 (Nat.zero_le _) _ j _ rfl (H.out.row 6 rfl) _ 1 1 [.string ⟨x.toArray⟩] rfl (reads_of_block (H.out.blk 8 rfl) rfl) (by simp [Value.oneCell']) (by unfold maxLen; omega) (by omega) ?_; intro vq wq howq hgq hatq; replace H := Lib.hid (H.out.setRow 6 rfl hgq howq hatq); (try simp only [List.set_cons_zero, List.set_cons_succ, List.cons_append, List.nil_append, List.eraseIdx_cons_zero, List.eraseIdx_cons_succ, List.setIfInBounds_toArray, World.size_alloc, selR, List.getD_cons_zero, List.getD_cons_succ] at H); clear howq hgq hatq; obtain ⟨B2, d2, rfl, _⟩ := own_slice (H.out.row 6 rfl); clear c1; have c1 := (H.out.blk 3 rfl).cell 1; simp only [List.getElem?_toArray, List.getElem?_cons_zero, List.getElem?_cons_succ] at c1; have f1 := (H.out.blk 3 rfl).frozen 1)))
              replace H := Lib.hid (H.out.setCell 3 rfl 1 (.slice B2 (j + 1) d2)); (try simp only [List.set_cons_zero, List.set_cons_succ, List.cons_append, List.nil_append, List.eraseIdx_cons_zero, List.eraseIdx_cons_succ, List.setIfInBounds_toArray, World.size_alloc, selR, List.getD_cons_zero, List.getD_cons_succ] at H)
              replace H := Lib.hid (H.out.sel [0, 1, 2, 3, 4, 5, 6] (by decide) (by simp)); (try simp only [List.set_cons_zero, List.set_cons_succ, List.cons_append, List.nil_append, List.eraseIdx_cons_zero, List.eraseIdx_cons_succ, List.setIfInBounds_toArray, World.size_alloc, selR, List.getD_cons_zero, List.getD_cons_succ] at H)
              clear c1 f1
              go_wp2_with fail
              go_roundg (m - (j + 1))
              case rel => exact ⟨j + 1, ms ++ [x], B2, d2, t', k', rfl, by omega, by go_num, by show _ = _; rw [List.length_append, hmc.out]; rfl, HML2, by rw [List.map_append]; exact H, HI⟩
              case measure => rw [Hgj.out]; omega
            · have hoM : oMeas l0 = .ok (ms, s.drop tn) := by rw [hE, show m - j = 0 by omega]; rfl
              obtain ⟨hkk0, r1, hoD⟩ := oDims_of hoM HSD.out
              have HN : Hid (psch l0 = pschC ⟨acc.map Dm.con, ms⟩ (s.drop tn)) := psch_o2 hoD hoM
              replace H := Lib.hid (H.out.both 4 5 (by omega) rfl rfl (rX acc A k c) (holds_X (H.out.get 4 rfl) (holds_if_of (H.out.get 5 rfl) (by first | trivial | exact hkk0))) (fun g hg => hg.imp (fun h => h) (fun h => ⟨by first | trivial | exact hkk0, h⟩))); (try simp only [List.set_cons_zero, List.set_cons_succ, List.cons_append, List.nil_append, List.eraseIdx_cons_zero, List.eraseIdx_cons_succ, List.setIfInBounds_toArray, World.size_alloc, selR, List.getD_cons_zero, List.getD_cons_succ] at H)
              replace H := Lib.hid (H.out.both 4 5 (by omega) rfl rfl (rSch ⟨⟨A, k, c, acc⟩, ⟨B, j, d, ms⟩⟩) (holds_sch (of_X (H.out.get 4 rfl)).1 (of_X (H.out.get 4 rfl)).2 (H.out.get 5 rfl) HML.out hk16 hj3) (fun g hg => hg.elim (fun h => .inl (.inl h)) (fun h => h.elim (fun h => .inl (.inr h)) .inr))); (try simp only [List.set_cons_zero, List.set_cons_succ, List.cons_append, List.nil_append, List.eraseIdx_cons_zero, List.eraseIdx_cons_succ, List.setIfInBounds_toArray, World.size_alloc, selR, List.getD_cons_zero, List.getD_cons_succ] at H)
              obtain ⟨D, hD⟩ : ∃ D : Sch, D = ⟨⟨A, k, c, acc⟩, ⟨B, j, d, ms⟩⟩ := ⟨_, rfl⟩
              have hDs : D.cs = #[.slice A k c, .slice B j d] := by rw [hD]
              have hDc : D.con = ⟨acc.map Dm.con, ms⟩ := by rw [hD]
              rw [← hD, ← hDs] at H
              rw [← hDc] at HN
              clear hD hDs hDc hE HI hoM hoD HSD hkk0
              go_wp2_with ((with_reducible show wpList _ _ _ (⟨some 69, _, _, _, _, _⟩ :: _) _ _); (refine wpList_load_blk rfl rowSch (.tmp 4) rfl _ rfl (H.out.blk 3 rfl) rfl ?_))
              refine (schwrong_any D _ (H.out.at_ 4 rfl).rd (by have := (H.out.at_ 4 rfl).dn; omega) (by have := (H.out.at_ 4 rfl).mn; omega) (fun d hd => ((H.out.at_ 4 rfl).small d hd).1)).mono ?_; rintro e w8 ⟨rfl, hb8⟩
              replace H := Lib.hid (H.out.bel hb8); (try simp only [List.set_cons_zero, List.set_cons_succ, List.cons_append, List.nil_append, List.eraseIdx_cons_zero, List.eraseIdx_cons_succ, List.setIfInBounds_toArray, World.size_alloc, selR, List.getD_cons_zero, List.getD_cons_succ] at H)
              clear hb8 c2 f2
              have HSR : Hid (SRes s (psch l0) tn (schErr D.con) D.con) := by
                show SRes _ _ _ _ _
                rw [HN.out]
                unfold pschC
                by_cases h0 : schErr D.con = 0
                · rw [if_pos h0]; exact .inr ⟨h0, tn, rfl, htn, rfl⟩
                · rw [if_neg h0]; exact .inl ⟨h0, rfl⟩
              generalize schErr D.con = E at *
              have c2 := (H.out.blk 0 rfl).cell 2; simp only [List.getElem?_toArray, List.getElem?_cons_zero, List.getElem?_cons_succ] at c2; have f2 := (H.out.blk 0 rfl).frozen 2
              go_upto_region 18 with fail
              replace H := Lib.hid (H.out.setCell 0 rfl 2 (.int .i64 E)); (try simp only [List.set_cons_zero, List.set_cons_succ, List.cons_append, List.nil_append, List.eraseIdx_cons_zero, List.eraseIdx_cons_succ, List.setIfInBounds_toArray, World.size_alloc, selR, List.getD_cons_zero, List.getD_cons_succ] at H)
              clear c2 f2
              refine wp_region_pair (by kernel_rfl) ⟨by kernel_rfl, by kernel_rfl, by kernel_rfl, by kernel_rfl, by kernel_rfl, by kernel_rfl, by kernel_rfl, by kernel_rfl⟩ rowScn rowSch (.tmp 1) (.tmp 4) (.tmp 2) (.tmp 3) (.tmp 72) (.tmp 73) rfl rfl rfl rfl rfl rfl rfl rfl rfl rfl _ _ _ _ (H.out.blk 0 rfl) (H.out.blk 3 rfl) (H.out.blk 1 rfl) (H.out.blk 2 rfl) rfl rfl rfl rfl (scs_one _ _ _) (sch_one D) (H.out.ne 1 2 (by decide) rfl rfl) (H.out.ne 0 1 (by decide) rfl rfl) (H.out.ne 0 2 (by decide) rfl rfl) (H.out.ne 3 1 (by decide) rfl rfl) (H.out.ne 3 2 (by decide) rfl rfl) rfl rfl rfl rfl rfl rfl (by exact fun _ _ _ h => h) (by exact fun _ _ _ h => h) ?_
              intro w10 r10 z10 hbut
              replace H := Lib.hid (H.out.butD 1 2 (by decide) rfl rfl hbut r10 z10); (try simp only [List.set_cons_zero, List.set_cons_succ, List.cons_append, List.nil_append, List.eraseIdx_cons_zero, List.eraseIdx_cons_succ, List.setIfInBounds_toArray, World.size_alloc, selR, List.getD_cons_zero, List.getD_cons_succ] at H)
              go_wp2_with fail
              refine bodyPost_ret (results_blk2 rfl rowScn rowSch rfl rfl r10 z10 rfl rfl) rfl ?_
              exact ⟨tn, E, D, rfl, H.out.to, HSR, fun h => ⟨H.out.get 4 rfl, H.out.new 4 rfl⟩⟩
          · have hk3 : (k2 == 0) = false := by simpa using hkk2
            by_cases hlt2 : j < m
            · obtain ⟨D, hD⟩ : ∃ D : Sch, D = ⟨⟨A, k, c, acc⟩, ⟨B, j, d, ms⟩⟩ := ⟨_, rfl⟩
              have hDs : D.cs = #[.slice A k c, .slice B j d] := by rw [hD]
              have HSR : Hid (SRes s (psch l0) t2 k2 D.con) := .inl ⟨hkk2, psch_o1 (HI.out.bad hkk2)⟩
              have HKK := Lib.hid hkk2
              rw [← hDs] at H
              clear hD hDs hkk2 HI
              go_upto_region 18 with fail
              clear c2 f2 hk3
              refine wp_region_pair (by kernel_rfl) ⟨by kernel_rfl, by kernel_rfl, by kernel_rfl, by kernel_rfl, by kernel_rfl, by kernel_rfl, by kernel_rfl, by kernel_rfl⟩ rowScn rowSch (.tmp 1) (.tmp 4) (.tmp 2) (.tmp 3) (.tmp 72) (.tmp 73) rfl rfl rfl rfl rfl rfl rfl rfl rfl rfl _ _ _ _ (H.out.blk 0 rfl) (H.out.blk 3 rfl) (H.out.blk 1 rfl) (H.out.blk 2 rfl) rfl rfl rfl rfl (scs_one _ _ _) (sch_one D) (H.out.ne 1 2 (by decide) rfl rfl) (H.out.ne 0 1 (by decide) rfl rfl) (H.out.ne 0 2 (by decide) rfl rfl) (H.out.ne 3 1 (by decide) rfl rfl) (H.out.ne 3 2 (by decide) rfl rfl) rfl rfl rfl rfl rfl rfl (by exact fun _ _ _ h => h) (by exact fun _ _ _ h => h) ?_
              intro w10 r10 z10 hbut
              replace H := Lib.hid (H.out.butD 1 2 (by decide) rfl rfl hbut r10 z10); (try simp only [List.set_cons_zero, List.set_cons_succ, List.cons_append, List.nil_append, List.eraseIdx_cons_zero, List.eraseIdx_cons_succ, List.setIfInBounds_toArray, World.size_alloc, selR, List.getD_cons_zero, List.getD_cons_succ] at H)
              go_wp2_with fail
              refine bodyPost_ret (results_blk2 rfl rowScn rowSch rfl rfl r10 z10 rfl rfl) rfl ?_
              exact ⟨t2, k2, D, rfl, H.out.to, HSR, fun h => absurd h HKK.out⟩
            · obtain ⟨D, hD⟩ : ∃ D : Sch, D = ⟨⟨A, k, c, acc⟩, ⟨B, j, d, ms⟩⟩ := ⟨_, rfl⟩
              have hDs : D.cs = #[.slice A k c, .slice B j d] := by rw [hD]
              have HSR : Hid (SRes s (psch l0) t2 k2 D.con) := .inl ⟨hkk2, psch_o1 (HI.out.bad hkk2)⟩
              have HKK := Lib.hid hkk2
              rw [← hDs] at H
              clear hD hDs hkk2 HI
              go_upto_region 18 with fail
              clear c2 f2 hk3
              refine wp_region_pair (by kernel_rfl) ⟨by kernel_rfl, by kernel_rfl, by kernel_rfl, by kernel_rfl, by kernel_rfl, by kernel_rfl, by kernel_rfl, by kernel_rfl⟩ rowScn rowSch (.tmp 1) (.tmp 4) (.tmp 2) (.tmp 3) (.tmp 72) (.tmp 73) rfl rfl rfl rfl rfl rfl rfl rfl rfl rfl _ _ _ _ (H.out.blk 0 rfl) (H.out.blk 3 rfl) (H.out.blk 1 rfl) (H.out.blk 2 rfl) rfl rfl rfl rfl (scs_one _ _ _) (sch_one D) (H.out.ne 1 2 (by decide) rfl rfl) (H.out.ne 0 1 (by decide) rfl rfl) (H.out.ne 0 2 (by decide) rfl rfl) (H.out.ne 3 1 (by decide) rfl rfl) (H.out.ne 3 2 (by decide) rfl rfl) rfl rfl rfl rfl rfl rfl (by exact fun _ _ _ h => h) (by exact fun _ _ _ h => h) ?_
              intro w10 r10 z10 hbut
              replace H := Lib.hid (H.out.butD 1 2 (by decide) rfl rfl hbut r10 z10); (try simp only [List.set_cons_zero, List.set_cons_succ, List.cons_append, List.nil_append, List.eraseIdx_cons_zero, List.eraseIdx_cons_succ, List.setIfInBounds_toArray, World.size_alloc, selR, List.getD_cons_zero, List.getD_cons_succ] at H)
              go_wp2_with fail
              refine bodyPost_ret (results_blk2 rfl rowScn rowSch rfl rfl r10 z10 rfl rfl) rfl ?_
              exact ⟨t2, k2, D, rfl, H.out.to, HSR, fun h => absurd h HKK.out⟩
      · go_wp2_with ((with_reducible show wpList _ _ _ (⟨some 40, _, _, _, _, _⟩ :: _) _ _); (refine wpList_load_blk rfl rowScn (.tmp 1) rfl _ rfl (H.out.blk 0 rfl) rfl ?_))
        refine (rnumS_any s (oDims l0) t kk (acc.map Dm.con) HSD.out 3 hs (by omega) (by omega) _).mono ?_; rintro e w6 ⟨t2, k2, m, rfl, hb6, hm3, HS2⟩
        replace H := Lib.hid (H.out.bel hb6); (try simp only [List.set_cons_zero, List.set_cons_succ, List.cons_append, List.nil_append, List.eraseIdx_cons_zero, List.eraseIdx_cons_succ, List.setIfInBounds_toArray, World.size_alloc, selR, List.getD_cons_zero, List.getD_cons_succ] at H)
        have HI := Lib.hid (LInv.startM HS2.out)
        clear hb6 HS2
        go_wp2_with ((with_reducible show wpList _ _ _ (⟨_, .store _ (.tmp 1) _, _, _, _, _⟩ :: _) _ _); (refine wpList_store_blk rfl rowScn (.tmp 1) (.tmp 42) rfl _ rfl (H.out.blk 0 rfl) rfl (scs s t2 k2) rfl rfl (scs_one _ _ _) ?_; intro wq bq hgq; replace H := Lib.hid (H.out.setBlk 0 rfl hgq bq); (try simp only [List.set_cons_zero, List.set_cons_succ, List.cons_append, List.nil_append, List.eraseIdx_cons_zero, List.eraseIdx_cons_succ, List.setIfInBounds_toArray, World.size_alloc, selR, List.getD_cons_zero, List.getD_cons_succ] at H); clear hgq bq))
        replace H := Lib.hid (H.out.addNil 9 1); (try simp only [List.set_cons_zero, List.set_cons_succ, List.cons_append, List.nil_append, List.eraseIdx_cons_zero, List.eraseIdx_cons_succ, List.setIfInBounds_toArray, World.size_alloc, selR, List.getD_cons_zero, List.getD_cons_succ] at H)
        have HML : Hid (∀ x ∈ ([] : List (List UInt8)), x.length ≤ 12) := by show ∀ x ∈ ([] : List (List UInt8)), _; intro x hx; cases hx
        go_loopg [9] m (fun gg s9 wr => ∃ (j : Nat) (ms : List (List UInt8)) (B : Option Addr) (d : Nat) (t2 k2 : Int), gg = m - j ∧ j ≤ m ∧ s9 = .int .i64 j ∧ Hid (ms.length = j) ∧ Hid (∀ x ∈ ms, x.length ≤ 12) ∧ Hid (SL No w wr [rBlk a 161 (scs s t2 k2), rBlk r 161 (scs [] 0 0), rBlk z 25 #[.slice none 0 0, .slice none 0 0], rBlk g 25 #[.slice A k c, .slice B j d], rRow 64 2 (.slice A k c) k (acc.flatMap Cel.cells), rIf (kk = 0) (rList rDm acc), rRow 9 1 (.slice B j d) j (ms.map tx)]) ∧ Hid (LInv s (oMeas l0) (ptxt 12) m j ms t2 k2))
        case atStart => exact ⟨0, [], none, 0, t2, k2, rfl, by omega, rfl, rfl, HML, H, HI⟩
        case round =>
          clear H HI HML
          obtain ⟨j, ms, B, d, t2, k2, hgj, hj, rfl, hmc, HML, H, HI⟩ := hrel
          have Hgj := Lib.hid hgj
          have hj3 : j ≤ 3 := by omega
          clear hgj
          have c2 := (H.out.blk 0 rfl).cell 2; simp only [List.getElem?_toArray, List.getElem?_cons_zero, List.getElem?_cons_succ] at c2; have f2 := (H.out.blk 0 rfl).frozen 2
          by_cases hkk2 : k2 = 0
          · subst hkk2
            obtain ⟨tn, rfl, htn, hE⟩ := HI.out.good
            by_cases hlt2 : j < m
            · have HStep := Lib.hid (fun x t' k' (hS : SRes s (ptxt 12 (s.drop tn)) t' k' x) => LInv.step hlt2 hE hS)
              clear hE HI
              go_wp2_with ((with_reducible show wpList _ _ _ (⟨some 55, _, _, _, _, _⟩ :: _) _ _); (refine wpList_load_blk rfl rowScn (.tmp 1) rfl _ rfl (H.out.blk 0 rfl) rfl ?_))
              refine (rtext0_any s tn 12 hs htn (by omega) (by omega) _).mono ?_; rintro e w7 ⟨t', k', x, rfl, hb7, hx12, hS⟩
              replace H := Lib.hid (H.out.bel hb7); (try simp only [List.set_cons_zero, List.set_cons_succ, List.cons_append, List.nil_append, List.eraseIdx_cons_zero, List.eraseIdx_cons_succ, List.setIfInBounds_toArray, World.size_alloc, selR, List.getD_cons_zero, List.getD_cons_succ] at H)
              have HI := Lib.hid (HStep.out _ _ _ hS.out)
              have HML2 : Hid (∀ y ∈ ms ++ [x], y.length ≤ 12) := by
                intro y hy
                rcases List.mem_append.1 hy with hy | hy
                · exact HML.out y hy
                · rw [List.mem_singleton] at hy; subst hy; omega
              clear hb7 hS HStep c2 f2
              go_wp2_with (first | ((with_reducible show wpList _ _ _ (⟨_, .store _ (.tmp 10) _, _, _, _, _⟩ :: _) _ _); (refine wpList_store_new rfl rowScn (.tmp 10) (.tmp 57) rfl rfl rfl (scs s t' k') rfl rfl (scs_one _ _ _) ?_; replace H := Lib.hid (H.out.alloc (scs s t' k') 161); (try simp only [List.set_cons_zero, List.set_cons_succ, List.cons_append, List.nil_append, List.eraseIdx_cons_zero, List.eraseIdx_cons_succ, List.setIfInBounds_toArray, World.size_alloc, selR, List.getD_cons_zero, List.getD_cons_succ] at H))) | ((with_reducible show wpList _ _ _ (⟨some 59, _, _, _, _, _⟩ :: _) _ _); (refine wpList_load_blk rfl rowScn (.tmp 10) rfl _ rfl (H.out.blk 7 rfl) rfl ?_)) | ((with_reducible show wpList _ _ _ (⟨_, .store _ (.tmp 1) _, _, _, _, _⟩ :: _) _ _); (refine wpList_store_blk rfl rowScn (.tmp 1) (.tmp 59) rfl _ rfl (H.out.blk 0 rfl) rfl (scs s t' k') rfl rfl (scs_one _ _ _) ?_; intro wq bq hgq; replace H := Lib.hid (H.out.setBlk 0 rfl hgq bq); (try simp only [List.set_cons_zero, List.set_cons_succ, List.cons_append, List.nil_append, List.eraseIdx_cons_zero, List.eraseIdx_cons_succ, List.setIfInBounds_toArray, World.size_alloc, selR, List.getD_cons_zero, List.getD_cons_succ] at H); clear hgq bq; have c1 := (H.out.blk 3 rfl).cell 1; simp only [List.getElem?_toArray, List.getElem?_cons_zero, List.getElem?_cons_succ] at c1)) | ((with_reducible show wpList _ _ _ (⟨some 64, _, _, _, _, _⟩ :: _) _ _); (replace H := Lib.hid (H.out.alloc #[.string ⟨x.toArray⟩] 9); (try simp only [List.set_cons_zero, List.set_cons_succ, List.cons_append, List.nil_append, List.eraseIdx_cons_zero, List.eraseIdx_cons_succ, List.setIfInBounds_toArray, World.size_alloc, selR, List.getD_cons_zero, List.getD_cons_succ] at H); refine wpList_append0 rfl (.tmp 61) (.tmp 63) _ rfl E_text 0 (Nat.zero_le _) _ j _ rfl (H.out.row 6 rfl) _ 1 1 [.string ⟨x.toArray⟩] rfl (reads_of_block (H.out.blk 8 rfl) rfl) (by simp [Value.oneCell']) (by unfold maxLen; omega) (by omega) ?_; intro vq wq howq hgq hatq; replace H := Lib.hid (H.out.setRow 6 rfl hgq howq hatq); (try simp only [List.set_cons_zero, List.set_cons_succ, List.cons_append, List.nil_append, List.eraseIdx_cons_zero, List.eraseIdx_cons_succ, List.setIfInBounds_toArray, World.size_alloc, selR, List.getD_cons_zero, List.getD_cons_succ] at H); clear howq hgq hatq; obtain ⟨B2, d2, rfl, _⟩ := own_slice (H.out.row 6 rfl); clear c1; have c1 := (H.out.blk 3 rfl).cell 1; simp only [List.getElem?_toArray, List.getElem?_cons_zero, List.getElem?_cons_succ] at c1; have f1 := (H.out.blk 3 rfl).frozen 1)))
              replace H := Lib.hid (H.out.setCell 3 rfl 1 (.slice B2 (j + 1) d2)); (try simp only [List.set_cons_zero, List.set_cons_succ, List.cons_append, List.nil_append, List.eraseIdx_cons_zero, List.eraseIdx_cons_succ, List.setIfInBounds_toArray, World.size_alloc, selR, List.getD_cons_zero, List.getD_cons_succ] at H)
              replace H := Lib.hid (H.out.sel [0, 1, 2, 3, 4, 5, 6] (by decide) (by simp)); (try simp only [List.set_cons_zero, List.set_cons_succ, List.cons_append, List.nil_append, List.eraseIdx_cons_zero, List.eraseIdx_cons_succ, List.setIfInBounds_toArray, World.size_alloc, selR, List.getD_cons_zero, List.getD_cons_succ] at H)
              clear c1 f1
              go_wp2_with fail
              go_roundg (m - (j + 1))
              case rel => exact ⟨j + 1, ms ++ [x], B2, d2, t', k', rfl, by omega, by go_num, by show _ = _; rw [List.length_append, hmc.out]; rfl, HML2, by rw [List.map_append]; exact H, HI⟩
              case measure => rw [Hgj.out]; omega
            · have hoM : oMeas l0 = .ok (ms, s.drop tn) := by rw [hE, show m - j = 0 by omega]; rfl
              obtain ⟨hkk0, r1, hoD⟩ := oDims_of hoM HSD.out
              have HN : Hid (psch l0 = pschC ⟨acc.map Dm.con, ms⟩ (s.drop tn)) := psch_o2 hoD hoM
              replace H := Lib.hid (H.out.both 4 5 (by omega) rfl rfl (rX acc A k c) (holds_X (H.out.get 4 rfl) (holds_if_of (H.out.get 5 rfl) (by first | trivial | exact hkk0))) (fun g hg => hg.imp (fun h => h) (fun h => ⟨by first | trivial | exact hkk0, h⟩))); (try simp only [List.set_cons_zero, List.set_cons_succ, List.cons_append, List.nil_append, List.eraseIdx_cons_zero, List.eraseIdx_cons_succ, List.setIfInBounds_toArray, World.size_alloc, selR, List.getD_cons_zero, List.getD_cons_succ] at H)
              replace H := Lib.hid (H.out.both 4 5 (by omega) rfl rfl (rSch ⟨⟨A, k, c, acc⟩, ⟨B, j, d, ms⟩⟩) (holds_sch (of_X (H.out.get 4 rfl)).1 (of_X (H.out.get 4 rfl)).2 (H.out.get 5 rfl) HML.out hk16 hj3) (fun g hg => hg.elim (fun h => .inl (.inl h)) (fun h => h.elim (fun h => .inl (.inr h)) .inr))); (try simp only [List.set_cons_zero, List.set_cons_succ, List.cons_append, List.nil_append, List.eraseIdx_cons_zero, List.eraseIdx_cons_succ, List.setIfInBounds_toArray, World.size_alloc, selR, List.getD_cons_zero, List.getD_cons_succ] at H)
              obtain ⟨D, hD⟩ : ∃ D : Sch, D = ⟨⟨A, k, c, acc⟩, ⟨B, j, d, ms⟩⟩ := ⟨_, rfl⟩
              have hDs : D.cs = #[.slice A k c, .slice B j d] := by rw [hD]
              have hDc : D.con = ⟨acc.map Dm.con, ms⟩ := by rw [hD]
              rw [← hD, ← hDs] at H
              rw [← hDc] at HN
              clear hD hDs hDc hE HI hoM hoD HSD hkk0
              go_wp2_with ((with_reducible show wpList _ _ _ (⟨some 69, _, _, _, _, _⟩ :: _) _ _); (refine wpList_load_blk rfl rowSch (.tmp 4) rfl _ rfl (H.out.blk 3 rfl) rfl ?_))
              refine (schwrong_any D _ (H.out.at_ 4 rfl).rd (by have := (H.out.at_ 4 rfl).dn; omega) (by have := (H.out.at_ 4 rfl).mn; omega) (fun d hd => ((H.out.at_ 4 rfl).small d hd).1)).mono ?_; rintro e w8 ⟨rfl, hb8⟩
              replace H := Lib.hid (H.out.bel hb8); (try simp only [List.set_cons_zero, List.set_cons_succ, List.cons_append, List.nil_append, List.eraseIdx_cons_zero, List.eraseIdx_cons_succ, List.setIfInBounds_toArray, World.size_alloc, selR, List.getD_cons_zero, List.getD_cons_succ] at H)
              clear hb8 c2 f2
              have HSR : Hid (SRes s (psch l0) tn (schErr D.con) D.con) := by
                show SRes _ _ _ _ _
                rw [HN.out]
                unfold pschC
                by_cases h0 : schErr D.con = 0
                · rw [if_pos h0]; exact .inr ⟨h0, tn, rfl, htn, rfl⟩
                · rw [if_neg h0]; exact .inl ⟨h0, rfl⟩
              generalize schErr D.con = E at *
              have c2 := (H.out.blk 0 rfl).cell 2; simp only [List.getElem?_toArray, List.getElem?_cons_zero, List.getElem?_cons_succ] at c2; have f2 := (H.out.blk 0 rfl).frozen 2
              go_upto_region 18 with fail
              replace H := Lib.hid (H.out.setCell 0 rfl 2 (.int .i64 E)); (try simp only [List.set_cons_zero, List.set_cons_succ, List.cons_append, List.nil_append, List.eraseIdx_cons_zero, List.eraseIdx_cons_succ, List.setIfInBounds_toArray, World.size_alloc, selR, List.getD_cons_zero, List.getD_cons_succ] at H)
              clear c2 f2
              refine wp_region_pair (by kernel_rfl) ⟨by kernel_rfl, by kernel_rfl, by kernel_rfl, by kernel_rfl, by kernel_rfl, by kernel_rfl, by kernel_rfl, by kernel_rfl⟩ rowScn rowSch (.tmp 1) (.tmp 4) (.tmp 2) (.tmp 3) (.tmp 72) (.tmp 73) rfl rfl rfl rfl rfl rfl rfl rfl rfl rfl _ _ _ _ (H.out.blk 0 rfl) (H.out.blk 3 rfl) (H.out.blk 1 rfl) (H.out.blk 2 rfl) rfl rfl rfl rfl (scs_one _ _ _) (sch_one D) (H.out.ne 1 2 (by decide) rfl rfl) (H.out.ne 0 1 (by decide) rfl rfl) (H.out.ne 0 2 (by decide) rfl rfl) (H.out.ne 3 1 (by decide) rfl rfl) (H.out.ne 3 2 (by decide) rfl rfl) rfl rfl rfl rfl rfl rfl (by exact fun _ _ _ h => h) (by exact fun _ _ _ h => h) ?_
              intro w10 r10 z10 hbut
              replace H := Lib.hid (H.out.butD 1 2 (by decide) rfl rfl hbut r10 z10); (try simp only [List.set_cons_zero, List.set_cons_succ, List.cons_append, List.nil_append, List.eraseIdx_cons_zero, List.eraseIdx_cons_succ, List.setIfInBounds_toArray, World.size_alloc, selR, List.getD_cons_zero, List.getD_cons_succ] at H)
              go_wp2_with fail
              refine bodyPost_ret (results_blk2 rfl rowScn rowSch rfl rfl r10 z10 rfl rfl) rfl ?_
              exact ⟨tn, E, D, rfl, H.out.to, HSR, fun h => ⟨H.out.get 4 rfl, H.out.new 4 rfl⟩⟩
          · have hk3 : (k2 == 0) = false := by simpa using hkk2
            by_cases hlt2 : j < m
            · obtain ⟨D, hD⟩ : ∃ D : Sch, D = ⟨⟨A, k, c, acc⟩, ⟨B, j, d, ms⟩⟩ := ⟨_, rfl⟩
              have hDs : D.cs = #[.slice A k c, .slice B j d] := by rw [hD]
              have HSR : Hid (SRes s (psch l0) t2 k2 D.con) := .inl ⟨hkk2, psch_o1 (HI.out.bad hkk2)⟩
              have HKK := Lib.hid hkk2
              rw [← hDs] at H
              clear hD hDs hkk2 HI
              go_upto_region 18 with fail
              clear c2 f2 hk3
              refine wp_region_pair (by kernel_rfl) ⟨by kernel_rfl, by kernel_rfl, by kernel_rfl, by kernel_rfl, by kernel_rfl, by kernel_rfl, by kernel_rfl, by kernel_rfl⟩ rowScn rowSch (.tmp 1) (.tmp 4) (.tmp 2) (.tmp 3) (.tmp 72) (.tmp 73) rfl rfl rfl rfl rfl rfl rfl rfl rfl rfl _ _ _ _ (H.out.blk 0 rfl) (H.out.blk 3 rfl) (H.out.blk 1 rfl) (H.out.blk 2 rfl) rfl rfl rfl rfl (scs_one _ _ _) (sch_one D) (H.out.ne 1 2 (by decide) rfl rfl) (H.out.ne 0 1 (by decide) rfl rfl) (H.out.ne 0 2 (by decide) rfl rfl) (H.out.ne 3 1 (by decide) rfl rfl) (H.out.ne 3 2 (by decide) rfl rfl) rfl rfl rfl rfl rfl rfl (by exact fun _ _ _ h => h) (by exact fun _ _ _ h => h) ?_
              intro w10 r10 z10 hbut
              replace H := Lib.hid (H.out.butD 1 2 (by decide) rfl rfl hbut r10 z10); (try simp only [List.set_cons_zero, List.set_cons_succ, List.cons_append, List.nil_append, List.eraseIdx_cons_zero, List.eraseIdx_cons_succ, List.setIfInBounds_toArray, World.size_alloc, selR, List.getD_cons_zero, List.getD_cons_succ] at H)
              go_wp2_with fail
              refine bodyPost_ret (results_blk2 rfl rowScn rowSch rfl rfl r10 z10 rfl rfl) rfl ?_
              exact ⟨t2, k2, D, rfl, H.out.to, HSR, fun h => absurd h HKK.out⟩
            · obtain ⟨D, hD⟩ : ∃ D : Sch, D = ⟨⟨A, k, c, acc⟩, ⟨B, j, d, ms⟩⟩ := ⟨_, rfl⟩
              have hDs : D.cs = #[.slice A k c, .slice B j d] := by rw [hD]
              have HSR : Hid (SRes s (psch l0) t2 k2 D.con) := .inl ⟨hkk2, psch_o1 (HI.out.bad hkk2)⟩
              have HKK := Lib.hid hkk2
              rw [← hDs] at H
              clear hD hDs hkk2 HI
              go_upto_region 18 with fail
              clear c2 f2 hk3
              refine wp_region_pair (by kernel_rfl) ⟨by kernel_rfl, by kernel_rfl, by kernel_rfl, by kernel_rfl, by kernel_rfl, by kernel_rfl, by kernel_rfl, by kernel_rfl⟩ rowScn rowSch (.tmp 1) (.tmp 4) (.tmp 2) (.tmp 3) (.tmp 72) (.tmp 73) rfl rfl rfl rfl rfl rfl rfl rfl rfl rfl _ _ _ _ (H.out.blk 0 rfl) (H.out.blk 3 rfl) (H.out.blk 1 rfl) (H.out.blk 2 rfl) rfl rfl rfl rfl (scs_one _ _ _) (sch_one D) (H.out.ne 1 2 (by decide) rfl rfl) (H.out.ne 0 1 (by decide) rfl rfl) (H.out.ne 0 2 (by decide) rfl rfl) (H.out.ne 3 1 (by decide) rfl rfl) (H.out.ne 3 2 (by decide) rfl rfl) rfl rfl rfl rfl rfl rfl (by exact fun _ _ _ h => h) (by exact fun _ _ _ h => h) ?_
              intro w10 r10 z10 hbut
              replace H := Lib.hid (H.out.butD 1 2 (by decide) rfl rfl hbut r10 z10); (try simp only [List.set_cons_zero, List.set_cons_succ, List.cons_append, List.nil_append, List.eraseIdx_cons_zero, List.eraseIdx_cons_succ, List.setIfInBounds_toArray, World.size_alloc, selR, List.getD_cons_zero, List.getD_cons_succ] at H)
              go_wp2_with fail
              refine bodyPost_ret (results_blk2 rfl rowScn rowSch rfl rfl r10 z10 rfl rfl) rfl ?_
              exact ⟨t2, k2, D, rfl, H.out.to, HSR, fun h => absurd h HKK.out⟩

end Go.Proofs.Ytnekknemjhlgdaa
