/- schema.Take; the law's reading of a schema with which bytes begin. -/
import Derived.Test.YtnjpoamebkehbaaSchR
namespace Go.Proofs.Ytnjpoamebkehbaa
open Go.RowKit
set_option linter.unusedVariables false
set_option linter.unusedSimpArgs false

/-- What is read is laid in a block of the reading function's own. -/
def Rsch (w0 : World) (s : List UInt8) (B g : Nat) (l : List Res) (o : PR SC) (K : PR SC → Int) (k : Int) (w' : World) : Prop :=
  k = K o ∧ ∃ (D : Sch) (q : List UInt8), SL No w0 w' (rAll B s q (rBlk g 70 D.cs :: (l ++ [rSch D]))) ∧ ∀ d r, o = .ok (d, r) → D.con = d
set_option maxRecDepth 100000 in
set_option maxHeartbeats 1000000 in
theorem schtake1_any (w0 : World) (B g : Nat) (s : List UInt8) (w : World) (l : List Res) (h : SL No w0 w (rAll B s s (rBlk g 70 Sch.nil.cs :: l))) :
    Calls Try.prog 111 #[.pointer (some ⟨B + 1, 0, none⟩), .pointer (some ⟨g, 0, none⟩)] w (AllPost B s (Rsch w0 s B g l (psch s) endErr)) := by
  have HT := Lib.hid (schread_any (B + 1) s s w (h.rdr 0 rfl))
  have H := Lib.hid h
  clear h
  go_enter Try.func111, Try.ntmps111
  go_wp2_with fail
  cases ho : psch s with
  | error k =>
    have Ho := Lib.hid ho
    rw [ho] at HT
    refine HT.out.mono ?_; rintro e w1 ⟨rfl, hg, l1, hr⟩
    have H1 : SL No w0 w1 (rAll B s l1 (rBlk g 70 Sch.nil.cs :: (l ++ [rSch Sch.nil]))) := (H.out.readAll hg hr).add (Bel.refl _) _ (holds_sch_nil w1) sch_nil_new
    clear ho hg hr H
    go_wp2_with fail
    refine ⟨rfl, ?_⟩
    exact SL.err H1 ⟨rfl, Sch.nil, l1, H1, fun _ _ h => by cases h⟩
  | ok q =>
    obtain ⟨d, l1⟩ := q
    have Ho := Lib.hid ho
    rw [ho] at HT
    refine HT.out.mono ?_; rintro e w1 ⟨D, rfl, hDc, hg, hr, hnew⟩
    have HDc := Lib.hid hDc
    have H1 : SL No w0 w1 (rAll B s l1 (rBlk g 70 Sch.nil.cs :: (l ++ [rSch D]))) := H.out.readAllAdd hg hr (rSch D) hnew.1 hnew.2
    clear ho hg hr H hDc hnew HT
    go_wp2_with ((with_reducible show wpList _ _ _ (⟨_, .store _ (.tmp 1) _, _, _, _, _⟩ :: _) _ _); refine wpList_store_blk rfl rowSch (.tmp 1) (.tmp 4) rfl g rfl (H1.blk 3 rfl) rfl D.cs rfl rfl (sch_one D) ?_; intro w2 b2 hg2)
    go_end0
    have H2 : SL No w0 w2 (rAll B s l1 (rBlk g 70 D.cs :: (l ++ [rSch D]))) := H1.setBlk 3 rfl hg2 b2
    exact SL.ok H2 ⟨by rw [Ho.out]; rfl, D, l1, H2, fun d' r' h => by rw [Ho.out] at h; injection h with h; injection h with h _; exact HDc.out.trans h⟩

set_option maxRecDepth 100000 in
set_option maxHeartbeats 1000000 in
theorem schl1_any (w0 : World) (B g : Nat) (s : List UInt8) (w : World) (l : List Res) (h : SL No w0 w (rAll B s s (rBlk g 70 Sch.nil.cs :: l))) :
    Calls Try.prog 52 #[.pointer (some ⟨B + 1, 0, none⟩), .pointer (some ⟨g, 0, none⟩)] w (AllPost B s (Rsch w0 s B g l (psch s) prErr)) := by
  have HT := Lib.hid (schread_any (B + 1) s s w (h.rdr 0 rfl))
  have H := Lib.hid h
  clear h
  go_enter Try.func52, Try.ntmps52
  go_wp2_with fail
  cases ho : psch s with
  | error k =>
    have Ho := Lib.hid ho
    rw [ho] at HT
    refine HT.out.mono ?_; rintro e w1 ⟨rfl, hg, l1, hr⟩
    have H1 : SL No w0 w1 (rAll B s l1 (rBlk g 70 Sch.nil.cs :: (l ++ [rSch Sch.nil]))) := (H.out.readAll hg hr).add (Bel.refl _) _ (holds_sch_nil w1) sch_nil_new
    clear ho hg hr H
    go_wp2_with fail
    refine ⟨rfl, ?_⟩
    exact SL.err H1 ⟨rfl, Sch.nil, l1, H1, fun _ _ h => by cases h⟩
  | ok q =>
    obtain ⟨d, l1⟩ := q
    have Ho := Lib.hid ho
    rw [ho] at HT
    refine HT.out.mono ?_; rintro e w1 ⟨D, rfl, hDc, hg, hr, hnew⟩
    have HDc := Lib.hid hDc
    have H1 : SL No w0 w1 (rAll B s l1 (rBlk g 70 Sch.nil.cs :: (l ++ [rSch D]))) := H.out.readAllAdd hg hr (rSch D) hnew.1 hnew.2
    clear ho hg hr H hDc hnew HT
    go_wp2_with ((with_reducible show wpList _ _ _ (⟨_, .store _ (.tmp 1) _, _, _, _, _⟩ :: _) _ _); refine wpList_store_blk rfl rowSch (.tmp 1) (.tmp 4) rfl g rfl (H1.blk 3 rfl) rfl D.cs rfl rfl (sch_one D) ?_; intro w2 b2 hg2)
    have H2 : Hid (SL No w0 w2 (rAll B s l1 (rBlk g 70 D.cs :: (l ++ [rSch D])))) := H1.setBlk 3 rfl hg2 b2
    clear H1 hg2 b2
    have hl1 := (H2.out.rdr 0 rfl).len
    refine (left_any (B + 1) s l1 _ (H2.out.rdr 0 rfl)).mono ?_; rintro e w3 ⟨rfl, hb3⟩
    have H3 := Lib.hid (H2.out.bel hb3)
    clear hb3 H2
    go_wp2_with fail
    have HF := Lib.hid (fix_any (B + 1) s l1 (l1.length : Int) _ (H3.out.rdr 0 rfl) (by omega) (by omega))
    rw [show pfix (l1.length : Int) l1 = .ok (l1, []) by unfold pfix; rw [if_neg (by omega), Int.toNat_natCast, List.take_length, List.drop_length]] at HF
    refine HF.out.mono ?_; rintro e w5 ⟨rfl, hg5, hr5⟩
    have H5 := H3.out.readAll hg5 hr5
    clear HF hg5 hr5 H3
    go_wp2_with fail
    go_end0
    exact SL.ok H5 ⟨by rw [Ho.out]; rfl, D, [], H5, fun d' r' h => by rw [Ho.out] at h; injection h with h; injection h with h _; exact HDc.out.trans h⟩

/-- What Take answers. -/
def schtake (s : List UInt8) : SC × Int :=
  match psch s with
  | .error k => (SC.nil, k)
  | .ok (t, l) => if l = [] then (t, 0) else (SC.nil, 3)
def Tksch (r : SC × Int) (w : World) (e : Ending) (w' : World) : Prop := ∃ D : Sch, e = .returned (.tuple #[.agg D.cs, .int .i64 r.2]) ∧ D.con = r.1 ∧ Bel w w' ∧ NewR w w' (rSch D)

set_option maxRecDepth 100000 in
set_option maxHeartbeats 1000000 in
theorem schtake_any (s : List UInt8) (w : World) (hs : s.length ≤ 1000001) :
    Calls Try.prog 48 #[.string ⟨s.toArray⟩] w (Tksch (schtake s) w) := by
  have hmf : ∀ (fn : Fn) (first cap : Array Value) (w : World), (Instr.makeFunc fn first cap).run Try.prog w = .ok (.func fn first cap) w := fun _ _ _ _ => rfl
  have H := Lib.hid (((SL.start No w).alloc #[.slice none 0 0, .slice none 0 0] 70).alloc #[.slice none 0 0, .slice none 0 0] 70)
  (try simp only [List.set_cons_zero, List.set_cons_succ, List.cons_append, List.nil_append, List.eraseIdx_cons_zero, List.eraseIdx_cons_succ, List.setIfInBounds_toArray, World.size_alloc, selR, List.getD_cons_zero, List.getD_cons_succ] at H)
  go_enter Try.func48, Try.ntmps48
  go_wp2_with fail
  replace H := Lib.hid (H.out.sel [1, 0] (by decide) (by simp)); (try simp only [List.set_cons_zero, List.set_cons_succ, List.cons_append, List.nil_append, List.eraseIdx_cons_zero, List.eraseIdx_cons_succ, List.setIfInBounds_toArray, World.size_alloc, selR, List.getD_cons_zero, List.getD_cons_succ] at H)
  generalize hzg : w.heap.size + 1 = g at *
  clear hzg
  generalize w.heap.size = z at *
  generalize (w.alloc (.cells #[.slice none 0 0, .slice none 0 0] 70)).alloc (.cells #[.slice none 0 0, .slice none 0 0] 70) = W at *
  refine (all_any 111 #[.pointer (some ⟨g, 0, none⟩)] s W hs (Rsch w s W.heap.size g [rBlk z 70 #[.slice none 0 0, .slice none 0 0]] (psch s) endErr) (cf_any Try.func111 (by kernel_rfl) (by kernel_rfl)) (fun w4 h1 h2 h3 h4 h5 => schtake1_any w W.heap.size g s w4 _ (H.out.begin h1 h3 h4 h5))).mono ?_
  rintro e w5 ⟨k, w4, rfl, ⟨hk, D, q, hS, hD⟩, hbut, _⟩
  replace H := Lib.hid (hS.ended hbut); (try simp only [List.set_cons_zero, List.set_cons_succ, List.cons_append, List.nil_append, List.eraseIdx_cons_zero, List.eraseIdx_cons_succ, List.setIfInBounds_toArray, World.size_alloc, selR, List.getD_cons_zero, List.getD_cons_succ] at H)
  clear hS hbut
  generalize W.heap.size = B at *
  cases hT : psch s with
  | error k' =>
    have HT : Hid (schtake s = (SC.nil, k')) := by show _ = _; unfold schtake; rw [hT]
    have hk' := psch_err hT
    rw [hT] at hk
    have hk2 : k = k' := hk
    subst hk2
    have dk : (k == 0) = false := by simpa using hk'
    have dk2 : (k != 0) = true := by simpa using hk'
    clear hT hk hk' hD
    go_wp2_with ((with_reducible show wpList _ _ _ (⟨_, .store _ (.tmp 2) _, _, _, _, _⟩ :: _) _ _); (refine wpList_store_blk rfl rowSch (.tmp 2) (.tmp 11) rfl _ rfl (H.out.blk 1 rfl) rfl (#[.slice none 0 0, .slice none 0 0]) rfl rfl (by simp [Value.oneCell']) ?_; intro wq bq hgq; replace H := Lib.hid (H.out.setBlk 1 rfl hgq bq); (try simp only [List.set_cons_zero, List.set_cons_succ, List.cons_append, List.nil_append, List.eraseIdx_cons_zero, List.eraseIdx_cons_succ, List.setIfInBounds_toArray, World.size_alloc, selR, List.getD_cons_zero, List.getD_cons_succ] at H); clear hgq bq))
    refine bodyPost_ret (results_blk rfl rowSch rfl (H.out.blk 1 rfl) rfl) rfl ?_
    rw [HT.out]
    exact ⟨Sch.nil, rfl, rfl, H.out.to, holds_sch_nil _, sch_nil_new⟩
  | ok q =>
    obtain ⟨t, l⟩ := q
    rw [hT] at hk
    obtain rfl := hD _ _ hT
    by_cases hl : l = []
    · have HT : Hid (schtake s = (D.con, 0)) := by show _ = _; unfold schtake; rw [hT]; simp [hl]
      have hk2 : k = 0 := by rw [hk]; show (if l = [] then (0 : Int) else 3) = 0; rw [if_pos hl]
      subst hk2
      clear hT hk hl hD
      go_wp2_with (first | ((with_reducible show wpList _ _ _ (⟨some 13, _, _, _, _, _⟩ :: _) _ _); (refine wpList_load_blk rfl rowSch (.tmp 4) rfl _ rfl (H.out.blk 0 rfl) rfl ?_)) | ((with_reducible show wpList _ _ _ (⟨_, .store _ (.tmp 2) _, _, _, _, _⟩ :: _) _ _); (refine wpList_store_blk rfl rowSch (.tmp 2) (.tmp 13) rfl _ rfl (H.out.blk 1 rfl) rfl (D.cs) rfl rfl (sch_one D) ?_; intro wq bq hgq; replace H := Lib.hid (H.out.setBlk 1 rfl hgq bq); (try simp only [List.set_cons_zero, List.set_cons_succ, List.cons_append, List.nil_append, List.eraseIdx_cons_zero, List.eraseIdx_cons_succ, List.setIfInBounds_toArray, World.size_alloc, selR, List.getD_cons_zero, List.getD_cons_succ] at H); clear hgq bq)))
      refine bodyPost_ret (results_blk rfl rowSch rfl (H.out.blk 1 rfl) rfl) rfl ?_
      rw [HT.out]
      exact ⟨D, rfl, rfl, H.out.to, H.out.get 2 rfl, H.out.new 2 rfl⟩
    · have HT : Hid (schtake s = (SC.nil, 3)) := by show _ = _; unfold schtake; rw [hT]; simp [hl]
      have hk2 : k = 3 := by rw [hk]; show (if l = [] then (0 : Int) else 3) = 3; rw [if_neg hl]
      subst hk2
      clear hT hk hl hD
      go_wp2_with ((with_reducible show wpList _ _ _ (⟨_, .store _ (.tmp 2) _, _, _, _, _⟩ :: _) _ _); (refine wpList_store_blk rfl rowSch (.tmp 2) (.tmp 11) rfl _ rfl (H.out.blk 1 rfl) rfl (#[.slice none 0 0, .slice none 0 0]) rfl rfl (by simp [Value.oneCell']) ?_; intro wq bq hgq; replace H := Lib.hid (H.out.setBlk 1 rfl hgq bq); (try simp only [List.set_cons_zero, List.set_cons_succ, List.cons_append, List.nil_append, List.eraseIdx_cons_zero, List.eraseIdx_cons_succ, List.setIfInBounds_toArray, World.size_alloc, selR, List.getD_cons_zero, List.getD_cons_succ] at H); clear hgq bq))
      refine bodyPost_ret (results_blk rfl rowSch rfl (H.out.blk 1 rfl) rfl) rfl ?_
      rw [HT.out]
      exact ⟨Sch.nil, rfl, rfl, H.out.to, holds_sch_nil _, sch_nil_new⟩


end Go.Proofs.Ytnjpoamebkehbaa
