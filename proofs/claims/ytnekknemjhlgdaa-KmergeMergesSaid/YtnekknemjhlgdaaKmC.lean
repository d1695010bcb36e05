/- The heap of runs: Pop. -/
import Derived.Test.YtnekknemjhlgdaaKmB
namespace Go.Proofs.Ytnekknemjhlgdaa
open Go.RowKit
set_option linter.unusedVariables false
set_option linter.unusedSimpArgs false


theorem own_take {w : World} {base : Nat} {e : TypeId} {size n c k : Nat} {A : Option Addr} {xs : List Value} (h : w.ownsRow base e size (.slice A n c) n xs) (hk : k ≤ n) : w.ownsRow base e size (.slice A k c) k (xs.take (k * size)) := by
  have hm : k * size ≤ n * size := Nat.mul_le_mul_right _ hk
  refine ⟨by rw [List.length_take, h.1]; omega, ?_⟩
  rcases h.2 with ⟨h0, h1⟩ | ⟨g, cap, cur, hv, hb, hh, hn, hx, hs, ht⟩
  · have hk0 : k = 0 := by omega
    subst hk0
    injection h0 with h2 _ h3
    subst h2 h3
    exact .inl ⟨rfl, rfl⟩
  · injection hv with h2 _ h3
    subst h2 h3
    refine .inr ⟨g, c, cur, rfl, hb, hh, by omega, hx, hs, ?_⟩
    rw [← ht, List.take_take, Nat.min_eq_left hm]
theorem flat_takeL (L : List HdR) (k : Nat) : (L.take k).flatMap Cel.cells = (L.flatMap Cel.cells).take (k * 2) := by
  induction L generalizing k with
  | nil => simp
  | cons a L ih =>
    cases k with
    | zero => simp
    | succ k =>
      have ha : (Cel.cells a).length = 2 := rfl
      rw [List.take_succ_cons, List.flatMap_cons, List.flatMap_cons, ih, show (k + 1) * 2 = (Cel.cells a).length + k * 2 by rw [ha]; omega, List.take_length_add_append]
set_option maxRecDepth 100000 in
set_option maxHeartbeats 2000000 in
theorem hpop_any (w0 w : World) (g : Nat) (A : Option Addr) (m c : Nat) (L : List HdR) (rest : List Res) (h : SL No w0 w (rHeap g A (m + 1) c L rest)) (hn : m ≤ 1000000) :
    Calls Try.prog 258 #[.pointer (some ⟨g, 0, none⟩)] w fun e w' => (∃ v, e = .returned v) ∧ SL No w0 w' (rHeap g A m c (L.take m) rest) := by
  have hc : m + 1 ≤ c := by
    rcases (h.row 1 rfl).2 with ⟨_, h1⟩ | ⟨_, cap, _, hv, _, _, h2, _⟩
    · omega
    · injection hv with _ _ h3; omega
  obtain ⟨b, a, rfl, hb, ha, hrg, _, _⟩ := heads_at (h.row 1 rfl) (k := m) (by omega)
  have HR := Lib.hid hrg
  have H := Lib.hid h
  clear h hrg ha
  have cg := (H.out.blk 0 rfl).cell 0; simp only [List.getElem?_toArray, List.getElem?_cons_zero, List.getElem?_cons_succ] at cg; have fg := (H.out.blk 0 rfl).frozen 0
  have i0 : (0 : Int) ≤ m := by omega
  have i1 : (m : Int) < (m + 1 : Nat) := by omega
  have e1 : ((m + 1 : Nat) : Int) - 1 = m := by omega
  go_enter Try.func258, Try.ntmps258
  go_upto_region 3 with (first | ((with_reducible show wpList _ _ _ (⟨some 13, _, _, _, _, _⟩ :: _) _ _); (refine wpList_load_row_at rfl rowHdR (.tmp 12) rfl b (m * 2) rfl a.cs rfl HR.out ?_)) | ((with_reducible show wpList _ _ _ (⟨_, .store _ (.tmp 4) _, _, _, _, _⟩ :: _) _ _); refine wpList_store_new rfl rowHdR (.tmp 4) (.tmp 13) rfl rfl rfl a.cs rfl rfl (hdr_one _) ?_; replace H := Lib.hid ((H.out.alloc a.cs 188).rot); (try simp only [List.set_cons_zero, List.set_cons_succ, List.cons_append, List.nil_append, List.eraseIdx_cons_zero, List.eraseIdx_cons_succ, List.setIfInBounds_toArray, World.size_alloc, selR, List.getD_cons_zero, List.getD_cons_succ] at H)))
  (try simp only [Act.put, List.setIfInBounds_toArray, List.set_cons_zero, List.set_cons_succ])
  clear cg fg
  generalize w.heap.size = x at *
  generalize World.alloc _ _ = w1 at *
  have cg := (H.out.blk 1 rfl).cell 0; simp only [List.getElem?_toArray, List.getElem?_cons_zero, List.getElem?_cons_succ] at cg; have fg := (H.out.blk 1 rfl).frozen 0
  go_upto_region 4 with fail
  replace H := Lib.hid (H.out.setCell 1 rfl 0 (.slice (some ⟨b, 0, none⟩) m c)); (try simp only [List.set_cons_zero, List.set_cons_succ, List.cons_append, List.nil_append, List.eraseIdx_cons_zero, List.eraseIdx_cons_succ, List.setIfInBounds_toArray, World.size_alloc, selR, List.getD_cons_zero, List.getD_cons_succ] at H)
  clear cg fg
  generalize World.setCell _ _ _ = w2 at *
  have H2 := Lib.hid (H.out.setRow (w' := w2) 2 rfl (e' := 188) (size' := 2) (n' := m) (v' := .slice (some ⟨b, 0, none⟩) m c) (xs' := ((L.take m).flatMap Cel.cells)) (Fr.grown (Fr.refl _ _)) (by rw [flat_takeL]; exact own_take (H.out.row 2 rfl) (by omega)) (.inl rfl))
  clear H
  go_wp2_with ((with_reducible show wpList _ _ _ (⟨some 21, _, _, _, _, _⟩ :: _) _ _); refine wpList_load_blk rfl rowHdR (.tmp 4) rfl _ rfl (H2.out.blk 0 rfl) rfl ?_)
  go_returns
  exact ⟨⟨_, rfl⟩, H2.out.tl⟩

end Go.Proofs.Ytnekknemjhlgdaa
