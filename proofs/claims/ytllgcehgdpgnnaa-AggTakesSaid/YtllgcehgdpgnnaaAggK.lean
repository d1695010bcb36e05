/- The chapter's example of aggregates; the equality of two aggregates. -/
import Derived.Test.YtllgcehgdpgnnaaAggR
namespace Go.Proofs.Ytllgcehgdpgnnaa
open Go.RowKit
set_option linter.unusedVariables false

theorem join_ex : (Ag.of [5]).join (Ag.of [-2]) = (⟨2, ⟨3, -2, 5⟩, .zero, .zero⟩, true) := by decide +kernel
theorem of5_ok : (Ag.of [5]).ok := of_ok (by intro z hz; simp at hz; subst hz; unfold I64; omega)
theorem ofm2_ok : (Ag.of [-2]).ok := of_ok (by intro z hz; simp at hz; subst hz; unfold I64; omega)

set_option maxRecDepth 100000 in
set_option maxHeartbeats 1000000 in
theorem awake06_any (w : World) : Calls Try.prog 62 #[] w fun e w' => e = .returned (.bool true) ∧ Bel w w' := by
  go_enter Try.func62, Try.ntmps62
  go_wp2_with fail
  refine (of_any _ 1 1 [5] _ (rd_new _ _ _ 1 1 rfl) (by omega)).mono ?_; rintro e w1 ⟨rfl, hb1⟩
  have hB1 : Bel w w1 := ((Bel.refl w).alloc _).trans hb1
  clear hb1
  go_wp2_with ((with_reducible show wpList _ _ _ (⟨_, .store _ (.tmp 1) _, _, _, _, _⟩ :: _) _ _); refine wpList_store_blk rfl rowAg (.tmp 1) (.tmp 10) rfl w1.heap.size rfl (Blk.new w1 _ Ag.zero.cs) rfl (Ag.of [5]).cs rfl rfl (ag_one _) ?_; intro w2 ba hg2)
  have hB2 : Bel w w2 := (hB1.alloc _).grownAt hg2 hB1.size
  clear hg2 hB1
  refine (of_any _ 1 1 [-2] _ (rd_new _ _ _ 1 1 rfl) (by omega)).mono ?_; rintro e w3 ⟨rfl, hb3⟩
  replace ba := (ba.alloc _).bel hb3
  have hB3 : Bel w w3 := (hB2.alloc _).trans hb3
  clear hb3 hB2
  go_wp2_with (first
    | ((with_reducible show wpList _ _ _ (⟨_, .store _ (.tmp 3) _, _, _, _, _⟩ :: _) _ _); refine wpList_store_blk rfl rowAg (.tmp 3) (.tmp 15) rfl w3.heap.size rfl (Blk.new w3 _ Ag.zero.cs) rfl (Ag.of [-2]).cs rfl rfl (ag_one _) ?_; intro w4 bb hg4; replace ba := (ba.alloc (.cells Ag.zero.cs 92)).grown hg4 (by have := ba.lt; simp; omega))
    | ((with_reducible show wpList _ _ _ (⟨some 18, _, _, _, _, _⟩ :: _) _ _); refine wpList_load_blk rfl rowAg (.tmp 1) rfl w1.heap.size rfl ba rfl ?_)
    | ((with_reducible show wpList _ _ _ (⟨some 19, _, _, _, _, _⟩ :: _) _ _); refine wpList_load_blk rfl rowAg (.tmp 3) rfl w3.heap.size rfl bb rfl ?_))
  have hB4 : Bel w w4 := (hB3.alloc _).grownAt hg4 hB3.size
  clear hg4 hB3
  refine (join_any _ _ _ of5_ok ofm2_ok).mono ?_; rintro e w5 ⟨rfl, hb5⟩
  rw [join_ex]
  have hB5 : Bel w w5 := hB4.trans hb5
  go_wp2_with ((with_reducible show wpList _ _ _ (⟨_, .store _ (.tmp 5) _, _, _, _, _⟩ :: _) _ _); refine wpList_store_blk rfl rowAg (.tmp 5) (.tmp 21) rfl w5.heap.size rfl (Blk.new w5 _ Ag.zero.cs) rfl (Ag.cs ⟨2, ⟨3, -2, 5⟩, .zero, .zero⟩) rfl rfl (ag_one _) ?_; intro w6 bc hg6; have c0 := bc.cell 0; have c1 := bc.cell 1; have c2 := bc.cell 2; have c3 := bc.cell 3; simp only [Ag.cs] at c0 c1 c2 c3; simp at c0 c1 c2 c3)
  go_ret
  exact ⟨rfl, (hB5.alloc _).grownAt hg6 hB5.size⟩

end Go.Proofs.Ytllgcehgdpgnnaa
