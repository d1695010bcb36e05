/- The chapter's example (law 20). -/
import Derived.Test.YtnjpoamebkehbaaBatW
import Derived.Test.YtnjpoamebkehbaaSchA
namespace Go.Proofs.Ytnjpoamebkehbaa
open Go.RowKit
set_option linter.unusedVariables false
set_option linter.unusedSimpArgs false

theorem exBat1 : batPutV ⟨[exDC], [[109]]⟩ [⟨[[97]], [3]⟩] = ([1, 1, 97, 6], 0) := by decide +kernel
theorem exBat0 : batPutV ⟨[exDC], [[109]]⟩ [] = ([0], 0) := by decide +kernel
set_option maxRecDepth 100000 in
set_option maxHeartbeats 1000000 in
theorem awake20_any (w : World) : Calls Try.prog 55 #[] w fun e w' => e = .returned (.bool true) ∧ Bel w w' := by
  have H := Lib.hid (((((((((SL.start No w).alloc #[.string ⟨#[97]⟩] 9).alloc #[.string ⟨#[116]⟩, .slice (some ⟨w.heap.size, 0, none⟩) 1 1, .slice none 0 0] 30).alloc #[.string ⟨#[100]⟩, .slice (some ⟨w.heap.size + 1, 0, none⟩) 1 1] 24).alloc #[.string ⟨#[109]⟩] 9).alloc #[.slice (some ⟨w.heap.size + 1 + 1, 0, none⟩) 1 1, .slice (some ⟨w.heap.size + 1 + 1 + 1, 0, none⟩) 1 1] 70).alloc #[.string ⟨#[97]⟩] 9).alloc #[.int .i64 3] 2).alloc #[.slice (some ⟨w.heap.size + 1 + 1 + 1 + 1 + 1, 0, none⟩) 1 1, .slice (some ⟨w.heap.size + 1 + 1 + 1 + 1 + 1 + 1, 0, none⟩) 1 1] 88)
  (try simp only [List.set_cons_zero, List.set_cons_succ, List.cons_append, List.nil_append, List.eraseIdx_cons_zero, List.eraseIdx_cons_succ, List.setIfInBounds_toArray, World.size_alloc, selR, List.getD_cons_zero, List.getD_cons_succ] at H)
  go_enter Try.func55, Try.ntmps55
  go_wp2_with fail
  generalize w.heap.size + 1 + 1 + 1 + 1 + 1 + 1 + 1 = x7 at *
  generalize w.heap.size + 1 + 1 + 1 + 1 + 1 + 1 = x6 at *
  generalize w.heap.size + 1 + 1 + 1 + 1 + 1 = x5 at *
  generalize w.heap.size + 1 + 1 + 1 + 1 = x4 at *
  generalize w.heap.size + 1 + 1 + 1 = x3 at *
  generalize w.heap.size + 1 + 1 = x2 at *
  generalize w.heap.size + 1 = x1 at *
  generalize w.heap.size = x0 at *
  generalize World.alloc _ _ = w1 at *
  have hr1 := ex_sch H.out 0 1 2 3 rfl rfl rfl rfl
  obtain ⟨D1, hD1⟩ : ∃ D : Sch, D = ⟨⟨some ⟨x2, 0, none⟩, 1, 1, [⟨[100], ⟨some ⟨x1, 0, none⟩, 1, 1, [⟨[116], ⟨some ⟨x0, 0, none⟩, 1, 1, [[97]]⟩, ⟨none, 0, 0, []⟩⟩]⟩⟩]⟩, ⟨some ⟨x3, 0, none⟩, 1, 1, [[109]]⟩⟩ := ⟨_, rfl⟩
  rw [← hD1] at hr1
  have hn1 : D1.dm.n ≤ 1000000 := by rw [hD1]; show (1 : Nat) ≤ _; omega
  have hm1 : D1.ms.n ≤ 1000000 := by rw [hD1]; show (1 : Nat) ≤ _; omega
  have hd1 : ∀ d ∈ D1.dm.l, d.tr.n ≤ 1000000 ∧ ∀ t ∈ d.tr.l, t.up.n ≤ 100000 := by rw [hD1]; intro d hd; simp at hd; subst hd; exact ⟨by show (1 : Nat) ≤ _; omega, fun t ht => by simp at ht; subst ht; show (0 : Nat) ≤ _; omega⟩
  have hrow : (Row.mk (some ⟨x7, 0, none⟩) 1 1 [Rw.mk ⟨some ⟨x5, 0, none⟩, 1, 1, [[97]]⟩ ⟨some ⟨x6, 0, none⟩, 1, 1, [3]⟩]).rd w1 := by
    refine ⟨reads_of_block (m := 1) (H.out.blk 7 rfl) rfl, fun r hr => ?_, by show (1 : Nat) ≤ _; omega⟩
    rw [List.mem_singleton] at hr
    subst hr
    refine ⟨⟨?_, fun t ht => ?_, by show (1 : Nat) ≤ _; omega⟩, ⟨?_, fun t ht => ?_, by show (1 : Nat) ≤ _; omega⟩⟩
    · have := reads_of_block (m := 1) (size := 1) (H.out.blk 5 rfl) rfl
      rw [flat_texts]
      exact this
    · simp at ht
      subst ht
      show ([97] : List UInt8).length ≤ _
      simp
    · have := reads_of_block (m := 1) (size := 1) (H.out.blk 6 rfl) rfl
      rw [flat_ints]
      exact this
    · simp at ht
      subst ht
      show I64 3
      unfold I64
      omega
  have HP1 := Lib.hid (batput_any D1 _ w1 hr1 hrow hn1 hm1 hd1)
  have HP0 := Lib.hid (fun w' (hb : Bel w1 w') => batput_any D1 ⟨none, 0, 0, []⟩ w' (hr1.mono hb) (Row.nil_rd _) hn1 hm1 hd1)
  have hcs1 : D1.cs = #[.slice (some ⟨x2, 0, none⟩) 1 1, .slice (some ⟨x3, 0, none⟩) 1 1] := by rw [hD1]
  have hcc1 : D1.con = ⟨[exDC], [[109]]⟩ := by rw [hD1]; rfl
  rw [hcs1, hcc1] at HP1 HP0
  simp only [List.map_cons, List.map_nil] at HP1 HP0
  rw [show (Rw.con ⟨⟨some ⟨x5, 0, none⟩, 1, 1, [[97]]⟩, ⟨some ⟨x6, 0, none⟩, 1, 1, [3]⟩⟩) = ⟨[[97]], [3]⟩ from rfl, exBat1] at HP1
  rw [exBat0] at HP0
  clear hD1 hr1 hn1 hm1 hd1 hrow hcs1 hcc1
  refine HP1.out.mono ?_; rintro e w2 ⟨rfl, hb2⟩
  replace H := Lib.hid (H.out.bel hb2); (try simp only [List.set_cons_zero, List.set_cons_succ, List.cons_append, List.nil_append, List.eraseIdx_cons_zero, List.eraseIdx_cons_succ, List.setIfInBounds_toArray, World.size_alloc, selR, List.getD_cons_zero, List.getD_cons_succ] at H)
  have HB2 := Lib.hid hb2
  dsimp only
  clear hb2 HP1
  go_wp2_with ((with_reducible show wpList _ _ _ (⟨some 23, _, _, _, _, _⟩ :: _) _ _); (refine wpList_load_blk rfl rowSch (.tmp 1) rfl _ rfl (H.out.blk 4 rfl) rfl ?_))
  refine (HP0.out _ HB2.out).mono ?_; rintro e w3 ⟨rfl, hb3⟩
  replace H := Lib.hid (H.out.bel hb3); (try simp only [List.set_cons_zero, List.set_cons_succ, List.cons_append, List.nil_append, List.eraseIdx_cons_zero, List.eraseIdx_cons_succ, List.setIfInBounds_toArray, World.size_alloc, selR, List.getD_cons_zero, List.getD_cons_succ] at H)
  dsimp only
  clear hb3 HP0
  go_wp2
  go_ret
  exact ⟨rfl, H.out.to⟩

end Go.Proofs.Ytnjpoamebkehbaa
