/- The chapter's example of facts. -/
import Derived.Test.YtbociponcacmpaaFactG
namespace Go.Proofs.Ytbociponcacmpaa
open Go.RowKit
set_option linter.unusedVariables false
attribute [local go_sem] fct_get0

theorem new_ints {W : World} {g : Nat} {t : TypeId} {cs : Array Value} {l : List Int} (hb : Blk W g t cs) (hl : cs.toList = l.map (Value.int .i64)) (hI : ∀ z ∈ l, I64 z) (hs : l.length ≤ 1000) : Row.ok W (⟨some ⟨g, 0, none⟩, l.length, l.length, l⟩ : Row Int) := by
  refine ⟨?_, hI, Nat.le_refl _, by unfold maxLen; simp only; omega, by simp only [Cel.bytes]; omega⟩
  rw [flat_ints, ← hl]
  refine reads_of_block hb ?_
  have := congrArg List.length hl
  rw [List.length_map, Array.length_toList] at this
  rw [this]
  exact (Nat.mul_one _).symm

/-- The example's facts. -/
def exF (g : Nat) (l : List Int) : Fct := ⟨⟨some ⟨g, 0, none⟩, l.length, l.length, l⟩, .zero⟩
def exW (w : World) : World := (((((w.alloc (.cells #[.int .i64 1, .int .i64 2] 3)).alloc (.cells #[.int .i64 1, .int .i64 3] 3)).alloc (.cells #[.int .i64 1, .int .i64 2, .int .i64 0] 3)).alloc (.cells (exF w.heap.size [1, 2]).cs 79)).alloc (.cells (exF (w.heap.size + 1) [1, 3]).cs 79)).alloc (.cells (exF (w.heap.size + 1 + 1) [1, 2, 0]).cs 79)
theorem exW_facts (w : World) : (exF w.heap.size [1, 2]).ok (exW w) ∧ (exF (w.heap.size + 1) [1, 3]).ok (exW w) ∧ (exF (w.heap.size + 1 + 1) [1, 2, 0]).ok (exW w) ∧
    Blk (exW w) (w.heap.size + 1 + 1 + 1) 79 (exF w.heap.size [1, 2]).cs ∧ Blk (exW w) (w.heap.size + 1 + 1 + 1 + 1) 79 (exF (w.heap.size + 1) [1, 3]).cs ∧ Blk (exW w) (w.heap.size + 1 + 1 + 1 + 1 + 1) 79 (exF (w.heap.size + 1 + 1) [1, 2, 0]).cs ∧ Bel w (exW w) := by
  have n1 := Blk.new w 3 #[.int .i64 1, .int .i64 2]
  have n2 := Blk.new (w.alloc (.cells #[.int .i64 1, .int .i64 2] 3)) 3 #[.int .i64 1, .int .i64 3]
  have n3 := Blk.new ((w.alloc (.cells #[.int .i64 1, .int .i64 2] 3)).alloc (.cells #[.int .i64 1, .int .i64 3] 3)) 3 #[.int .i64 1, .int .i64 2, .int .i64 0]
  have n4 := Blk.new (((w.alloc (.cells #[.int .i64 1, .int .i64 2] 3)).alloc (.cells #[.int .i64 1, .int .i64 3] 3)).alloc (.cells #[.int .i64 1, .int .i64 2, .int .i64 0] 3)) 79 (exF w.heap.size [1, 2]).cs
  have n5 := Blk.new ((((w.alloc (.cells #[.int .i64 1, .int .i64 2] 3)).alloc (.cells #[.int .i64 1, .int .i64 3] 3)).alloc (.cells #[.int .i64 1, .int .i64 2, .int .i64 0] 3)).alloc (.cells (exF w.heap.size [1, 2]).cs 79)) 79 (exF (w.heap.size + 1) [1, 3]).cs
  have n6 := Blk.new (((((w.alloc (.cells #[.int .i64 1, .int .i64 2] 3)).alloc (.cells #[.int .i64 1, .int .i64 3] 3)).alloc (.cells #[.int .i64 1, .int .i64 2, .int .i64 0] 3)).alloc (.cells (exF w.heap.size [1, 2]).cs 79)).alloc (.cells (exF (w.heap.size + 1) [1, 3]).cs 79)) 79 (exF (w.heap.size + 1 + 1) [1, 2, 0]).cs
  simp only [World.size_alloc] at n2 n3 n4 n5 n6
  have hI : ∀ z : Int, z = 0 ∨ z = 1 ∨ z = 2 ∨ z = 3 → I64 z := fun z h => by unfold I64; omega
  refine ⟨⟨?_, zero_ok⟩, ⟨?_, zero_ok⟩, ⟨?_, zero_ok⟩, (n4.alloc _).alloc _, n5.alloc _, n6, ((((((Bel.refl w).alloc _).alloc _).alloc _).alloc _).alloc _).alloc _⟩
  · exact new_ints (l := [1, 2]) (((((n1.alloc _).alloc _).alloc _).alloc _).alloc _) rfl (fun z hz => hI z (by simp at hz; omega)) (by simp)
  · exact new_ints (l := [1, 3]) ((((n2.alloc _).alloc _).alloc _).alloc _) rfl (fun z hz => hI z (by simp at hz; omega)) (by simp)
  · exact new_ints (l := [1, 2, 0]) (((n3.alloc _).alloc _).alloc _) rfl (fun z hz => hI z (by simp at hz; omega)) (by simp)

set_option maxRecDepth 100000 in
set_option maxHeartbeats 1000000 in
theorem awake19_any (w : World) : Calls Try.prog 54 #[] w fun e w' => e = .returned (.bool true) ∧ Bel w w' := by
  obtain ⟨o1, o2, o3, b4, b5, b6, hB⟩ := exW_facts w
  have O1 := Lib.hid o1
  have O2 := Lib.hid o2
  have O3 := Lib.hid o3
  have H4 := Lib.hid b4
  have H5 := Lib.hid b5
  have H6 := Lib.hid b6
  have HB := Lib.hid hB
  clear o1 o2 o3 b4 b5 b6 hB
  have c1 : Hid (cmpK (exF w.heap.size [1, 2]).ks.l (exF (w.heap.size + 1) [1, 3]).ks.l = -1) := by show cmpK [1, 2] [1, 3] = -1; decide
  have c2 : Hid (cmpK (exF w.heap.size [1, 2]).ks.l (exF (w.heap.size + 1 + 1) [1, 2, 0]).ks.l = -1) := by show cmpK [1, 2] [1, 2, 0] = -1; decide
  have c3 : Hid (cmpK (exF (w.heap.size + 1) [1, 3]).ks.l (exF w.heap.size [1, 2]).ks.l = 1) := by show cmpK [1, 3] [1, 2] = 1; decide
  go_enter Try.func54, Try.ntmps54
  go_wp2_with fail
  refine (fcompare_val c1.out O1.out O2.out).mono ?_
  rintro e w1 ⟨rfl, hb1⟩
  have h4 := H4.out.bel hb1
  have h5 := H5.out.bel hb1
  have h6 := H6.out.bel hb1
  have O1' : Hid ((exF w.heap.size [1, 2]).ok w1) := ⟨O1.out.ks.mono hb1, zero_ok⟩
  have O2' : Hid ((exF (w.heap.size + 1) [1, 3]).ok w1) := ⟨O2.out.ks.mono hb1, zero_ok⟩
  have O3' : Hid ((exF (w.heap.size + 1 + 1) [1, 2, 0]).ok w1) := ⟨O3.out.ks.mono hb1, zero_ok⟩
  have HB1 : Hid (Bel w w1) := HB.out.trans hb1
  clear hb1 H4 H5 H6 O1 O2 O3 HB
  go_wp2_with (first
    | ((with_reducible show wpList _ _ _ (⟨some 15, _, _, _, _, _⟩ :: _) _ _); refine wpList_load_blkG (by first | rfl | go_simp) rowFct (.tmp 1) (by rfl) (w.heap.size + 1 + 1 + 1) (by rfl) h4 rfl ?_)
    | ((with_reducible show wpList _ _ _ (⟨some 16, _, _, _, _, _⟩ :: _) _ _); refine wpList_load_blkG (by first | rfl | go_simp) rowFct (.tmp 3) (by rfl) (w.heap.size + 1 + 1 + 1 + 1 + 1) (by rfl) h6 rfl ?_))
  refine (fcompare_val c2.out O1'.out O3'.out).mono ?_
  rintro e w2 ⟨rfl, hb2⟩
  have k4 := h4.bel hb2
  have k5 := h5.bel hb2
  clear h4 h5 h6
  go_wp2_with (first
    | ((with_reducible show wpList _ _ _ (⟨some 21, _, _, _, _, _⟩ :: _) _ _); refine wpList_load_blkG (by first | rfl | go_simp) rowFct (.tmp 2) (by rfl) (w.heap.size + 1 + 1 + 1 + 1) (by rfl) k5 rfl ?_)
    | ((with_reducible show wpList _ _ _ (⟨some 22, _, _, _, _, _⟩ :: _) _ _); refine wpList_load_blkG (by first | rfl | go_simp) rowFct (.tmp 1) (by rfl) (w.heap.size + 1 + 1 + 1) (by rfl) k4 rfl ?_))
  refine (fcompare_val c3.out ⟨O2'.out.ks.mono hb2, zero_ok⟩ ⟨O1'.out.ks.mono hb2, zero_ok⟩).mono ?_
  rintro e w3 ⟨rfl, hb3⟩
  go_wp2
  go_ret
  exact ⟨rfl, (HB1.out.trans hb2).trans hb3⟩

end Go.Proofs.Ytbociponcacmpaa
