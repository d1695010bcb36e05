/- The chapter's example (law 16). -/
import Derived.Test.YtnjpoamebkehbaaDimV
namespace Go.Proofs.Ytnjpoamebkehbaa
open Go.RowKit
set_option linter.unusedVariables false
set_option linter.unusedSimpArgs false

/-- A dimension of one tier, as a law's example lays it down: three blocks. -/
theorem ex_dim {S : Nat → Prop} {w0 w : World} {l : List Res} (H : SL S w0 w l) (i j : Nat) {g0 g1 m : Nat} {nm tn : List UInt8} {ts : List (List UInt8)} {cs : Array Value} (h0 : l[i]? = some (rBlk g0 9 cs)) (hcs : cs.toList = ts.map tx) (hm : ts.length = m)
    (h1 : l[j]? = some (rBlk g1 30 #[.string ⟨tn.toArray⟩, .slice (some ⟨g0, 0, none⟩) m m, .slice none 0 0])) (hn : nm.length ≤ 100) (htn : tn.length ≤ 100) (hts : ∀ t ∈ ts, t.length ≤ 100) (hm2 : m ≤ 100) :
    (Dm.mk nm ⟨some ⟨g1, 0, none⟩, 1, 1, [⟨tn, ⟨some ⟨g0, 0, none⟩, m, m, ts⟩, ⟨none, 0, 0, []⟩⟩]⟩).rd w := by
  refine ⟨by show nm.length ≤ _; omega, ⟨?_, fun T hT => ?_, by show (1 : Nat) ≤ _; omega⟩⟩
  · exact reads_of_block (m := 1) (H.blk j h1) rfl
  · rw [List.mem_singleton] at hT
    subst hT
    refine ⟨by show tn.length ≤ _; omega, ⟨?_, fun t ht => by have := hts t ht; show t.length ≤ _; omega, by show m ≤ _; omega⟩, Row.nil_rd w⟩
    have := reads_of_block (m := m) (size := 1) (H.blk i h0) (by rw [← Array.length_toList, hcs, List.length_map, hm, Nat.mul_one])
    rw [hcs] at this
    show Rd w 1 (some ⟨g0, 0, none⟩) m (ts.flatMap Cel.cells)
    rw [flat_texts]
    exact this

set_option maxRecDepth 100000 in
set_option maxHeartbeats 1000000 in
theorem awake16_any (w : World) : Calls Try.prog 17 #[] w fun e w' => e = .returned (.bool true) ∧ Bel w w' := by
  have H := Lib.hid ((((SL.start No w).alloc #[.string ⟨#[97]⟩, .string ⟨#[98]⟩] 9).alloc #[.string ⟨#[116]⟩, .slice (some ⟨w.heap.size, 0, none⟩) 2 2, .slice none 0 0] 30).alloc #[.string ⟨#[100]⟩, .slice (some ⟨w.heap.size + 1, 0, none⟩) 1 1] 24)
  (try simp only [List.set_cons_zero, List.set_cons_succ, List.cons_append, List.nil_append, List.eraseIdx_cons_zero, List.eraseIdx_cons_succ, List.setIfInBounds_toArray, World.size_alloc, selR, List.getD_cons_zero, List.getD_cons_succ] at H)
  obtain ⟨D, hD⟩ : ∃ D : Dm, D = ⟨[100], ⟨some ⟨w.heap.size + 1, 0, none⟩, 1, 1, [⟨[116], ⟨some ⟨w.heap.size, 0, none⟩, 2, 2, [[97], [98]]⟩, ⟨none, 0, 0, []⟩⟩]⟩⟩ := ⟨_, rfl⟩
  have hrd := ex_dim H.out 0 1 (m := 2) (nm := [100]) (tn := [116]) (ts := [[97], [98]]) rfl rfl rfl rfl (by simp) (by simp) (by intro t ht; simp at ht; rcases ht with rfl | rfl <;> simp) (by omega)
  rw [← hD] at hrd
  have hDs : D.cs = #[.string ⟨#[100]⟩, .slice (some ⟨w.heap.size + 1, 0, none⟩) 1 1] := by rw [hD]
  have hn : D.tr.n ≤ 1000000 := by rw [hD]; show (1 : Nat) ≤ _; omega
  have hu : ∀ t ∈ D.tr.l, t.up.n ≤ 100000 := by rw [hD]; intro t ht; rw [List.mem_singleton] at ht; subst ht; show (0 : Nat) ≤ _; omega
  have hc : D.tr.l.map Tir.con = [⟨[116], [[97], [98]], []⟩] := by rw [hD]; rfl
  have hE : dimErr D.con = 0 := by rw [hD]; show dimErr ⟨[100], [⟨[116], [[97], [98]], []⟩]⟩ = 0; decide +kernel
  have hL : liftOf (D.tr.l.map Tir.con) 0 0 1 = 1 := by rw [hc]; decide +kernel
  have hS : sizesOf (D.tr.l.map Tir.con) = [2] := by rw [hc]; rfl
  have HC := Lib.hid (fun w h => dmcheck_any D w h hn hu)
  have HL := Lib.hid (fun w h => lift_any D 0 0 1 w h (by unfold I64; omega) (by unfold I64; omega) (by unfold I64; omega) hn)
  have HS := Lib.hid (fun w h => dmsizes_any D w h hn)
  rw [hE] at HC
  rw [hL] at HL
  rw [hS] at HS
  have HRD := Lib.hid hrd
  have HDs := Lib.hid hDs
  clear hD hrd hDs hn hu hc hE hL hS
  go_enter Try.func17, Try.ntmps17
  go_wp2_with fail
  rw [← HDs.out] at H HRD ⊢
  generalize w.heap.size = x at *
  generalize World.alloc _ _ = W at *
  refine (HC.out _ HRD.out).mono ?_; rintro e w1 ⟨rfl, hb1⟩
  replace H := Lib.hid (H.out.bel hb1); (try simp only [List.set_cons_zero, List.set_cons_succ, List.cons_append, List.nil_append, List.eraseIdx_cons_zero, List.eraseIdx_cons_succ, List.setIfInBounds_toArray, World.size_alloc, selR, List.getD_cons_zero, List.getD_cons_succ] at H)
  have HR1 := Lib.hid (HRD.out.mono hb1)
  clear hb1 HRD HC
  go_wp2_with ((with_reducible show wpList _ _ _ (⟨some 10, _, _, _, _, _⟩ :: _) _ _); refine wpList_load_blkG (by first | rfl | go_simp) rowDm (.tmp 1) (by rfl) _ (by rfl) (H.out.blk 2 rfl) rfl ?_)
  refine (HL.out _ HR1.out).mono ?_; rintro e w2 ⟨rfl, hb2⟩
  replace H := Lib.hid (H.out.bel hb2); (try simp only [List.set_cons_zero, List.set_cons_succ, List.cons_append, List.nil_append, List.eraseIdx_cons_zero, List.eraseIdx_cons_succ, List.setIfInBounds_toArray, World.size_alloc, selR, List.getD_cons_zero, List.getD_cons_succ] at H)
  have HR2 := Lib.hid (HR1.out.mono hb2)
  clear hb2 HR1 HL
  go_wp2_with ((with_reducible show wpList _ _ _ (⟨some 15, _, _, _, _, _⟩ :: _) _ _); refine wpList_load_blkG (by first | rfl | go_simp) rowDm (.tmp 1) (by rfl) _ (by rfl) (H.out.blk 2 rfl) rfl ?_)
  refine (HS.out _ HR2.out).mono ?_; rintro e w3 ⟨A, c, rfl, hb3, hr3⟩
  dsimp only [List.length_cons, List.length_nil] at hr3 ⊢
  replace H := Lib.hid (H.out.addRow hb3 hr3); (try simp only [List.set_cons_zero, List.set_cons_succ, List.cons_append, List.nil_append, List.eraseIdx_cons_zero, List.eraseIdx_cons_succ, List.setIfInBounds_toArray, World.size_alloc, selR, List.getD_cons_zero, List.getD_cons_succ] at H)
  clear hb3 hr3 HR2 HS
  go_wp2_with fail
  replace H := Lib.hid (H.out.alloc #[.int .i64 2] 3); (try simp only [List.set_cons_zero, List.set_cons_succ, List.cons_append, List.nil_append, List.eraseIdx_cons_zero, List.eraseIdx_cons_succ, List.setIfInBounds_toArray, World.size_alloc, selR, List.getD_cons_zero, List.getD_cons_succ] at H)
  refine (ints_any A 1 c [2] (some ⟨w3.heap.size, 0, none⟩) 1 1 [2] _ (Rd.of_own (H.out.row 3 rfl)) (reads_of_block (H.out.blk 4 rfl) rfl) (by omega) (by omega)).mono ?_; rintro e w4 ⟨rfl, hb4⟩
  rw [beq_self_eq_true]
  replace H := Lib.hid (H.out.bel hb4); (try simp only [List.set_cons_zero, List.set_cons_succ, List.cons_append, List.nil_append, List.eraseIdx_cons_zero, List.eraseIdx_cons_succ, List.setIfInBounds_toArray, World.size_alloc, selR, List.getD_cons_zero, List.getD_cons_succ] at H)
  clear hb4
  go_wp2
  go_ret
  exact ⟨rfl, H.out.to⟩

end Go.Proofs.Ytnjpoamebkehbaa
