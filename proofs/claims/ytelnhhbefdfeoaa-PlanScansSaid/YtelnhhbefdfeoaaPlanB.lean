/- The chapter's example (law 36). -/
import Derived.Test.YtelnhhbefdfeoaaPlanA
namespace Go.Proofs.Ytelnhhbefdfeoaa
open Go.RowKit
set_option linter.unusedVariables false
set_option linter.unusedSimpArgs false

theorem exPlan : askErr ⟨[exDC], [[109]]⟩ [PC.nil] = 0 := by decide +kernel
set_option maxRecDepth 100000 in
set_option maxHeartbeats 1000000 in
theorem awake36_any (w : World) : Calls Try.prog 23 #[] w fun e w' => e = .returned (.bool true) ∧ Bel w w' := by
  have H := Lib.hid (((((SL.start No w).alloc #[.string ⟨#[97]⟩] 9).alloc #[.string ⟨#[116]⟩, .slice (some ⟨w.heap.size, 0, none⟩) 1 1, .slice none 0 0] 77).alloc #[.string ⟨#[100]⟩, .slice (some ⟨w.heap.size + 1, 0, none⟩) 1 1] 66).alloc #[.string ⟨#[109]⟩] 9 |>.alloc #[.slice (some ⟨w.heap.size + 1 + 1, 0, none⟩) 1 1, .slice (some ⟨w.heap.size + 1 + 1 + 1, 0, none⟩) 1 1] 25)
  (try simp only [List.set_cons_zero, List.set_cons_succ, List.cons_append, List.nil_append, List.eraseIdx_cons_zero, List.eraseIdx_cons_succ, List.setIfInBounds_toArray, World.size_alloc, selR, List.getD_cons_zero, List.getD_cons_succ] at H)
  go_enter Try.func23, Try.ntmps23
  go_upto_region 2 with fail
  (try simp only [Act.put, List.setIfInBounds_toArray, List.set_cons_zero, List.set_cons_succ])
  generalize w.heap.size + 1 + 1 + 1 + 1 = x4 at *
  generalize w.heap.size + 1 + 1 + 1 = x3 at *
  generalize w.heap.size + 1 + 1 = x2 at *
  generalize w.heap.size + 1 = x1 at *
  generalize w.heap.size = x0 at *
  generalize World.alloc _ _ = w1 at *
  have hbs : ∀ w : World, (Instr.buildSlice 50 1 #[(0, .agg #[.int .i64 0, .int .i64 0, .string ⟨#[]⟩, .string ⟨#[]⟩, .slice none 0 0, .bool false, .int .i64 0])]).run Try.prog w = .ok (.slice (some ⟨w.heap.size, 0, none⟩) 1 1) (w.alloc (.cells #[.int .i64 0, .int .i64 0, .string ⟨#[]⟩, .string ⟨#[]⟩, .slice none 0 0, .bool false, .int .i64 0] 59)) := fun _ => by kernel_rfl
  go_wp2_with ((with_reducible show wpList _ _ _ (⟨some 12, _, _, _, _, _⟩ :: _) _ _); (refine wpList_load_blk rfl rowSch (.tmp 1) rfl _ rfl (H.out.blk 4 rfl) rfl ?_; replace H := Lib.hid (H.out.alloc #[.int .i64 0, .int .i64 0, .string ⟨#[]⟩, .string ⟨#[]⟩, .slice none 0 0, .bool false, .int .i64 0] 59); (try simp only [List.set_cons_zero, List.set_cons_succ, List.cons_append, List.nil_append, List.eraseIdx_cons_zero, List.eraseIdx_cons_succ, List.setIfInBounds_toArray, World.size_alloc, selR, List.getD_cons_zero, List.getD_cons_succ] at H)))
  have hr1 := ex_sch H.out 0 1 2 3 rfl rfl rfl rfl
  obtain ⟨D1, hD1⟩ : ∃ D : Sch, D = ⟨⟨some ⟨x2, 0, none⟩, 1, 1, [⟨[100], ⟨some ⟨x1, 0, none⟩, 1, 1, [⟨[116], ⟨some ⟨x0, 0, none⟩, 1, 1, [[97]]⟩, ⟨none, 0, 0, []⟩⟩]⟩⟩]⟩, ⟨some ⟨x3, 0, none⟩, 1, 1, [[109]]⟩⟩ := ⟨_, rfl⟩
  rw [← hD1] at hr1
  have hn1 : D1.dm.n ≤ 1000000 := by rw [hD1]; show (1 : Nat) ≤ _; omega
  have hm1 : D1.ms.n ≤ 1000000 := by rw [hD1]; show (1 : Nat) ≤ _; omega
  have hd1 : ∀ d ∈ D1.dm.l, d.tr.n ≤ 1000000 ∧ ∀ t ∈ d.tr.l, t.up.n ≤ 100000 := by rw [hD1]; intro d hd; simp at hd; subst hd; exact ⟨by show (1 : Nat) ≤ _; omega, fun t ht => by simp at ht; subst ht; show (0 : Nat) ≤ _; omega⟩
  have hqr : Qr.rd (w1.alloc (.cells #[.int .i64 0, .int .i64 0, .string ⟨#[]⟩, .string ⟨#[]⟩, .slice none 0 0, .bool false, .int .i64 0] 59)) ⟨⟨some ⟨w1.heap.size, 0, none⟩, 1, 1, [Pk.nil]⟩⟩ := ⟨reads_of_block (m := 1) (H.out.blk 5 rfl) rfl, fun p hp => by rw [List.mem_singleton] at hp; subst hp; exact pk_nil_rd _, by show (1 : Nat) ≤ _; omega⟩
  have hE : askErr D1.con [PC.nil] = 0 := by rw [hD1]; exact exPlan
  have HO := Lib.hid (planof_any D1 ⟨⟨some ⟨w1.heap.size, 0, none⟩, 1, 1, [Pk.nil]⟩⟩ _ [⟨-1, [], []⟩] hr1 hqr hn1 hm1 hd1 (fun p hp => by rw [List.mem_singleton] at hp; subst hp; exact Nat.zero_le _) (fun _ => rfl)
    (fun _ k D p c hD hp hc w' hb hDr hpr => by
      obtain rfl : p = Pk.nil := by have := List.mem_of_getElem? hp; rwa [List.mem_singleton] at this
      obtain rfl : c = ⟨-1, [], []⟩ := by have := List.mem_of_getElem? hc; rwa [List.mem_singleton] at this
      exact scan_nil D Pk.nil w' hDr hpr (by decide)))
  rw [show askErr D1.con (Qr.con ⟨⟨some ⟨w1.heap.size, 0, none⟩, 1, 1, [Pk.nil]⟩⟩) = 0 from hE, show D1.cs = #[.slice (some ⟨x2, 0, none⟩) 1 1, .slice (some ⟨x3, 0, none⟩) 1 1] by rw [hD1]] at HO
  clear hD1 hr1 hn1 hm1 hd1 hqr hE
  refine HO.out.mono ?_; rintro e w5 ⟨X, rfl, hXc, hb5, hX⟩
  replace H := Lib.hid (H.out.add hb5 (rScns X) hX.1 hX.2); (try simp only [List.set_cons_zero, List.set_cons_succ, List.cons_append, List.nil_append, List.eraseIdx_cons_zero, List.eraseIdx_cons_succ, List.setIfInBounds_toArray, World.size_alloc, selR, List.getD_cons_zero, List.getD_cons_succ] at H)
  clear hb5 hX HO
  have HXR := Lib.hid (H.out.at_ 6 rfl).1
  have hxl := HXR.out.len
  obtain ⟨A, n, c, xs⟩ := X
  simp only [if_true] at *
  obtain ⟨x, rfl⟩ : ∃ x, xs = [x] := List.length_eq_one_iff.1 (by have h1 := congrArg List.length hXc; rw [List.length_map] at h1; exact h1)
  obtain rfl : n = 1 := hxl.symm
  have hxc : x.con = ⟨-1, [], []⟩ := by simpa using hXc
  obtain ⟨bb, oo, x', hA, hbb, hxk, hxr, hrg⟩ : ∃ b o t, A = some ⟨b, o, none⟩ ∧ b < w5.heap.size ∧ ([x] : List Scn)[0]? = some t ∧ t.rd w5 ∧ w5.rangeAt b (o + 0 * 3) t.cs.toList := by
    obtain ⟨b, o, t, e, hb, ht, hc⟩ := rd_range HXR.out.r (k := 0) (by show 0 < 1; omega)
    exact ⟨b, o, t, e, hb, ht, HXR.out.all t (List.mem_of_getElem? ht), hc⟩
  subst hA
  obtain rfl : x = x' := by simpa using hxk
  have hxn : x.tk.l.length = x.tk.n := hxr.tk.len
  obtain ⟨xt, ⟨XA, xn, xc2, xtk⟩, ⟨XB, xm, xd, xio⟩⟩ := x
  simp only [Scn.con, SnC.mk.injEq] at hxc
  obtain ⟨rfl, rfl, rfl⟩ := hxc
  obtain rfl : xn = 0 := hxn.symm
  have q0 := hrg 0 _ rfl
  have q1 := hrg 1 _ rfl
  simp only [Nat.zero_mul, Nat.add_zero] at q0 q1
  clear hrg hxk hxr hXc hxl HXR hbb
  go_wp2
  go_ret
  exact ⟨rfl, H.out.to⟩

end Go.Proofs.Ytelnhhbefdfeoaa
