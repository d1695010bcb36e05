/- A call of the program's reader (law 4's ask), and the law TakeOutside. -/
import Derived.Test.YtllgcehgdpgnnaaStp
import Derived.Test.YtllgcehgdpgnnaaTakeF
namespace Go.Proofs.Ytllgcehgdpgnnaa
open Go.RowKit
set_option linter.unusedVariables false

abbrev hrd (n : Int) (x : List UInt8) : Value := .agg #[.int .i64 n, .string ⟨x.toArray⟩]
theorem kind_cases (k : Int) : k = 1 ∨ k = 2 ∨ k = 3 ∨ k = 4 ∨ k = 5 ∨ k = 6 ∨ ((k == 1) = false ∧ (k == 2) = false ∧ (k == 3) = false ∧ (k == 4) = false ∧ (k == 5) = false ∧ (k == 6) = false) := by
  simp only [beq_eq_false_iff_ne]
  omega

set_option maxRecDepth 100000 in
set_option maxHeartbeats 1000000 in
theorem ask_off (v : Value) (a : Stp) (w : World) (h : ∀ W, Bel w W → Off v W) :
    Calls Try.prog 29 #[v, .agg a.cs] w fun e w' => e = .returned (hrd 0 []) ∧ Bel w w' := by
  have H := Lib.hid h
  clear h
  obtain ⟨k, n, is⟩ := a
  simp only [Stp.cs]
  rcases kind_cases k with rfl | rfl | rfl | rfl | rfl | rfl | ⟨k1, k2, k3, k4, k5, k6⟩
  · go_enter Try.func29, Try.ntmps29
    go_wp2_with fail
    have hB := Lib.hid (((Bel.refl w).alloc (.cells #[.int .i64 1, .int .i64 n, .bool is] 49)).alloc (.cells #[.int .i64 0, .string ⟨#[]⟩] 51))
    refine (num_off v _ _ (H.out _ hB.out)).mono ?_; rintro e w1 ⟨rfl, rfl⟩
    go_wp2
    refine bodyPost_ret (v := hrd 0 []) (by simp [results, Try.results29, go_sem]) rfl ⟨rfl, ?_⟩
    exact ((Bel.refl w).alloc _).alloc _
  · go_enter Try.func29, Try.ntmps29
    go_wp2_with fail
    have hB := Lib.hid (((Bel.refl w).alloc (.cells #[.int .i64 2, .int .i64 n, .bool is] 49)).alloc (.cells #[.int .i64 0, .string ⟨#[]⟩] 51))
    refine (int_off v _ (H.out _ hB.out)).mono ?_; rintro e w1 ⟨rfl, rfl⟩
    go_wp2
    refine bodyPost_ret (v := hrd 0 []) (by simp [results, Try.results29, go_sem]) rfl ⟨rfl, ?_⟩
    exact ((Bel.refl w).alloc _).alloc _
  · go_enter Try.func29, Try.ntmps29
    go_wp2_with fail
    have hB := Lib.hid (((Bel.refl w).alloc (.cells #[.int .i64 3, .int .i64 n, .bool is] 49)).alloc (.cells #[.int .i64 0, .string ⟨#[]⟩] 51))
    refine (fix_off v _ _ (H.out _ hB.out)).mono ?_; rintro e w1 ⟨rfl, rfl⟩
    go_wp2
    refine bodyPost_ret (v := hrd 0 []) (by simp [results, Try.results29, go_sem]) rfl ⟨rfl, ?_⟩
    exact ((Bel.refl w).alloc _).alloc _
  · go_enter Try.func29, Try.ntmps29
    go_wp2_with fail
    have hB := Lib.hid (((Bel.refl w).alloc (.cells #[.int .i64 4, .int .i64 n, .bool is] 49)).alloc (.cells #[.int .i64 0, .string ⟨#[]⟩] 51))
    refine (byte_off v _ (H.out _ hB.out)).mono ?_; rintro e w1 ⟨rfl, rfl⟩
    go_wp2
    refine bodyPost_ret (v := hrd 0 []) (by simp [results, Try.results29, go_sem]) rfl ⟨rfl, ?_⟩
    exact ((Bel.refl w).alloc _).alloc _
  · go_enter Try.func29, Try.ntmps29
    go_wp2_with fail
    have hB := Lib.hid (((Bel.refl w).alloc (.cells #[.int .i64 5, .int .i64 n, .bool is] 49)).alloc (.cells #[.int .i64 0, .string ⟨#[]⟩] 51))
    refine (text_off v _ _ (H.out _ hB.out)).mono ?_; rintro e w1 ⟨rfl, rfl⟩
    go_wp2
    refine bodyPost_ret (v := hrd 0 []) (by simp [results, Try.results29, go_sem]) rfl ⟨rfl, ?_⟩
    exact ((Bel.refl w).alloc _).alloc _
  · go_enter Try.func29, Try.ntmps29
    go_wp2_with fail
    have hB := Lib.hid (((Bel.refl w).alloc (.cells #[.int .i64 6, .int .i64 n, .bool is] 49)).alloc (.cells #[.int .i64 0, .string ⟨#[]⟩] 51))
    refine (left_off v _ (H.out _ hB.out)).mono ?_; rintro e w1 ⟨rfl, rfl⟩
    go_wp2
    refine bodyPost_ret (v := hrd 0 []) (by simp [results, Try.results29, go_sem]) rfl ⟨rfl, ?_⟩
    exact ((Bel.refl w).alloc _).alloc _
  · go_enter Try.func29, Try.ntmps29
    go_wp2_with fail
    have hB := Lib.hid (((Bel.refl w).alloc (.cells #[.int .i64 k, .int .i64 n, .bool is] 49)).alloc (.cells #[.int .i64 0, .string ⟨#[]⟩] 51))
    refine (want_off v _ _ _ (H.out _ hB.out)).mono ?_; rintro e w1 ⟨rfl, rfl⟩
    go_wp2
    refine bodyPost_ret (v := hrd 0 []) (by simp [results, Try.results29, go_sem]) rfl ⟨rfl, ?_⟩
    exact ((Bel.refl w).alloc _).alloc _

end Go.Proofs.Ytllgcehgdpgnnaa
