/- Walks of slices.IsSortedFunc by fact.Compare, and run.Sorted. -/
import Derived.Test.YtllgcehgdpgnnaaFactG
namespace Go.Proofs.Ytllgcehgdpgnnaa
open Go.RowKit
set_option linter.unusedVariables false
attribute [local go_sem] fct_get0

theorem chain_take {r : List Int → List Int → Bool} {l : List (List Int)} {k : Nat} (h : chain r (l.drop k) = false) : chain r l = false := by
  induction k generalizing l with
  | zero => exact h
  | succ k ih =>
    cases l with
    | nil => simpa using h
    | cons a l =>
      rw [List.drop_succ_cons] at h
      have := ih h
      cases l with
      | nil => cases this
      | cons b l => rw [chain, this, Bool.and_false]
theorem sortedF_step {l : List Fct} {k : Nat} {f g : Fct} (hf : l[k]? = some f) (hg : l[k + 1]? = some g) (h : chain (fun a b => !lessK b a) ((keysOf l).drop (k + 1)) = true) :
    chain (fun a b => !lessK b a) ((keysOf l).drop k) = !lessK g.ks.l f.ks.l := by
  rw [chain_drop (keys_get hf) (keys_get hg), h, Bool.and_true]

set_option maxRecDepth 100000 in
set_option maxHeartbeats 1000000 in
theorem isSorted_any (x : Row Fct) (w : World) (hx : x.ok w) (hn : x.n ≤ 1000000) :
    Calls Try.prog 134 #[x.v, cmpV] w fun e w' => e = .returned (.bool (sortedF x.l)) ∧ Bel w w' := by
  have hlen : Hid (x.l.length = x.n) := hx.len
  have Hx := Lib.hid hx
  clear hx
  obtain ⟨A, n, c, l⟩ := x
  simp only [Row.v] at *
  go_enter Try.func134, Try.ntmps134
  go_wp2
  go_loopg [5] n (fun g i wr => ∃ k : Nat, g = k ∧ k ≤ n ∧ i = .int .i64 ((k : Int) - 1) ∧ Bel w wr ∧ Hid (chain (fun a b => !lessK b a) ((keysOf l).drop (k - 1)) = true))
  case atStart => exact ⟨n, rfl, by omega, rfl, Bel.refl _, by show _ = _; exact chain_end (by rw [keys_len]; have : l.length = n := hlen.out; omega)⟩
  case round =>
    obtain ⟨k0, hgk, hk, rfl, hB, hF⟩ := hrel
    have Hgk := Lib.hid hgk
    clear hgk
    by_cases hlt : 1 < k0
    · obtain ⟨k, rfl⟩ : ∃ k, k0 = k + 2 := ⟨k0 - 2, by omega⟩
      have hF' : Hid (chain (fun a b => !lessK b a) ((keysOf l).drop (k + 1)) = true) := hF.out
      obtain ⟨b, o, f, e1, hb, hf, hfo, _, hrf, _⟩ := (Hx.out.mono hB).fct (k := k) (by simp only; omega)
      obtain ⟨b', o', g, e2, _, hg, hgo, _, hrg, _⟩ := (Hx.out.mono hB).fct (k := k + 1) (by simp only; omega)
      simp only at e1 e2
      rw [e1] at e2
      injection e2 with e2
      injection e2 with e2 e3
      subst e1 e2 e3
      have HD := Lib.hid (sortedF_step hf hg hF'.out)
      have Hfo := Lib.hid hfo
      have Hgo := Lib.hid hgo
      clear hf hg hfo hgo hF hF'
      have ek : ((k + 2 : Nat) : Int) - 1 = ((k + 1 : Nat) : Int) := by omega
      rw [ek]
      have w1 : IntKind.i64.wrap ((k : Int) + 1 - 1) = (k : Int) := by rw [show (k : Int) + 1 - 1 = k by omega]; exact IntWalk.i64_in _ (by omega)
      have hrange := cmpK_range g.ks.l f.ks.l
      obtain ⟨r, HC⟩ : ∃ r, Hid (cmpK g.ks.l f.ks.l = r) := ⟨_, rfl⟩
      have HL : Hid (lessK g.ks.l f.ks.l = (r == -1)) := by show _ = _; unfold lessK; rw [HC.out]
      rw [HC.out] at hrange
      by_cases hr : r < 0
      · have HR : Hid (sortedF l = false) := by
          show _ = _
          refine chain_take (k := k) ?_
          rw [HD.out, HL.out]
          have : r = -1 := by omega
          subst this
          rfl
        clear HD HL hrange ek
        go_wp2_with fail
        refine wp_region_over (by kernel_rfl) (by kernel_rfl) ?_
        repeat (first
          | ((with_reducible show wpQuiet _ _ _ _ (⟨some 17, _, _, _, _, _⟩ :: _) _); refine wpQuiet_load_row rfl rowFct (.tmp 16) rfl b (o + (k + 1) * 11) rfl g.cs rfl hb hrg ?_; simp only [Act.put, List.setIfInBounds_toArray, List.set_cons_zero, List.set_cons_succ])
          | ((with_reducible show wpQuiet _ _ _ _ (⟨some 22, _, _, _, _, _⟩ :: _) _); refine wpQuiet_load_row rfl rowFct (.tmp 21) rfl b (o + k * 11) rfl f.cs rfl hb hrf ?_; simp only [Act.put, List.setIfInBounds_toArray, List.set_cons_zero, List.set_cons_succ])
          | go_big_quiet_step (((go_at_call 135; exact calls_over (fcompare_val HC.out (Hgo.out.over _) (Hfo.out.over _))))))
        refine wpQuiet_nil ?_
        rintro _ ⟨u, rfl⟩
        go_wp2
        go_ret
        rw [HR.out]
        exact ⟨rfl, hB.trans u.bel⟩
      · have HR : Hid (chain (fun a b => !lessK b a) ((keysOf l).drop (k + 1 - 1)) = true) := by
          show _ = _
          rw [show k + 1 - 1 = k by omega, HD.out, HL.out]
          simp
          omega
        clear HD HL hrange ek
        go_wp2_with fail
        refine wp_region_over (by kernel_rfl) (by kernel_rfl) ?_
        repeat (first
          | ((with_reducible show wpQuiet _ _ _ _ (⟨some 17, _, _, _, _, _⟩ :: _) _); refine wpQuiet_load_row rfl rowFct (.tmp 16) rfl b (o + (k + 1) * 11) rfl g.cs rfl hb hrg ?_; simp only [Act.put, List.setIfInBounds_toArray, List.set_cons_zero, List.set_cons_succ])
          | ((with_reducible show wpQuiet _ _ _ _ (⟨some 22, _, _, _, _, _⟩ :: _) _); refine wpQuiet_load_row rfl rowFct (.tmp 21) rfl b (o + k * 11) rfl f.cs rfl hb hrf ?_; simp only [Act.put, List.setIfInBounds_toArray, List.set_cons_zero, List.set_cons_succ])
          | go_big_quiet_step (((go_at_call 135; exact calls_over (fcompare_val HC.out (Hgo.out.over _) (Hfo.out.over _))))))
        refine wpQuiet_nil ?_
        rintro _ ⟨u, rfl⟩
        go_wp2
        go_roundg (k + 1)
        case rel => exact ⟨k + 1, rfl, by omega, by go_num, hB.trans u.bel, HR⟩
        case measure => rw [Hgk.out]; omega
    · have HR : Hid (sortedF l = true) := by show _ = _; have := hF.out; rw [show k0 - 1 = 0 by omega] at this; exact this
      clear hF
      go_wp2
      go_ret
      rw [HR.out]
      exact ⟨rfl, hB⟩

set_option maxRecDepth 100000 in
set_option maxHeartbeats 1000000 in
theorem psorted_any (x : Row Fct) (w : World) (hx : x.ok w) (hn : x.n ≤ 1000000) :
    Calls Try.prog 76 #[x.v] w fun e w' => e = .returned (.bool (sortedF x.l)) ∧ Bel w w' := by
  go_enter Try.func76, Try.ntmps76
  go_wp2_with fail
  refine (isSorted_any x _ hx hn).mono ?_; rintro e w1 ⟨rfl, hb1⟩
  go_wp2
  go_ret
  exact ⟨rfl, hb1⟩

end Go.Proofs.Ytllgcehgdpgnnaa
