/- Texts laid together: XCelC XCelG XCelH. -/
import Derived.Test.YtlclllkjnhgbjaaBh
import Derived.Test.YtlclllkjnhgbjaaBv
import Derived.Test.YtlclllkjnhgbjaaBt

namespace Go.Proofs.Ytlclllkjnhgbjaa
open Go.RowKit
set_option linter.unusedVariables false
set_option linter.unusedSimpArgs false

/-- Where the document's Read stands: behind k parts. -/
def AgIvT (s : List UInt8) (R : PR Ag) (m : Int) (n k : Nat) (a : Ag) (t kk : Int) : Prop :=
  (kk ≠ 0 ∧ R = .error kk) ∨ (kk = 0 ∧ m ≤ 3 ∧ ∃ tn : Nat, t = tn ∧ tn ≤ s.length ∧ R = pend m (prtsFrom k (n - k) a (s.drop tn)))
theorem AgIvT.step {s : List UInt8} {R : PR Ag} {m : Int} {n k : Nat} {a : Ag} {tn : Nat} {t kk : Int} {x : Prt} (hm3 : m ≤ 3) (hk : k < n) (hE : R = pend m (prtsFrom k (n - k) a (s.drop tn))) (h : SRes s (pprt a.c (s.drop tn)) t kk x) : AgIvT s R m n (k + 1) (a.set k x) t kk := by
  rw [show n - k = (n - (k + 1)) + 1 by omega, prtsFrom_next] at hE
  rcases h with ⟨h1, h2⟩ | ⟨h1, tn', h3, h4, h2⟩
  · exact .inl ⟨h1, by rw [hE, h2]; rfl⟩
  · exact .inr ⟨h1, hm3, tn', h3, h4, by rw [hE, h2]; rfl⟩
theorem AgIvT.start {s : List UInt8} {R : PR Ag} {o : PR Unit} {m c t kk : Int} (hR : (∃ k, o = .error k ∧ R = .error k) ∨ (∃ l0, o = .ok ((), l0) ∧ R = pag m l0)) (h : SRes s (andInt o) t kk ((), c)) : AgIvT s R m m.toNat 0 ⟨c, .zero, .zero, .zero⟩ t (wantK kk (mayC m c) 3) := by
  rcases hR with ⟨k, rfl, rfl⟩ | ⟨l0, rfl, rfl⟩
  · rcases h with ⟨h1, h2⟩ | ⟨h1, _, _, _, h2⟩
    · have h2 : (Except.error k : PR (Unit × Int)) = .error kk := h2
      injection h2 with h2
      subst h2
      exact .inl ⟨by unfold wantK; rw [if_pos h1]; exact h1, by unfold wantK; rw [if_pos h1]⟩
    · cases h2
  rw [andInt_start] at h
  cases hp : pint l0 with
  | error e =>
    rw [hp] at h
    rcases h with ⟨h1, h2⟩ | ⟨h1, _, _, _, h2⟩
    · injection h2 with h2
      subst h2
      have : wantK e (mayC m c) 3 = e := by unfold wantK; rw [if_pos h1]
      rw [this]
      exact .inl ⟨h1, by unfold pag; rw [hp]⟩
    · cases h2
  | ok q =>
    obtain ⟨y, r⟩ := q
    rw [hp] at h
    rcases h with ⟨h1, h2⟩ | ⟨h1, tn', h3, h4, h2⟩
    · cases h2
    · injection h2 with h2
      injection h2 with h5 h6
      injection h5 with h7 h8
      subst h8
      subst h6
      subst h1
      cases hm : mayC m y with
      | false => exact .inl ⟨by decide, by unfold pag; rw [hp]; simp [hm]; rfl⟩
      | true => exact .inr ⟨rfl, by unfold mayC at hm; simp at hm; omega, tn', h3, h4, by rw [Nat.sub_zero]; exact pag_ok hp hm⟩
theorem AgIvT.done {s : List UInt8} {R : PR Ag} {m : Int} {n k : Nat} {a : Ag} {t kk : Int} (h : AgIvT s R m n k a t kk) (hk : n - k = 0) : wantK kk (kk != 0 || mayAg m a) 3 = prErr (R) ∧ ∀ b l, R = .ok (b, l) → a = b ∧ ∃ tn : Nat, t = tn ∧ tn ≤ s.length ∧ l = s.drop tn := by
  rcases h with ⟨h1, h2⟩ | ⟨h1, _, tn, h3, h4, h2⟩
  · rw [h2]
    refine ⟨?_, fun _ _ h => by cases h⟩
    unfold wantK
    rw [if_pos h1]
    rfl
  · subst h1
    rw [hk] at h2
    rw [h2]
    cases hA : mayAg m a with
    | false =>
      refine ⟨?_, fun b l h => ?_⟩
      · simp [wantK, wantErr, prErr, pend, prtsFrom, hA]
      · simp [pend, prtsFrom, hA] at h
    | true =>
      refine ⟨?_, fun b l h => ?_⟩
      · simp [wantK, wantErr, prErr, pend, prtsFrom, hA]
      · simp [pend, prtsFrom, hA] at h
        exact ⟨h.1, tn, h3, h4, h.2.symm⟩
theorem AgIvT.bad {s : List UInt8} {R : PR Ag} {m : Int} {n k : Nat} {a : Ag} {t kk : Int} (h : AgIvT s R m n k a t kk) (hk : kk ≠ 0) : wantK kk (kk != 0 || mayAg m a) 3 = prErr (R) ∧ ∀ b l, R = .ok (b, l) → a = b ∧ ∃ tn : Nat, t = tn ∧ tn ≤ s.length ∧ l = s.drop tn := by
  rcases h with ⟨h1, h2⟩ | ⟨h1, _⟩
  · rw [h2]
    refine ⟨?_, fun _ _ h => by cases h⟩
    unfold wantK
    rw [if_pos h1]
    rfl
  · exact absurd h1 hk

set_option maxRecDepth 100000 in
set_option maxHeartbeats 1000000 in
theorem rareadT_any (s : List UInt8) (R : PR Ag) (t0 k0 m : Int) (w : World) (hs : s.length ≤ 1000001) (hst : (k0 ≠ 0 ∧ R = .error k0) ∨ (k0 = 0 ∧ ∃ tn : Nat, t0 = tn ∧ tn ≤ s.length ∧ R = pag m (s.drop tn))) (hm : I64 m) :
    Calls Try.prog 84 #[scn s t0 k0, .int .i64 m] w (AgPost s R w) := by
  have hso : ∃ o : PR Unit, Hid (SRes s o t0 k0 ()) ∧ Hid ((∃ k, o = .error k ∧ R = .error k) ∨ (∃ l0, o = .ok ((), l0) ∧ R = pag m l0)) := by
    rcases hst with ⟨h1, h2⟩ | ⟨h1, tn, h2, h3, h4⟩
    · exact ⟨.error k0, .inl ⟨h1, rfl⟩, .inl ⟨k0, rfl, h2⟩⟩
    · exact ⟨.ok ((), s.drop tn), .inr ⟨h1, tn, h2, h3, rfl⟩, .inr ⟨_, rfl, h4⟩⟩
  obtain ⟨o, HSO, HRO⟩ := hso
  clear hst
  have HM := Lib.hid (fun a w => rmay_any a m w hm)
  obtain ⟨m0, m1⟩ := hm
  have ez : Ag.zero.cs = #[.int .i64 0, .int .i64 0, .int .i64 0, .int .i64 0, .int .i64 0, .int .i64 0, .int .i64 0, .int .i64 0, .int .i64 0, .int .i64 0] := rfl
  have H0 : AgW w s t0 k0 .zero ((((w.alloc (.cells (scs s t0 k0) 92)).alloc (.cells (scs [] 0 0) 92)).alloc (.cells Ag.zero.cs 30)).alloc (.cells Ag.zero.cs 30)) := by
    refine ⟨((((Bel.refl w).alloc _).alloc _).alloc _).alloc _, (((Blk.new w _ _).alloc _).alloc _).alloc _, ?_, ?_, ?_⟩
    · have := ((Blk.new (w.alloc (.cells (scs s t0 k0) 92)) 92 (scs [] 0 0)).alloc (.cells Ag.zero.cs 30)).alloc (.cells Ag.zero.cs 30)
      simpa only [World.size_alloc] using this
    · have := (Blk.new ((w.alloc (.cells (scs s t0 k0) 92)).alloc (.cells (scs [] 0 0) 92)) 30 Ag.zero.cs).alloc (.cells Ag.zero.cs 30)
      simpa only [World.size_alloc] using this
    · have := Blk.new (((w.alloc (.cells (scs s t0 k0) 92)).alloc (.cells (scs [] 0 0) 92)).alloc (.cells Ag.zero.cs 30)) 30 Ag.zero.cs
      simpa only [World.size_alloc] using this
  have HH := Lib.hid H0
  clear H0
  go_enter Try.func84, Try.ntmps84
  go_wp2_with fail
  rw [ez] at HH
  dsimp only [scs] at HH
  refine (rint_next s o t0 k0 () HSO.out hs _).mono ?_; rintro e w1 ⟨t, kk, c, rfl, hb1, hc, hS⟩
  have H1 := Lib.hid (HH.out.more hb1)
  have bA1 := H1.out.A
  have HI := Lib.hid (AgIvT.start (m := m) HRO.out hS.out)
  clear hb1 HH hS
  go_upto_region 3 with ((with_reducible show wpList _ _ _ (⟨_, .store _ (.tmp 2) _, _, _, _, _⟩ :: _) _ _); refine wpList_store_blk rfl rowScn (.tmp 2) (.tmp 15) rfl w.heap.size rfl bA1 rfl (scs s t kk) rfl rfl (scs_one _ _ _) ?_; intro w2 bA2 hg2; have H2 := Lib.hid (H1.out.setA hg2 bA2); have g2 := H2.out.G.cell 0; have f2 := H2.out.G.frozen 0; (simp [Ag.cs, Ag.zero] at g2); clear bA1 bA2 hg2 H1)
  have H3 : Hid (AgW w s t kk ⟨c, .zero, .zero, .zero⟩ (w2.setCell ⟨w.heap.size + 1 + 1 + 1, 0, none⟩ (.int .i64 c))) := H2.out.setG (grownBy_setCell _ _ _ _) (H2.out.G.set_ 0 (.int .i64 c))
  generalize w2.setCell ⟨w.heap.size + 1 + 1 + 1, 0, none⟩ (.int .i64 c) = w3 at *
  clear H2 g2 f2
  go_cut [29] (fun s29 wx => ∃ b : Bool, s29 = .bool b ∧ Hid (AgW w s t (wantK kk (mayC m c) 3) ⟨c, .zero, .zero, .zero⟩ wx))
  case first =>
    obtain ⟨a0, a1, a2, _, _, _⟩ := H3.out.A.three
    have g3 := H3.out.G.cell 0
    simp [Ag.cs] at g3
    have bA3 := H3.out.A
    have hcase : (m < 0 ∧ mayC m c = false) ∨ (0 ≤ m ∧ 3 < m ∧ mayC m c = false) ∨ (0 ≤ m ∧ m ≤ 3 ∧ mayC m c = decide (1 ≤ c)) := by
      unfold mayC
      by_cases x1 : 0 ≤ m <;> by_cases x2 : m ≤ 3 <;> simp [x1, x2] <;> omega
    rcases hcase with ⟨h, hv⟩ | ⟨h, h', hv⟩ | ⟨h, h', hv⟩
    all_goals
      have HV := Lib.hid hv
      clear hv
      go_wp2_with fail
      refine (rwant_any s t kk 3 _ _).mono ?_; rintro e w4 ⟨rfl, hb4⟩
      have H4 := Lib.hid (H3.out.more hb4)
      have bA4 := H4.out.A
      clear a0 a1 a2 g3 bA3 hb4
      go_wp2_with ((with_reducible show wpList _ _ _ (⟨_, .store _ (.tmp 2) _, _, _, _, _⟩ :: _) _ _); refine wpList_store_blk rfl rowScn (.tmp 2) (.tmp 30) rfl w.heap.size rfl bA4 rfl (scs s t (wantK kk _ 3)) rfl rfl (scs_one _ _ _) ?_; intro w5 bA5 hg5; have H5 := Lib.hid (H4.out.setA hg5 bA5))
      go_meet
      exact ⟨_, rfl, by rw [HV.out]; exact H5⟩
  case rest =>
    obtain ⟨b29, rfl, HC⟩ := hcut
    clear H3
    have HI2 : Hid (AgIvT s R m m.toNat 0 ⟨c, .zero, .zero, .zero⟩ t (wantK kk (mayC m c) 3)) := HI.out
    generalize wantK kk (mayC m c) 3 = k0 at *
    clear HI
    go_wp2_with fail
    go_loopg [7] m.toNat (fun g i wr => ∃ (k : Nat) (a : Ag) (t kk : Int), g = m.toNat - k ∧ (k = 0 ∨ (k : Int) ≤ m) ∧ k ≤ 3 ∧ i = .int .i64 k ∧ Hid (AgW w s t kk a wr) ∧ Hid (AgIvT s R m m.toNat k a t kk))
    case atStart => exact ⟨0, _, t, k0, rfl, .inl rfl, by omega, rfl, HC, HI2⟩
    case round =>
      clear HC HI2
      obtain ⟨k, a, t, kk, hgk, hk, hk3, rfl, H, hI⟩ := hrel
      have Hgk := Lib.hid hgk
      clear hgk
      obtain ⟨a0, a1, a2, _, _, _⟩ := H.out.A.three
      by_cases hlt : (k : Int) < m
      · by_cases hk0 : kk = 0
        · subst hk0
          rcases hI.out with ⟨hbad, _⟩ | ⟨_, hm3, tn, rfl, htn, hE⟩
          · exact absurd rfl hbad
          have HE := Lib.hid hE
          have i0 : (0 : Int) ≤ k := by omega
          have i1 : (k : Int) < 3 := by omega
          clear hE hI
          go_wp2_with fail
          refine (rint_next s (.ok ((), s.drop tn)) tn 0 () (SRes.start s tn htn) hs _).mono ?_; rintro e w3 ⟨t1, k1, x1, rfl, hb3, hx1, hS1⟩
          have H3 := Lib.hid (H.out.more hb3)
          have hz3 := H3.out.G.lt
          have g3 := H3.out.G.cell 0
          simp [Ag.cs] at g3
          clear a0 a1 a2 hb3 H
          by_cases hc1 : 1 < a.c
          · have q4 := Blk.new w3 92 (scs s t1 k1)
            have H4 := Lib.hid (H3.out.more ((Bel.refl _).alloc (.cells (scs s t1 k1) 92)))
            go_wp2_with (first | ((with_reducible show wpList _ _ _ (⟨_, .store _ (.tmp 8) _, _, _, _, _⟩ :: _) _ _); refine wpList_store_new rfl rowScn (.tmp 8) (.tmp 44) rfl rfl rfl (scs s t1 k1) rfl rfl (scs_one _ _ _) ?_))
            refine (rint_next s _ t1 k1 _ hS1.out hs _).mono ?_; rintro e w5 ⟨t2, k2, x2, rfl, hb5, hx2, hS2⟩
            have H5 := Lib.hid (H4.out.more hb5)
            have q5 := q4.bel hb5
            clear q4 H4 hb5 g3
            go_wp2_with (first | ((with_reducible show wpList _ _ _ (⟨_, .store _ (.tmp 8) _, _, _, _, _⟩ :: _) _ _); refine wpList_store_blk rfl rowScn (.tmp 8) (.tmp 54) rfl w3.heap.size rfl q5 rfl (scs s t2 k2) rfl rfl (scs_one _ _ _) ?_; intro w6 q6 hg6; have H6 := Lib.hid (H5.out.far hg6 (by omega)); clear hg6 q5) | ((with_reducible show wpList _ _ _ (⟨some 57, _, _, _, _, _⟩ :: _) _ _); refine wpList_load_blk rfl rowScn (.tmp 8) rfl w3.heap.size rfl q6 rfl ?_))
            refine (rint_next s _ t2 k2 _ hS2.out hs _).mono ?_; rintro e w7 ⟨t3, k3, x3, rfl, hb7, hx3, hS3⟩
            have H7 := Lib.hid (H6.out.more hb7)
            have q7 := q6.bel hb7
            have hS := Lib.hid (AgIvT.step (x := ⟨x1, x2, x3⟩) (k := k) (a := a) hm3 (by omega) HE.out (hS3.out.prt3 hc1))
            clear q6 hb7 H6 H5
            go_wp2_with (first | ((with_reducible show wpList _ _ _ (⟨_, .store _ (.tmp 8) _, _, _, _, _⟩ :: _) _ _); refine wpList_store_blk rfl rowScn (.tmp 8) (.tmp 59) rfl w3.heap.size rfl q7 rfl (scs s t3 k3) rfl rfl (scs_one _ _ _) ?_; intro w8 q8 hg8; have H8 := Lib.hid (H7.out.far hg8 (by omega)); clear hg8 q7) | ((with_reducible show wpList _ _ _ (⟨some 61, _, _, _, _, _⟩ :: _) _ _); refine wpList_load_blk rfl rowScn (.tmp 8) rfl w3.heap.size rfl q8 rfl ?_) | ((with_reducible show wpList _ _ _ (⟨_, .store _ (.tmp 2) _, _, _, _, _⟩ :: _) _ _); refine wpList_store_blk rfl rowScn (.tmp 2) (.tmp 61) rfl w.heap.size rfl H8.out.A rfl (scs s t3 k3) rfl rfl (scs_one _ _ _) ?_; intro w9 bA9 hg9; have H9 := Lib.hid (H8.out.setA hg9 bA9); clear bA9 hg9) | ((with_reducible show wpList _ _ _ (⟨_, .store _ (.tmp 68) _, _, _, _, _⟩ :: _) _ _); refine wpList_store_at rfl rowPart (.tmp 68) (.tmp 66) rfl (w.heap.size + 1 + 1 + 1) (1 + k * 3) rfl H9.out.G #[.int .i64 x1, .int .i64 x2, .int .i64 x3] rfl (by simp [Ag.cs]; omega) rfl (by simp [Value.oneCell']) ?_; intro w10 hG10 hg10))
            go_roundg (m.toNat - (k + 1))
            case rel => exact ⟨k + 1, a.set k ⟨x1, x2, x3⟩, t3, k3, rfl, .inr (by omega), by omega, by go_num, H9.out.setG hg10 (by rw [← ag_set_cs a ⟨x1, x2, x3⟩ (by omega)]; exact hG10), hS⟩
            case measure => rw [Hgk.out]; omega
          · have q4 := Blk.new w3 92 (scs s t1 k1)
            have H4 := Lib.hid (H3.out.more ((Bel.refl _).alloc (.cells (scs s t1 k1) 92)))
            have hS := Lib.hid (AgIvT.step (x := ⟨x1, x1, x1⟩) (k := k) (a := a) hm3 (by omega) HE.out (hS1.out.prt1 hc1))
            go_wp2_with (first | ((with_reducible show wpList _ _ _ (⟨_, .store _ (.tmp 8) _, _, _, _, _⟩ :: _) _ _); refine wpList_store_new rfl rowScn (.tmp 8) (.tmp 44) rfl rfl rfl (scs s t1 k1) rfl rfl (scs_one _ _ _) ?_) | ((with_reducible show wpList _ _ _ (⟨some 61, _, _, _, _, _⟩ :: _) _ _); refine wpList_load_blk rfl rowScn (.tmp 8) rfl w3.heap.size rfl q4 rfl ?_) | ((with_reducible show wpList _ _ _ (⟨_, .store _ (.tmp 2) _, _, _, _, _⟩ :: _) _ _); refine wpList_store_blk rfl rowScn (.tmp 2) (.tmp 61) rfl w.heap.size rfl H4.out.A rfl (scs s t1 k1) rfl rfl (scs_one _ _ _) ?_; intro w9 bA9 hg9; have H9 := Lib.hid (H4.out.setA hg9 bA9); clear bA9 hg9) | ((with_reducible show wpList _ _ _ (⟨_, .store _ (.tmp 68) _, _, _, _, _⟩ :: _) _ _); refine wpList_store_at rfl rowPart (.tmp 68) (.tmp 66) rfl (w.heap.size + 1 + 1 + 1) (1 + k * 3) rfl H9.out.G #[.int .i64 x1, .int .i64 x1, .int .i64 x1] rfl (by simp [Ag.cs]; omega) rfl (by simp [Value.oneCell']) ?_; intro w10 hG10 hg10))
            go_roundg (m.toNat - (k + 1))
            case rel => exact ⟨k + 1, a.set k ⟨x1, x1, x1⟩, t1, k1, rfl, .inr (by omega), by omega, by go_num, H9.out.setG hg10 (by rw [← ag_set_cs a ⟨x1, x1, x1⟩ (by omega)]; exact hG10), hS⟩
            case measure => rw [Hgk.out]; omega
        · have HD := Lib.hid (hI.out.bad hk0)
          have hk1 : (kk != 0) = true := by simpa using hk0
          have hk2 : (kk == 0) = false := by simpa using hk0
          clear hk0 hI
          go_wp2_with fail
          have e2 := fun u : Over wr => Over.cell a2 u
          refine wp_region_over_tail 10 (by kernel_rfl) (by kernel_rfl) ?_
          simp only [List.take_succ_cons, List.take_zero, List.drop_succ_cons, List.drop_zero]
          repeat (first
            | ((with_reducible show wpQuiet _ _ _ _ (⟨some 69, _, _, _, _, _⟩ :: _) _); refine wpQuiet_load_row (by first | rfl | go_simp) rowScn (.tmp 2) rfl w.heap.size 0 rfl (scs s t kk) rfl H.out.A.lt H.out.A.range ?_; simp only [Act.put, List.setIfInBounds_toArray, List.set_cons_zero, List.set_cons_succ])
            | go_big_quiet_step ((first | (go_at_call 85; exact calls_over (rwant_any s t kk 3 true _)))))
          refine wpQuiet_nil ?_
          rintro ⟨w6, hb6⟩
          have H6 := Lib.hid (H.out.more hb6)
          dsimp only
          clear hb6 H e2 a0 a1 a2
          have bA6 := H6.out.A
          go_wp2_with ((with_reducible show wpList _ _ _ (⟨_, .store _ (.tmp 2) _, _, _, _, _⟩ :: _) _ _); refine wpList_store_blk rfl rowScn (.tmp 2) (.tmp 78) rfl w.heap.size rfl bA6 rfl (scs s t (wantK kk true 3)) rfl rfl (scs_one _ _ _) ?_; intro w7 bA7 hg7; have H7 := Lib.hid (H6.out.setA hg7 bA7); clear bA6 bA7 hg7 H6)
          have hEq := HD.out.1
          simp only [hk1, Bool.true_or] at hEq
          rw [hEq] at H7
          have hR := H7.out.R.lt
          refine wp_region_pair (by kernel_rfl) ⟨by kernel_rfl, by kernel_rfl, by kernel_rfl, by kernel_rfl, by kernel_rfl, by kernel_rfl, by kernel_rfl, by kernel_rfl⟩ rowScn rowAg (.tmp 2) (.tmp 6) (.tmp 4) (.tmp 5) (.tmp 79) (.tmp 80) rfl rfl rfl rfl rfl rfl rfl rfl rfl rfl w.heap.size (w.heap.size + 1 + 1 + 1) (w.heap.size + 1) (w.heap.size + 1 + 1) H7.out.A H7.out.G H7.out.R H7.out.Z rfl rfl rfl rfl (scs_one _ _ _) (ag_one _) (by omega) (by omega) (by omega) (by omega) (by omega) rfl rfl rfl rfl rfl rfl (by exact fun _ _ _ h => h) (by exact fun _ _ _ h => h) ?_
          intro w9 r9 z9 hbut
          go_wp2_with fail
          refine bodyPost_ret (results_blk2 rfl rowScn rowAg rfl rfl r9 z9 rfl rfl) rfl ?_
          exact ⟨hbut.bel H7.out.bel (by omega) (by omega), t, a, rfl, HD.out.2⟩
      · have HD := Lib.hid (hI.out.done (by omega))
        clear hI
        by_cases hk0 : kk = 0
        · subst hk0
          go_wp2_with fail
          have e2 := fun u : Over wr => Over.cell a2 u
          refine wp_region_over_tail 10 (by kernel_rfl) (by kernel_rfl) ?_
          simp only [List.take_succ_cons, List.take_zero, List.drop_succ_cons, List.drop_zero]
          repeat (first
            | ((with_reducible show wpQuiet _ _ _ _ (⟨some 69, _, _, _, _, _⟩ :: _) _); refine wpQuiet_load_row (by first | rfl | go_simp) rowScn (.tmp 2) rfl w.heap.size 0 rfl (scs s t 0) rfl H.out.A.lt H.out.A.range ?_; simp only [Act.put, List.setIfInBounds_toArray, List.set_cons_zero, List.set_cons_succ])
            | ((with_reducible show wpQuiet _ _ _ _ (⟨some 75, _, _, _, _, _⟩ :: _) _); refine wpQuiet_load_row (by first | rfl | go_simp) rowAg (.tmp 6) rfl (w.heap.size + 1 + 1 + 1) 0 rfl a.cs rfl H.out.G.lt H.out.G.range ?_; simp only [Act.put, List.setIfInBounds_toArray, List.set_cons_zero, List.set_cons_succ])
            | go_big_quiet_step ((first | (go_at_call 71; exact calls_over (HM.out a _)) | (go_at_call 85; exact calls_over (rwant_any s t 0 3 (mayAg m a) _)))))
          refine wpQuiet_nil ?_
          rintro ⟨w6, hb6⟩
          have H6 := Lib.hid (H.out.more hb6)
          dsimp only
          clear hb6 H e2 a0 a1 a2
          have bA6 := H6.out.A
          go_wp2_with ((with_reducible show wpList _ _ _ (⟨_, .store _ (.tmp 2) _, _, _, _, _⟩ :: _) _ _); refine wpList_store_blk rfl rowScn (.tmp 2) (.tmp 78) rfl w.heap.size rfl bA6 rfl (scs s t (wantK 0 (mayAg m a) 3)) rfl rfl (scs_one _ _ _) ?_; intro w7 bA7 hg7; have H7 := Lib.hid (H6.out.setA hg7 bA7); clear bA6 bA7 hg7 H6)
          have hEq := HD.out.1
          simp only [bne_self_eq_false, Bool.false_or] at hEq
          rw [hEq] at H7
          have hR := H7.out.R.lt
          refine wp_region_pair (by kernel_rfl) ⟨by kernel_rfl, by kernel_rfl, by kernel_rfl, by kernel_rfl, by kernel_rfl, by kernel_rfl, by kernel_rfl, by kernel_rfl⟩ rowScn rowAg (.tmp 2) (.tmp 6) (.tmp 4) (.tmp 5) (.tmp 79) (.tmp 80) rfl rfl rfl rfl rfl rfl rfl rfl rfl rfl w.heap.size (w.heap.size + 1 + 1 + 1) (w.heap.size + 1) (w.heap.size + 1 + 1) H7.out.A H7.out.G H7.out.R H7.out.Z rfl rfl rfl rfl (scs_one _ _ _) (ag_one _) (by omega) (by omega) (by omega) (by omega) (by omega) rfl rfl rfl rfl rfl rfl (by exact fun _ _ _ h => h) (by exact fun _ _ _ h => h) ?_
          intro w9 r9 z9 hbut
          go_wp2_with fail
          refine bodyPost_ret (results_blk2 rfl rowScn rowAg rfl rfl r9 z9 rfl rfl) rfl ?_
          exact ⟨hbut.bel H7.out.bel (by omega) (by omega), t, a, rfl, HD.out.2⟩
        · have hk1 : (kk != 0) = true := by simpa using hk0
          have hk2 : (kk == 0) = false := by simpa using hk0
          clear hk0
          go_wp2_with fail
          have e2 := fun u : Over wr => Over.cell a2 u
          refine wp_region_over_tail 10 (by kernel_rfl) (by kernel_rfl) ?_
          simp only [List.take_succ_cons, List.take_zero, List.drop_succ_cons, List.drop_zero]
          repeat (first
            | ((with_reducible show wpQuiet _ _ _ _ (⟨some 69, _, _, _, _, _⟩ :: _) _); refine wpQuiet_load_row (by first | rfl | go_simp) rowScn (.tmp 2) rfl w.heap.size 0 rfl (scs s t kk) rfl H.out.A.lt H.out.A.range ?_; simp only [Act.put, List.setIfInBounds_toArray, List.set_cons_zero, List.set_cons_succ])
            | go_big_quiet_step ((first | (go_at_call 85; exact calls_over (rwant_any s t kk 3 true _)))))
          refine wpQuiet_nil ?_
          rintro ⟨w6, hb6⟩
          have H6 := Lib.hid (H.out.more hb6)
          dsimp only
          clear hb6 H e2 a0 a1 a2
          have bA6 := H6.out.A
          go_wp2_with ((with_reducible show wpList _ _ _ (⟨_, .store _ (.tmp 2) _, _, _, _, _⟩ :: _) _ _); refine wpList_store_blk rfl rowScn (.tmp 2) (.tmp 78) rfl w.heap.size rfl bA6 rfl (scs s t (wantK kk true 3)) rfl rfl (scs_one _ _ _) ?_; intro w7 bA7 hg7; have H7 := Lib.hid (H6.out.setA hg7 bA7); clear bA6 bA7 hg7 H6)
          have hEq := HD.out.1
          simp only [hk1, Bool.true_or] at hEq
          rw [hEq] at H7
          have hR := H7.out.R.lt
          refine wp_region_pair (by kernel_rfl) ⟨by kernel_rfl, by kernel_rfl, by kernel_rfl, by kernel_rfl, by kernel_rfl, by kernel_rfl, by kernel_rfl, by kernel_rfl⟩ rowScn rowAg (.tmp 2) (.tmp 6) (.tmp 4) (.tmp 5) (.tmp 79) (.tmp 80) rfl rfl rfl rfl rfl rfl rfl rfl rfl rfl w.heap.size (w.heap.size + 1 + 1 + 1) (w.heap.size + 1) (w.heap.size + 1 + 1) H7.out.A H7.out.G H7.out.R H7.out.Z rfl rfl rfl rfl (scs_one _ _ _) (ag_one _) (by omega) (by omega) (by omega) (by omega) (by omega) rfl rfl rfl rfl rfl rfl (by exact fun _ _ _ h => h) (by exact fun _ _ _ h => h) ?_
          intro w9 r9 z9 hbut
          go_wp2_with fail
          refine bodyPost_ret (results_blk2 rfl rowScn rowAg rfl rfl r9 z9 rfl rfl) rfl ?_
          exact ⟨hbut.bel H7.out.bel (by omega) (by omega), t, a, rfl, HD.out.2⟩

end Go.Proofs.Ytlclllkjnhgbjaa

namespace Go.Proofs.Ytlclllkjnhgbjaa
open Go.RowKit
set_option linter.unusedVariables false
set_option linter.unusedSimpArgs false


theorem setAll_clA (key ch : Int) (a : Ag) : setAll (Cl.mk key ch .zero).cs 2 a.cs.toList = (Cl.mk key ch a).cs := by
  simp [setAll, Ag.cs]
/-- A scan stands where the rest of a reading is told of what is left; or it has an error, as the reading has. -/
def Sat {β : Type} (s : List UInt8) (R : PR β) (f : List UInt8 → PR β) (t k : Int) : Prop := (k ≠ 0 ∧ ∃ e, R = .error e) ∨ (k = 0 ∧ ∃ tn : Nat, t = tn ∧ tn ≤ s.length ∧ R = f (s.drop tn))
theorem rnumC_any {β : Type} (s : List UInt8) (R : PR β) (g : Nat → List UInt8 → PR β) (t k most : Int) (w : World) (hs : s.length ≤ 1000001) (h0 : 0 ≤ most) (h1 : most ≤ 9223372036854775807) (hS : Sat s R (fun r => pbind (pnum most r) g) t k) :
    Calls Try.prog 47 #[scn s t k, .int .i64 most] w fun e w' => ∃ (t' k' : Int) (n : Nat), e = .returned (.tuple #[scn s t' k', .int .i64 (n : Nat)]) ∧ Bel w w' ∧ (n : Int) ≤ most ∧ Hid (Sat s R (g n) t' k') ∧ Hid (k' = 0 → k = 0) := by
  rcases hS with ⟨hk, hR⟩ | ⟨rfl, tn, rfl, htn, hR⟩
  · refine (rnum_bad s t k most hk w).mono ?_
    rintro e w' ⟨rfl, hb⟩
    exact ⟨t, k, 0, rfl, hb, by simpa using h0, .inl ⟨hk, hR⟩, fun h => h⟩
  · refine (rnum_any s tn most hs htn (by omega) h1 w).mono ?_
    rintro e w' ⟨hb, hm⟩
    cases ho : pnum most (s.drop tn) with
    | error k' =>
      rw [ho] at hm
      obtain ⟨t, rfl⟩ := hm
      have := pnum_err ho
      exact ⟨t, k', 0, rfl, hb, by simpa using h0, .inl ⟨by omega, k', by rw [hR]; show pbind _ _ = _; rw [ho]; rfl⟩, fun _ => rfl⟩
    | ok q =>
      obtain ⟨x, l⟩ := q
      rw [ho] at hm
      obtain ⟨t', ht', hl, rfl⟩ := hm
      exact ⟨t', 0, x, rfl, hb, (pnum_ok ho).2.1, .inr ⟨rfl, t', rfl, ht', by rw [hR]; show pbind _ _ = _; rw [ho, hl]; rfl⟩, fun _ => rfl⟩
theorem Sat.agg {β : Type} {s : List UInt8} {R : PR β} {g : Cl → List UInt8 → PR β} {nd : Nat} {ms d key t k : Int} (hS : Sat s R (fun r => pbind (pcell nd ms d key r) g) t k) (hd : d = (nd : Int) - 1) :
    ∃ Q : PR Ag, Hid ((k ≠ 0 ∧ Q = .error k) ∨ (k = 0 ∧ ∃ tn : Nat, t = tn ∧ tn ≤ s.length ∧ Q = pag ms (s.drop tn))) ∧ ∀ (t' k' : Int) (a : Ag), k' = prErr Q → (∀ b l, Q = .ok (b, l) → a = b ∧ ∃ tn : Nat, t' = tn ∧ tn ≤ s.length ∧ l = s.drop tn) → Hid (Sat s R (g ⟨key, 0, a⟩) t' k') ∧ Hid (k' = 0 → (Cl.mk 0 0 a).ok) ∧ Hid (k' = 0 → k = 0) := by
  rcases hS with ⟨hk, hR⟩ | ⟨rfl, tn, rfl, htn, hR⟩
  · refine ⟨.error k, .inl ⟨hk, rfl⟩, fun t' k' a hk' _ => ?_⟩
    have hk2 : k' = k := hk'
    subst hk2
    exact ⟨.inl ⟨hk, hR⟩, fun h => absurd h hk, fun h => h⟩
  · refine ⟨pag ms (s.drop tn), .inr ⟨rfl, tn, rfl, htn, rfl⟩, fun t' k' a hk' hok => ?_⟩
    cases hp : pag ms (s.drop tn) with
    | error e =>
      have he := pag_err hp
      rw [hp] at hk'
      have hk2 : k' = e := hk'
      subst hk2
      exact ⟨.inl ⟨by omega, k', by rw [hR]; show pbind (pcell _ _ _ _ _) _ = _; unfold pcell; rw [if_pos hd, hp]; rfl⟩, fun h => by omega, fun _ => rfl⟩
    | ok q =>
      obtain ⟨b, l⟩ := q
      obtain ⟨rfl, tn', rfl, htn', rfl⟩ := hok b l hp
      rw [hp] at hk'
      have hk2 : k' = 0 := hk'
      exact ⟨.inr ⟨hk2, tn', rfl, htn', by rw [hR]; show pbind (pcell _ _ _ _ _) _ = _; unfold pcell; rw [if_pos hd, hp]; rfl⟩, fun _ => ⟨z_i64, z_i64, (pag_back hp).2.2⟩, fun _ => rfl⟩
theorem Sat.num {β : Type} {s : List UInt8} {R : PR β} {g : Cl → List UInt8 → PR β} {nd : Nat} {ms d key t k : Int} (hS : Sat s R (fun r => pbind (pcell nd ms d key r) g) t k) (hd : d ≠ (nd : Int) - 1) :
    Sat s R (fun r => pbind (pnum 1048576 r) fun n r => g ⟨key, (n : Int), .zero⟩ r) t k := by
  rcases hS with hS | ⟨rfl, tn, rfl, htn, hR⟩
  · exact .inl hS
  · refine .inr ⟨rfl, tn, rfl, htn, ?_⟩
    rw [hR]
    show pbind (pcell _ _ _ _ _) _ = pbind (pnum 1048576 (s.drop tn)) _
    unfold pcell
    rw [if_neg hd]
    cases pnum 1048576 (s.drop tn) with
    | error e => rfl
    | ok q => rfl

set_option maxRecDepth 100000 in
set_option maxHeartbeats 4000000 in
theorem rcread_any {β : Type} (s : List UInt8) (R : PR β) (g : Cl → List UInt8 → PR β) (t k : Int) (sh : Shp) (d key : Int) (w : World) (hs : s.length ≤ 1000001) (hsh : sh.rd w) (hd : I64 d) (hk : I64 key) (hS : Sat s R (fun r => pbind (pcell sh.sz.n sh.ms d key r) g) t k) :
    Calls Try.prog 48 #[scn s t k, .agg sh.cs, .int .i64 d, .int .i64 key] w fun e w' => ∃ (t' k' : Int) (c : Cl), e = .returned (.tuple #[scn s t' k', .agg c.cs]) ∧ Bel w w' ∧ Hid (Sat s R (g c) t' k') ∧ Hid (k' = 0 → c.ok) ∧ Hid (k' = 0 → k = 0) := by
  have hms := hsh.ms
  have n63 := hsh.sz.n63
  have H := Lib.hid (((((SL.start No w).alloc (scs s t k) 92).alloc sh.cs 24).alloc #[.string ⟨#[]⟩, .int .i64 0, .int .i64 0] 92).alloc #[.int .i64 0, .int .i64 0, .int .i64 0, .int .i64 0, .int .i64 0, .int .i64 0, .int .i64 0, .int .i64 0, .int .i64 0, .int .i64 0, .int .i64 0, .int .i64 0] 32)
  (try simp only [List.set_cons_zero, List.set_cons_succ, List.cons_append, List.nil_append, List.eraseIdx_cons_zero, List.eraseIdx_cons_succ, List.setIfInBounds_toArray, World.size_alloc, selR, List.getD_cons_zero, List.getD_cons_succ] at H)
  have hcs : sh.cs = #[.slice sh.sz.A sh.sz.n sh.sz.c, .int .i64 sh.ms] := rfl
  have HCS := Lib.hid hcs
  have HSS := Lib.hid hS
  have HK64 := Lib.hid hk
  clear hcs hsh hS hk
  have hbd : ∀ w : World, (Instr.build 32 #[(0, .int .i64 key)]).run Try.prog w = .ok (.agg (Cl.mk key 0 .zero).cs) w := fun _ => by kernel_rfl
  obtain ⟨d1, d0⟩ := hd
  go_enter Try.func48, Try.ntmps48
  go_upto_region 1 with fail
  (try rw [← HCS.out] at *)
  generalize w.heap.size + 1 + 1 + 1 = xd at *
  generalize w.heap.size + 1 + 1 = xc at *
  generalize w.heap.size + 1 = xb at *
  generalize w.heap.size = xa at *
  generalize World.alloc (World.alloc _ _) _ = w1 at *
  go_upto_region 2 with (first | ((with_reducible show wpList _ _ _ (⟨some 12, _, _, _, _, _⟩ :: _) _ _); refine wpList_build1N rfl (.tmp 11) rfl rfl hbd ?_) | ((with_reducible show wpList _ _ _ (⟨_, .store _ (.tmp 10) _, _, _, _, _⟩ :: _) _ _); (refine wpList_store_new rfl rowCl (.tmp 10) (.tmp 12) rfl rfl rfl ((Cl.mk key 0 .zero).cs) rfl rfl (cl_one _) ?_; replace H := Lib.hid (H.out.alloc ((Cl.mk key 0 .zero).cs) 32); (try simp only [List.set_cons_zero, List.set_cons_succ, List.cons_append, List.nil_append, List.eraseIdx_cons_zero, List.eraseIdx_cons_succ, List.setIfInBounds_toArray, World.size_alloc, selR, List.getD_cons_zero, List.getD_cons_succ] at H))))
  (try simp only [Act.put, List.setIfInBounds_toArray, List.set_cons_zero, List.set_cons_succ])
  generalize w1.heap.size = xe at *
  generalize World.alloc w1 _ = w2 at *
  clear hbd
  have cs0 : w2.cell? ⟨xb, 0, none⟩ = some (.slice sh.sz.A sh.sz.n sh.sz.c) := (H.out.blk 1 rfl).cell 0
  have cs1 : w2.cell? ⟨xb, 1, none⟩ = some (.int .i64 sh.ms) := (H.out.blk 1 rfl).cell 1
  have wz : IntKind.i64.wrap ((sh.sz.n : Int) - 1) = (sh.sz.n : Int) - 1 := IntWalk.i64_in _ (by omega)
  by_cases hl : d = (sh.sz.n : Int) - 1
  · have dl : (d == (sh.sz.n : Int) - 1) = true := by simpa using hl
    obtain ⟨Q, hQ, hrest⟩ := HSS.out.agg hl
    have HQ := Lib.hid hrest
    have HT := Lib.hid (fun w => rareadT_any s Q t k sh.ms w hs hQ.out hms)
    clear hrest hQ HSS hl
    go_wp2_with ((with_reducible show wpList _ _ _ (⟨some 20, _, _, _, _, _⟩ :: _) _ _); (refine wpList_load_blk rfl rowScn (.tmp 4) rfl _ rfl (H.out.blk 0 rfl) rfl ?_))
    refine (HT.out _).mono ?_; rintro e w3 ⟨hb3, t3, a, rfl, hok⟩
    replace H := Lib.hid (H.out.bel hb3); (try simp only [List.set_cons_zero, List.set_cons_succ, List.cons_append, List.nil_append, List.eraseIdx_cons_zero, List.eraseIdx_cons_succ, List.setIfInBounds_toArray, World.size_alloc, selR, List.getD_cons_zero, List.getD_cons_succ] at H)
    obtain ⟨HS2, HOK0, HST⟩ := HQ.out t3 _ a rfl hok
    have HOK : Hid (prErr Q = 0 → (Cl.mk key 0 a).ok) := fun h => ⟨HK64.out, z_i64, (HOK0.out h).ag⟩
    generalize prErr Q = k3 at *
    clear hb3 hok HT HQ HOK0 cs0 cs1 wz dl
    go_upto_region 5 with (first | ((with_reducible show wpList _ _ _ (⟨_, .store _ (.tmp 4) _, _, _, _, _⟩ :: _) _ _); (refine wpList_store_blk rfl rowScn (.tmp 4) (.tmp 24) rfl _ rfl (H.out.blk 0 rfl) rfl ((scs s t3 k3)) rfl rfl (scs_one _ _ _) ?_; intro wq bq hgq; replace H := Lib.hid (H.out.setBlk 0 rfl hgq bq); (try simp only [List.set_cons_zero, List.set_cons_succ, List.cons_append, List.nil_append, List.eraseIdx_cons_zero, List.eraseIdx_cons_succ, List.setIfInBounds_toArray, World.size_alloc, selR, List.getD_cons_zero, List.getD_cons_succ] at H); clear hgq bq)) | ((with_reducible show wpList _ _ _ (⟨_, .store _ (.tmp 26) _, _, _, _, _⟩ :: _) _ _); refine wpList_store_at rfl rowAg (.tmp 26) (.tmp 25) rfl xe 2 rfl (H.out.blk 4 rfl) a.cs rfl (by simp) rfl (ag_one a) ?_; intro wq bq hgq; replace bq : Blk wq xe 32 (Cl.mk key 0 a).cs := (by rw [← setAll_clA key 0 a]; exact bq); replace H := Lib.hid (H.out.setBlk 4 rfl hgq bq); (try simp only [List.set_cons_zero, List.set_cons_succ, List.cons_append, List.nil_append, List.eraseIdx_cons_zero, List.eraseIdx_cons_succ, List.setIfInBounds_toArray, World.size_alloc, selR, List.getD_cons_zero, List.getD_cons_succ] at H); clear hgq bq))
    go_wp2_with fail
    refine wp_region_pair (by kernel_rfl) ⟨by kernel_rfl, by kernel_rfl, by kernel_rfl, by kernel_rfl, by kernel_rfl, by kernel_rfl, by kernel_rfl, by kernel_rfl⟩ rowScn rowCl (.tmp 4) (.tmp 10) (.tmp 8) (.tmp 9) (.tmp 33) (.tmp 34) rfl rfl rfl rfl rfl rfl rfl rfl rfl rfl _ _ _ _ (H.out.blk 0 rfl) (H.out.blk 4 rfl) (H.out.blk 2 rfl) (H.out.blk 3 rfl) rfl rfl rfl rfl (scs_one _ _ _) (cl_one ⟨key, 0, a⟩) (H.out.ne 2 3 (by decide) rfl rfl) (H.out.ne 0 2 (by decide) rfl rfl) (H.out.ne 0 3 (by decide) rfl rfl) (H.out.ne 4 2 (by decide) rfl rfl) (H.out.ne 4 3 (by decide) rfl rfl) rfl rfl rfl rfl rfl rfl (by exact fun _ _ _ h => h) (by exact fun _ _ _ h => h) ?_
    intro w9 r9 z9 hbut
    replace H := Lib.hid (H.out.butD 2 3 (by decide) rfl rfl hbut r9 z9); (try simp only [List.set_cons_zero, List.set_cons_succ, List.cons_append, List.nil_append, List.eraseIdx_cons_zero, List.eraseIdx_cons_succ, List.setIfInBounds_toArray, World.size_alloc, selR, List.getD_cons_zero, List.getD_cons_succ] at H)
    clear hbut r9 z9
    go_wp2_with fail
    refine bodyPost_ret (results_blk2 rfl rowScn rowCl rfl rfl (H.out.blk 2 rfl) (H.out.blk 3 rfl) rfl rfl) rfl ?_
    exact ⟨t3, k3, ⟨key, 0, a⟩, rfl, H.out.to, HS2, HOK, HST⟩
  · have dl : (d == (sh.sz.n : Int) - 1) = false := by simpa using hl
    have HT := Lib.hid (fun w => rnumC_any s R (fun n r => g ⟨key, (n : Int), .zero⟩ r) t k 1048576 w hs (by omega) (by omega) (HSS.out.num hl))
    clear HSS hl
    go_wp2_with ((with_reducible show wpList _ _ _ (⟨some 28, _, _, _, _, _⟩ :: _) _ _); (refine wpList_load_blk rfl rowScn (.tmp 4) rfl _ rfl (H.out.blk 0 rfl) rfl ?_))
    refine (HT.out _).mono ?_; rintro e w3 ⟨t3, k3, n, rfl, hb3, hn, HS2, HST⟩
    replace H := Lib.hid (H.out.bel hb3); (try simp only [List.set_cons_zero, List.set_cons_succ, List.cons_append, List.nil_append, List.eraseIdx_cons_zero, List.eraseIdx_cons_succ, List.setIfInBounds_toArray, World.size_alloc, selR, List.getD_cons_zero, List.getD_cons_succ] at H)
    have HOK : Hid (k3 = 0 → (Cl.mk key (n : Nat) .zero).ok) := fun h => ⟨HK64.out, by unfold I64; show _ ≤ ((n : Nat) : Int) ∧ ((n : Nat) : Int) ≤ _; omega, ag_zero_ok⟩
    clear hb3 HT cs0 cs1 wz dl hn
    have c4 := (H.out.blk 4 rfl).cell 1; simp only [List.getElem?_toArray, List.getElem?_cons_zero, List.getElem?_cons_succ] at c4; have f4 := (H.out.blk 4 rfl).frozen 1
    go_upto_region 5 with (((with_reducible show wpList _ _ _ (⟨_, .store _ (.tmp 4) _, _, _, _, _⟩ :: _) _ _); (refine wpList_store_blk rfl rowScn (.tmp 4) (.tmp 30) rfl _ rfl (H.out.blk 0 rfl) rfl ((scs s t3 k3)) rfl rfl (scs_one _ _ _) ?_; intro wq bq hgq; replace H := Lib.hid (H.out.setBlk 0 rfl hgq bq); (try simp only [List.set_cons_zero, List.set_cons_succ, List.cons_append, List.nil_append, List.eraseIdx_cons_zero, List.eraseIdx_cons_succ, List.setIfInBounds_toArray, World.size_alloc, selR, List.getD_cons_zero, List.getD_cons_succ] at H); clear hgq bq; clear c4 f4; have c4 := (H.out.blk 4 rfl).cell 1; simp only [List.getElem?_toArray, List.getElem?_cons_zero, List.getElem?_cons_succ] at c4; have f4 := (H.out.blk 4 rfl).frozen 1)))
    replace H := Lib.hid (H.out.setCell 4 rfl 1 (.int .i64 (n : Nat))); (try simp only [List.set_cons_zero, List.set_cons_succ, List.cons_append, List.nil_append, List.eraseIdx_cons_zero, List.eraseIdx_cons_succ, List.setIfInBounds_toArray, World.size_alloc, selR, List.getD_cons_zero, List.getD_cons_succ] at H)
    clear c4 f4
    go_wp2_with fail
    refine wp_region_pair (by kernel_rfl) ⟨by kernel_rfl, by kernel_rfl, by kernel_rfl, by kernel_rfl, by kernel_rfl, by kernel_rfl, by kernel_rfl, by kernel_rfl⟩ rowScn rowCl (.tmp 4) (.tmp 10) (.tmp 8) (.tmp 9) (.tmp 33) (.tmp 34) rfl rfl rfl rfl rfl rfl rfl rfl rfl rfl _ _ _ _ (H.out.blk 0 rfl) (H.out.blk 4 rfl) (H.out.blk 2 rfl) (H.out.blk 3 rfl) rfl rfl rfl rfl (scs_one _ _ _) (cl_one ⟨key, (n : Nat), .zero⟩) (H.out.ne 2 3 (by decide) rfl rfl) (H.out.ne 0 2 (by decide) rfl rfl) (H.out.ne 0 3 (by decide) rfl rfl) (H.out.ne 4 2 (by decide) rfl rfl) (H.out.ne 4 3 (by decide) rfl rfl) rfl rfl rfl rfl rfl rfl (by exact fun _ _ _ h => h) (by exact fun _ _ _ h => h) ?_
    intro w9 r9 z9 hbut
    replace H := Lib.hid (H.out.butD 2 3 (by decide) rfl rfl hbut r9 z9); (try simp only [List.set_cons_zero, List.set_cons_succ, List.cons_append, List.nil_append, List.eraseIdx_cons_zero, List.eraseIdx_cons_succ, List.setIfInBounds_toArray, World.size_alloc, selR, List.getD_cons_zero, List.getD_cons_succ] at H)
    clear hbut r9 z9
    go_wp2_with fail
    refine bodyPost_ret (results_blk2 rfl rowScn rowCl rfl rfl (H.out.blk 2 rfl) (H.out.blk 3 rfl) rfl rfl) rfl ?_
    exact ⟨t3, k3, ⟨key, (n : Nat), .zero⟩, rfl, H.out.to, HS2, HOK, HST⟩

end Go.Proofs.Ytlclllkjnhgbjaa

namespace Go.Proofs.Ytlclllkjnhgbjaa
open Go.RowKit
set_option linter.unusedVariables false
set_option linter.unusedSimpArgs false


def nodeOf (xs : List (List Int)) (ms : Int) (z : Nat) (o : PR NC) : Option (NC × Nat) := match o with | .error _ => none | .ok (n, r) => if r = [] ∧ nodeErr xs ms n = 0 then some (n, z) else none
theorem Sat.to {β : Type} {s : List UInt8} {R : PR β} {f g : List UInt8 → PR β} {t k : Int} (h : Sat s R f t k) (hf : ∀ r, f r = g r) : Sat s R g t k :=
  h.imp (fun h => h) fun ⟨a, tn, b, c, d⟩ => ⟨a, tn, b, c, d.trans (hf _)⟩
theorem Sat.bad {β : Type} {s : List UInt8} {R : PR β} {f : List UInt8 → PR β} (g : List UInt8 → PR β) {t k : Int} (h : Sat s R f t k) (hk : k ≠ 0) : Sat s R g t k :=
  h.elim .inl fun h => absurd h.1 hk
theorem pafter_list {nd : Nat} {ms d : Int} {zz : List Int} {k : Nat} {z : Int} {acc : List (List Cl)} (h : zz[k]? = some z) (r : List UInt8) :
    pafter nd ms d (plists nd ms d (zz.drop k) acc r) = pbind (pnum z r) fun n r => pafter nd ms d (pbind (pcells nd ms d z n (-1) [] r) fun l r => plists nd ms d (zz.drop (k + 1)) (acc ++ [l]) r) := by
  rw [plists_drop h]
  cases pnum z r with
  | error e => rfl
  | ok q => rfl
theorem pafter_cell {nd n k : Nat} {ms d z : Int} (h : k < n) (was : Int) (acc : List Cl) (f : List Cl → List UInt8 → PR (List (List Cl))) (r : List UInt8) :
    pafter nd ms d (pbind (pcells nd ms d z (n - k) was acc r) f) = pbind (pnum z r) fun g r => pbind (pcell nd ms d (keyAt was g) r) fun c r => pafter nd ms d (pbind (pcells nd ms d z (n - (k + 1)) (keyAt was g) (acc ++ [c]) r) f) := by
  rw [pcells_step h]
  cases pnum z r with
  | error e => rfl
  | ok q =>
    obtain ⟨g, r1⟩ := q
    rw [pbind_ok, pbind_ok]
    cases pcell nd ms d (keyAt was g) r1 with
    | error e => rfl
    | ok q => rfl
theorem pafter_all {nd : Nat} {ms d : Int} {zz : List Int} {k : Nat} {acc : List (List Cl)} (h : zz.length = k) (r : List UInt8) :
    pafter nd ms d (plists nd ms d (zz.drop k) acc r) = pbind (pcell nd ms d 0 r) fun c r => .ok (⟨d, acc, c⟩, r) := by
  rw [plists_done h]
  show pbind2 _ _ = _
  cases pcell nd ms d 0 r with
  | error e => rfl
  | ok q => rfl
theorem pcells_none {nd n : Nat} {ms d z was : Int} {acc : List Cl} (f : List Cl → List UInt8 → PR (List (List Cl))) (r : List UInt8) : pbind (pcells nd ms d z (n - n) was acc r) f = f acc r := by
  rw [Nat.sub_self]; rfl
/-- What the document's Take answers. -/
def RTkcel (o : Option (NC × Nat)) (w : World) (e : Ending) (w' : World) : Prop := ∃ D : Nd, e = .returned (.tuple #[.agg D.cs, .int .i64 (szN (o.map Prod.snd)), .bool o.isSome]) ∧ D.con = ((o.map Prod.fst).getD .nil) ∧ Bel w w' ∧ NewR w w' (rNd D)

theorem pcells_none2 {nd n : Nat} {ms d z was : Int} {acc : List Cl} (f : List Cl → List UInt8 → PR (List (List Cl))) (r : List UInt8) : pafter nd ms d (pbind (pcells nd ms d z (n - n) was acc r) f) = pafter nd ms d (f acc r) := by
  rw [pcells_none]
set_option maxRecDepth 100000 in
set_option maxHeartbeats 4000000 in
theorem rceltake_any (sh : Shp) (s : List UInt8) (w : World) (hs : sh.rd w) (hsl : s.length ≤ 1000001) (hm : shapeOk sh.con sh.ms = true) :
    Calls Try.prog 20 #[.agg sh.cs, .string ⟨s.toArray⟩] w (RTkcel (nodeTake sh.con sh.ms s) w) := by
  have hb0 : ∀ w : World, (Instr.build 34 #[]).run Try.prog w = .ok (.agg Nd.nil.cs) w := fun _ => by kernel_rfl
  have hxl : sh.con.length = sh.sz.n := by show (sh.sz.l.map Row.l).length = _; rw [List.length_map]; exact hs.sz.len
  have hm16 := shape_ms hm
  have HMM := Lib.hid hm
  have h1 : 1 ≤ sh.sz.n := by omega
  have h16 : sh.sz.n ≤ 16 := by omega
  have HXS : Hid (∀ (k : Nat) (z : Row Int), sh.sz.l[k]? = some z → sh.con[k]? = some z.l) := fun k z h => by show (sh.sz.l.map Row.l)[k]? = _; rw [List.getElem?_map, h]; rfl
  have HSH := Lib.hid (fun w' (hb : Bel w w') => hs.mono hb)
  have HSZ := Lib.hid (fun w' => rcsize_any s w' hsl)
  have H := Lib.hid (((SL.start No w).alloc sh.cs 24).alloc #[.int .i64 0, .slice none 0 0, .int .i64 0, .int .i64 0, .int .i64 0, .int .i64 0, .int .i64 0, .int .i64 0, .int .i64 0, .int .i64 0, .int .i64 0, .int .i64 0, .int .i64 0, .int .i64 0] 34)
  (try simp only [List.set_cons_zero, List.set_cons_succ, List.cons_append, List.nil_append, List.eraseIdx_cons_zero, List.eraseIdx_cons_succ, List.setIfInBounds_toArray, World.size_alloc, selR, List.getD_cons_zero, List.getD_cons_succ] at H)
  obtain ⟨O, hO⟩ : ∃ O, O = nodeTake sh.con sh.ms s := ⟨_, rfl⟩
  have HO := Lib.hid hO
  rw [← hO]
  have hcs : sh.cs = #[.slice sh.sz.A sh.sz.n sh.sz.c, .int .i64 sh.ms] := rfl
  have HCS := Lib.hid hcs
  clear hcs hs hO hm hm16
  go_enter Try.func20, Try.ntmps20
  go_upto_region 1 with fail
  (try rw [← HCS.out] at *)
  generalize w.heap.size + 1 = y at *
  generalize w.heap.size = x at *
  generalize World.alloc (World.alloc _ _) _ = w1 at *
  go_wp2_with fail
  refine (HSZ.out _).mono ?_; rintro e w2 ⟨rfl, hb2⟩
  replace H := Lib.hid (H.out.bel hb2); (try simp only [List.set_cons_zero, List.set_cons_succ, List.cons_append, List.nil_append, List.eraseIdx_cons_zero, List.eraseIdx_cons_succ, List.setIfInBounds_toArray, World.size_alloc, selR, List.getD_cons_zero, List.getD_cons_succ] at H)
  clear hb2 HSZ
  cases hz : nodeSize s with
  | none =>
    have HV : Hid (O = none) := by show _ = _; rw [HO.out]; unfold nodeTake; rw [hz]
    rw [show szN none = 0 from rfl, show szOk none = false from rfl]
    clear hz HO
    go_wp2_with (first | ((with_reducible show wpList _ _ _ (⟨some 37, _, _, _, _, _⟩ :: _) _ _); refine wpList_build0N rfl rfl hb0 ?_) | ((with_reducible show wpList _ _ _ (⟨_, .store _ (.tmp 4) _, _, _, _, _⟩ :: _) _ _); (refine wpList_store_blk rfl rowNd (.tmp 4) (.tmp 37) rfl _ rfl (H.out.blk 1 rfl) rfl (Nd.nil.cs) rfl rfl (nd_one _) ?_; intro wq bq hgq; replace H := Lib.hid (H.out.setBlk 1 rfl hgq bq); (try simp only [List.set_cons_zero, List.set_cons_succ, List.cons_append, List.nil_append, List.eraseIdx_cons_zero, List.eraseIdx_cons_succ, List.setIfInBounds_toArray, World.size_alloc, selR, List.getD_cons_zero, List.getD_cons_succ] at H); clear hgq bq)))
    refine bodyPost_ret (results_blk3 rfl rowNd rfl (H.out.blk 1 rfl) rfl) rfl ?_
    rw [HV.out]
    exact ⟨Nd.nil, rfl, rfl, H.out.to, holds_ndnil _, ndnil_new⟩
  | some zs =>
    rw [show szOk (some zs) = true from rfl, show szN (some zs) = (zs : Nat) from rfl]
    by_cases hzl : s.length < zs
    · have HV : Hid (O = none) := by show _ = _; rw [HO.out]; unfold nodeTake; rw [hz]; simp only; rw [if_pos (.inl hzl)]
      have d1 : decide ((s.length : Int) < (zs : Int)) = true := by simpa using hzl
      have d2 : decide (s.length < zs) = true := by simpa using hzl
      clear hz HO hzl
      go_wp2_with (first | ((with_reducible show wpList _ _ _ (⟨some 37, _, _, _, _, _⟩ :: _) _ _); refine wpList_build0N rfl rfl hb0 ?_) | ((with_reducible show wpList _ _ _ (⟨_, .store _ (.tmp 4) _, _, _, _, _⟩ :: _) _ _); (refine wpList_store_blk rfl rowNd (.tmp 4) (.tmp 37) rfl _ rfl (H.out.blk 1 rfl) rfl (Nd.nil.cs) rfl rfl (nd_one _) ?_; intro wq bq hgq; replace H := Lib.hid (H.out.setBlk 1 rfl hgq bq); (try simp only [List.set_cons_zero, List.set_cons_succ, List.cons_append, List.nil_append, List.eraseIdx_cons_zero, List.eraseIdx_cons_succ, List.setIfInBounds_toArray, World.size_alloc, selR, List.getD_cons_zero, List.getD_cons_succ] at H); clear hgq bq)))
      refine bodyPost_ret (results_blk3 rfl rowNd rfl (H.out.blk 1 rfl) rfl) rfl ?_
      rw [HV.out]
      exact ⟨Nd.nil, rfl, rfl, H.out.to, holds_ndnil _, ndnil_new⟩
    have d1 : decide ((s.length : Int) < (zs : Int)) = false := by simp; omega
    have d2 : decide (s.length < zs) = false := by simp; omega
    obtain ⟨n, kn, ok, hn⟩ : ∃ n k ok, ntake s = (n, k, ok) := ⟨_, _, _, rfl⟩
    have hnz : ok = true ∧ n ≤ 1048576 ∧ zs = n + kn := by
      unfold nodeSize at hz
      rw [hn] at hz
      simp only at hz
      split at hz
      · rename_i h; injection hz with hz; exact ⟨h.1, h.2, hz.symm⟩
      · cases hz
    have HO1 : Hid (O = nodeOf sh.con sh.ms zs (pbody sh.con sh.ms ((s.take zs).drop kn))) := by show _ = _; rw [HO.out]; unfold nodeTake; rw [hz]; simp only; rw [if_neg (by rw [hxl]; omega), hn]; rfl
    have HTV := Lib.hid (fun w' => rtake_val hn w' hsl)
    obtain ⟨rfl, hn1, hn2⟩ := hnz
    clear hz HO
    have k0 : (0 : Int) ≤ kn := by omega
    have k1 : (kn : Int) ≤ zs := by omega
    have k2 : (zs : Int) ≤ s.length := by omega
    clear hn1 hn2
    go_wp2_with fail
    refine (HTV.out _).mono ?_; rintro e w3 ⟨rfl, hb3⟩
    replace H := Lib.hid (H.out.bel hb3); (try simp only [List.set_cons_zero, List.set_cons_succ, List.cons_append, List.nil_append, List.eraseIdx_cons_zero, List.eraseIdx_cons_succ, List.setIfInBounds_toArray, World.size_alloc, selR, List.getD_cons_zero, List.getD_cons_succ] at H)
    clear hb3 HTV d1 d2
    obtain ⟨q, hq⟩ : ∃ q, q = (s.take zs).drop kn := ⟨_, rfl⟩
    have hex : (⟨s.toArray⟩ : ByteArray).extract kn zs = ⟨q.toArray⟩ := by rw [str_extract, hq, List.drop_take]
    have hql : q.length ≤ 1000001 := by rw [hq, List.length_drop, List.length_take]; omega
    rw [← hq] at HO1
    obtain ⟨R, hRR⟩ : ∃ R, R = pbody sh.con sh.ms q := ⟨_, rfl⟩
    have HO2 : Hid (O = nodeOf sh.con sh.ms zs R) := by rw [hRR]; exact HO1
    have HP0 : Hid (Sat q R (fun r => pbind (pnum ((sh.sz.n : Int) - 1) r) fun d r => pafter sh.sz.n sh.ms (d : Nat) (plists sh.sz.n sh.ms (d : Nat) ((sh.con[d]?).getD []) [] r)) 0 0) := .inr ⟨rfl, 0, rfl, Nat.zero_le _, by rw [hRR]; unfold pbody; rw [hxl]; rfl⟩
    clear hq hRR HO1 hxl
    have hbd : ∀ w : World, (Instr.build 92 #[(0, .string ⟨q.toArray⟩)]).run Try.prog w = .ok (.agg (scs q 0 0)) w := fun _ => by kernel_rfl
    replace H := Lib.hid (H.out.alloc #[.int .i64 0, .slice none 0 0, .int .i64 0, .int .i64 0, .int .i64 0, .int .i64 0, .int .i64 0, .int .i64 0, .int .i64 0, .int .i64 0, .int .i64 0, .int .i64 0, .int .i64 0, .int .i64 0] 34); (try simp only [List.set_cons_zero, List.set_cons_succ, List.cons_append, List.nil_append, List.eraseIdx_cons_zero, List.eraseIdx_cons_succ, List.setIfInBounds_toArray, World.size_alloc, selR, List.getD_cons_zero, List.getD_cons_succ] at H)
    go_upto_region 6 with fail
    (try simp only [Act.put, List.setIfInBounds_toArray, List.set_cons_zero, List.set_cons_succ])
    generalize w3.heap.size = g at *
    generalize World.alloc w3 _ = w4 at *
    go_upto_region 7 with (first | ((with_reducible show wpList _ _ _ (⟨some 48, _, _, _, _, _⟩ :: _) _ _); refine wpList_build1N rfl (.tmp 47) rfl rfl hbd ?_) | ((with_reducible show wpList _ _ _ (⟨_, .store _ (.tmp 13) _, _, _, _, _⟩ :: _) _ _); (refine wpList_store_new rfl rowScn (.tmp 13) (.tmp 48) rfl rfl rfl ((scs q 0 0)) rfl rfl (scs_one _ _ _) ?_; replace H := Lib.hid (H.out.alloc ((scs q 0 0)) 92); (try simp only [List.set_cons_zero, List.set_cons_succ, List.cons_append, List.nil_append, List.eraseIdx_cons_zero, List.eraseIdx_cons_succ, List.setIfInBounds_toArray, World.size_alloc, selR, List.getD_cons_zero, List.getD_cons_succ] at H))))
    (try simp only [Act.put, List.setIfInBounds_toArray, List.set_cons_zero, List.set_cons_succ])
    generalize w4.heap.size = r at *
    generalize World.alloc w4 _ = w5 at *
    clear hbd hex
    have cs0 : w5.cell? ⟨x, 0, none⟩ = some (.slice sh.sz.A sh.sz.n sh.sz.c) := (H.out.blk 0 rfl).cell 0
    have wz : IntKind.i64.wrap ((sh.sz.n : Int) - 1) = (sh.sz.n : Int) - 1 := IntWalk.i64_in _ (by omega)
    have HT := Lib.hid (fun w => rnumC_any q R _ 0 0 ((sh.sz.n : Int) - 1) w hql (by omega) (by omega) HP0.out)
    clear HP0
    go_wp2_with ((with_reducible show wpList _ _ _ (⟨some 50, _, _, _, _, _⟩ :: _) _ _); (refine wpList_load_blk rfl rowScn (.tmp 13) rfl _ rfl (H.out.blk 3 rfl) rfl ?_))
    refine (HT.out _).mono ?_; rintro e w6 ⟨t1, tk1, d, rfl, hb6, hdn, HP1, _⟩
    replace H := Lib.hid (H.out.bel hb6); (try simp only [List.set_cons_zero, List.set_cons_succ, List.cons_append, List.nil_append, List.eraseIdx_cons_zero, List.eraseIdx_cons_succ, List.setIfInBounds_toArray, World.size_alloc, selR, List.getD_cons_zero, List.getD_cons_succ] at H)
    clear hb6 HT cs0 wz
    have c0 := (H.out.blk 2 rfl).cell 0; simp only [List.getElem?_toArray, List.getElem?_cons_zero, List.getElem?_cons_succ] at c0; have f0 := (H.out.blk 2 rfl).frozen 0
    go_upto_region 8 with (((with_reducible show wpList _ _ _ (⟨_, .store _ (.tmp 13) _, _, _, _, _⟩ :: _) _ _); (refine wpList_store_blk rfl rowScn (.tmp 13) (.tmp 56) rfl _ rfl (H.out.blk 3 rfl) rfl ((scs q t1 tk1)) rfl rfl (scs_one _ _ _) ?_; intro wq bq hgq; replace H := Lib.hid (H.out.setBlk 3 rfl hgq bq); (try simp only [List.set_cons_zero, List.set_cons_succ, List.cons_append, List.nil_append, List.eraseIdx_cons_zero, List.eraseIdx_cons_succ, List.setIfInBounds_toArray, World.size_alloc, selR, List.getD_cons_zero, List.getD_cons_succ] at H); clear hgq bq; clear c0 f0; have c0 := (H.out.blk 2 rfl).cell 0; simp only [List.getElem?_toArray, List.getElem?_cons_zero, List.getElem?_cons_succ] at c0; have f0 := (H.out.blk 2 rfl).frozen 0)))
    replace H := Lib.hid (H.out.setCell 2 rfl 0 (.int .i64 (d : Nat))); (try simp only [List.set_cons_zero, List.set_cons_succ, List.cons_append, List.nil_append, List.eraseIdx_cons_zero, List.eraseIdx_cons_succ, List.setIfInBounds_toArray, World.size_alloc, selR, List.getD_cons_zero, List.getD_cons_succ] at H)
    clear c0 f0
    generalize World.setCell _ _ _ = w7 at *
    have hdlt : d < sh.sz.n := by omega
    obtain ⟨bz, oz, Z, hZA, hZk, hZok, hZc⟩ := (HSH.out w7 H.out.to).sz.slAt (k := d) hdlt
    obtain ⟨zt1, zt2, zt3⟩ := shape_tier HMM.out (HXS.out d Z hZk)
    have HZ3 := Lib.hid zt3
    have hZL : Z.l.length = Z.n := hZok.len
    have hZ10 : Z.n ≤ 10 := by omega
    have HZL := Lib.hid hZL
    have HP2 : Hid (Sat q R (fun rr => pafter sh.sz.n sh.ms (d : Nat) (plists sh.sz.n sh.ms (d : Nat) (Z.l.drop 0) (([] : List (Row Cl)).map Row.l) rr)) t1 tk1) := HP1.out.to fun rr => by rw [HXS.out d Z hZk]; rfl
    have HZR : Hid (∀ w', Bel w w' → Z.rd w') := fun w' hw => by
      have := (HSH.out w' hw).sz.all Z (List.mem_of_getElem? hZk)
      exact Row.ok.rds this
    clear HP1 hZok zt1 zt2 zt3 hZL
    have dz0 : (0 : Int) ≤ d := by omega
    have dz1 : (d : Int) < sh.sz.n := by omega
    have HD64 : I64 ((d : Nat) : Int) := by unfold I64; omega
    replace H := Lib.hid (H.out.addNil 44 1); (try simp only [List.set_cons_zero, List.set_cons_succ, List.cons_append, List.nil_append, List.eraseIdx_cons_zero, List.eraseIdx_cons_succ, List.setIfInBounds_toArray, World.size_alloc, selR, List.getD_cons_zero, List.getD_cons_succ] at H)
    replace H := Lib.hid (H.out.add (Bel.refl _) (rListD rCs []) (holds_listD_nil _ _) listD_nil_D); (try simp only [List.set_cons_zero, List.set_cons_succ, List.cons_append, List.nil_append, List.eraseIdx_cons_zero, List.eraseIdx_cons_succ, List.setIfInBounds_toArray, World.size_alloc, selR, List.getD_cons_zero, List.getD_cons_succ] at H)
    have cs0 : w7.cell? ⟨x, 0, none⟩ = some (.slice sh.sz.A sh.sz.n sh.sz.c) := (H.out.blk 0 rfl).cell 0
    have cd : w7.cell? ⟨g, 0, none⟩ = some (.int .i64 (d : Nat)) := (H.out.blk 2 rfl).cell 0
    rw [hZA] at cs0
    clear hZA hZk
    go_wp2_with fail
    clear cs0 cd hZc
    have HLB : Hid (tk1 = 0 → ∀ y ∈ ([] : List (Row Cl)), y.n ≤ 1000000 ∧ ∀ c ∈ y.l, c.ok) := fun _ y hy => by cases hy
    clear dz0 dz1 hdn hdlt
    generalize ((d : Nat) : Int) = dz at H HP2 HD64 ⊢
    go_loopg [66] Z.n (fun gg s66 wr => ∃ (k : Nat) (L : List (Row Cl)) (B : Option Addr) (e : Nat) (t tk : Int), gg = Z.n - k ∧ k ≤ Z.n ∧ s66 = .int .i64 k ∧ Hid (L.length = k) ∧ Hid (tk = 0 → ∀ y ∈ L, y.n ≤ 1000000 ∧ ∀ c ∈ y.l, c.ok) ∧ Hid (SL No w wr [rBlk x 24 sh.cs, rBlk y 34 Nd.nil.cs, rBlk g 34 (Nd.mk dz ⟨B, k, e, L⟩ .nil).cs, rBlk r 92 (scs q t tk), rRow 44 1 (.slice B k e) k (L.map Row.v), rListD rCs L]) ∧ Hid (Sat q R (fun rr => pafter sh.sz.n sh.ms dz (plists sh.sz.n sh.ms dz (Z.l.drop k) (L.map Row.l) rr)) t tk))
    case atStart => exact ⟨0, [], none, 0, t1, tk1, rfl, by omega, rfl, rfl, HLB, H, HP2⟩
    case round =>
      clear H HP2 HLB
      obtain ⟨k, L, B, e, t, tk, hgk, hk, rfl, HLk, HLB, H, HP⟩ := hrel
      have Hgk := Lib.hid hgk
      clear hgk
      by_cases hlt : k < Z.n
      · obtain ⟨bq, oq, z, hAl, hzk, hz64, hzc⟩ := (HZR.out _ H.out.to).intAt (k := k) hlt
        obtain ⟨hz0', hz200⟩ := HZ3.out k z hzk
        have hz0 : 0 ≤ z := by omega
        have hz1 : z ≤ 9223372036854775807 := by omega
        have HPZ : Hid (Sat q R (fun rr => pbind (pnum z rr) fun n rr => pafter sh.sz.n sh.ms dz (pbind (pcells sh.sz.n sh.ms dz z n (-1) [] rr) fun l rr => plists sh.sz.n sh.ms dz (Z.l.drop (k + 1)) (L.map Row.l ++ [l]) rr)) t tk) := HP.out.to fun rr => pafter_list hzk rr
        have HT := Lib.hid (fun w => rnumC_any q R _ t tk z w hql hz0 hz1 HPZ.out)
        have HAL := Lib.hid hAl
        have k0 : (0 : Int) ≤ k := by omega
        have k1 : (k : Int) < Z.n := by omega
        rw [hAl]
        clear HP HPZ hzk hAl hz0'
        go_wp2_with ((with_reducible show wpList _ _ _ (⟨some 71, _, _, _, _, _⟩ :: _) _ _); (refine wpList_load_blk rfl rowScn (.tmp 13) rfl _ rfl (H.out.blk 3 rfl) rfl ?_))
        clear hzc
        refine (HT.out _).mono ?_; rintro e' w2 ⟨t2, tk0, m, rfl, hb2, hm1, HP3, HST⟩
        replace H := Lib.hid (H.out.bel hb2); (try simp only [List.set_cons_zero, List.set_cons_succ, List.cons_append, List.nil_append, List.eraseIdx_cons_zero, List.eraseIdx_cons_succ, List.setIfInBounds_toArray, World.size_alloc, selR, List.getD_cons_zero, List.getD_cons_succ] at H)
        clear hb2 HT
        have HLB1 : Hid (tk0 = 0 → ∀ y ∈ L, y.n ≤ 1000000 ∧ ∀ c ∈ y.l, c.ok) := fun h => HLB.out (HST.out h)
        clear HLB HST
        have HLB := HLB1
        clear HLB1
        have hm200 : m ≤ 200 := by omega
        go_upto_region 12 with (((with_reducible show wpList _ _ _ (⟨_, .store _ (.tmp 16) _, _, _, _, _⟩ :: _) _ _); (refine wpList_store_new rfl rowScn (.tmp 16) (.tmp 74) rfl rfl rfl ((scs q t2 tk0)) rfl rfl (scs_one _ _ _) ?_; replace H := Lib.hid (H.out.alloc ((scs q t2 tk0)) 92); (try simp only [List.set_cons_zero, List.set_cons_succ, List.cons_append, List.nil_append, List.eraseIdx_cons_zero, List.eraseIdx_cons_succ, List.setIfInBounds_toArray, World.size_alloc, selR, List.getD_cons_zero, List.getD_cons_succ] at H))))
        (try simp only [Act.put, List.setIfInBounds_toArray, List.set_cons_zero, List.set_cons_succ])
        generalize w2.heap.size = rq at *
        generalize World.alloc w2 _ = w8 at *
        go_upto_region 13 with (first | ((with_reducible show wpList _ _ _ (⟨some 76, _, _, _, _, _⟩ :: _) _ _); (refine wpList_load_blk rfl rowScn (.tmp 16) rfl _ rfl (H.out.blk 6 rfl) rfl ?_)) | ((with_reducible show wpList _ _ _ (⟨_, .store _ (.tmp 13) _, _, _, _, _⟩ :: _) _ _); (refine wpList_store_blk rfl rowScn (.tmp 13) (.tmp 76) rfl _ rfl (H.out.blk 3 rfl) rfl ((scs q t2 tk0)) rfl rfl (scs_one _ _ _) ?_; intro wq bq hgq; replace H := Lib.hid (H.out.setBlk 3 rfl hgq bq); (try simp only [List.set_cons_zero, List.set_cons_succ, List.cons_append, List.nil_append, List.eraseIdx_cons_zero, List.eraseIdx_cons_succ, List.setIfInBounds_toArray, World.size_alloc, selR, List.getD_cons_zero, List.getD_cons_succ] at H); clear hgq bq)))
        replace H := Lib.hid (H.out.sel [0, 1, 2, 3, 4, 5] (by decide) (by simp)); (try simp only [List.set_cons_zero, List.set_cons_succ, List.cons_append, List.nil_append, List.eraseIdx_cons_zero, List.eraseIdx_cons_succ, List.setIfInBounds_toArray, World.size_alloc, selR, List.getD_cons_zero, List.getD_cons_succ] at H)
        replace H := Lib.hid (H.out.addNil 32 12); (try simp only [List.set_cons_zero, List.set_cons_succ, List.cons_append, List.nil_append, List.eraseIdx_cons_zero, List.eraseIdx_cons_succ, List.setIfInBounds_toArray, World.size_alloc, selR, List.getD_cons_zero, List.getD_cons_succ] at H)
        go_wp2_with fail
        have HO : Hid (tk0 = 0 → ∀ c ∈ ([] : List Cl), c.ok) := fun _ c hc => by cases hc
        have HK0 : Hid (tk0 = 0 → tk0 = 0) := fun h => h
        have hw1 : I64 (-1) := by unfold I64; omega
        have HP4 : Hid (Sat q R (fun rr => pafter sh.sz.n sh.ms dz (pbind (pcells sh.sz.n sh.ms dz z (m - 0) (-1) [] rr) fun l rr => plists sh.sz.n sh.ms dz (Z.l.drop (k + 1)) (L.map Row.l ++ [l]) rr)) t2 tk0) := HP3
        clear HP3
        obtain ⟨W0, hW0⟩ : ∃ W0, W0 = wr := ⟨_, rfl⟩
        subst hW0
        go_loopg [18, 19, 20] m (fun gg s18 s19 s20 wr => ∃ (j : Nat) (was : Int) (acc : List Cl) (A : Option Addr) (c : Nat) (t tk : Int), gg = m - j ∧ j ≤ m ∧ s18 = .slice A j c ∧ s19 = .int .i64 was ∧ s20 = .int .i64 j ∧ Hid (acc.length = j) ∧ I64 was ∧ Hid (tk = 0 → ∀ c ∈ acc, c.ok) ∧ Hid (tk = 0 → tk0 = 0) ∧ Hid (SL No w wr [rBlk x 24 sh.cs, rBlk y 34 Nd.nil.cs, rBlk g 34 (Nd.mk dz ⟨B, k, e, L⟩ .nil).cs, rBlk r 92 (scs q t tk), rRow 44 1 (.slice B k e) k (L.map Row.v), rListD rCs L, rRow 32 12 (.slice A j c) j (acc.flatMap Cel.cells)]) ∧ Hid (Sat q R (fun rr => pafter sh.sz.n sh.ms dz (pbind (pcells sh.sz.n sh.ms dz z (m - j) was acc rr) fun l rr => plists sh.sz.n sh.ms dz (Z.l.drop (k + 1)) (L.map Row.l ++ [l]) rr)) t tk))
        case atStart => exact ⟨0, -1, [], none, 0, t2, tk0, rfl, by omega, rfl, rfl, rfl, rfl, hw1, HO, HK0, H, HP4⟩
        case round =>
          clear H HP4 HO hw1 HK0
          obtain ⟨j, was, acc, A, c, t, tk, hgj, hj, rfl, rfl, rfl, HAC, hwas, HO, HK0, H, HP⟩ := hrel
          have Hgj := Lib.hid hgj
          clear hgj
          by_cases hjm : j < m
          · by_cases htk : tk = 0
            · subst htk
              replace HO := Lib.hid (HO.out rfl)
              replace HK0 := Lib.hid (HK0.out rfl)
              have HP2 : Hid (Sat q R (fun rr => pbind (pnum z rr) fun gp rr => pbind (pcell sh.sz.n sh.ms dz (keyAt was gp) rr) fun cc rr => pafter sh.sz.n sh.ms dz (pbind (pcells sh.sz.n sh.ms dz z (m - (j + 1)) (keyAt was gp) (acc ++ [cc]) rr) fun l rr => plists sh.sz.n sh.ms dz (Z.l.drop (k + 1)) (L.map Row.l ++ [l]) rr)) t 0) := HP.out.to fun rr => pafter_cell hjm was acc _ rr
              have HT := Lib.hid (fun w => rnumC_any q R _ t 0 z w hql hz0 hz1 HP2.out)
              clear HP HP2
              have ck : wr.cell? ⟨r, 2, none⟩ = some (.int .i64 0) := (H.out.blk 3 rfl).cell 2
              go_wp2_with ((with_reducible show wpList _ _ _ (⟨some 88, _, _, _, _, _⟩ :: _) _ _); (refine wpList_load_blk rfl rowScn (.tmp 13) rfl _ rfl (H.out.blk 3 rfl) rfl ?_))
              clear ck
              refine (HT.out _).mono ?_; rintro e' w4 ⟨t2, k2, gp, rfl, hb4, hgp, HS2, _⟩
              replace H := Lib.hid (H.out.bel hb4); (try simp only [List.set_cons_zero, List.set_cons_succ, List.cons_append, List.nil_append, List.eraseIdx_cons_zero, List.eraseIdx_cons_succ, List.setIfInBounds_toArray, World.size_alloc, selR, List.getD_cons_zero, List.getD_cons_succ] at H)
              clear hb4 HT
              obtain ⟨key, hkey⟩ : ∃ key, key = keyAt was ((gp : Nat) : Int) := ⟨_, rfl⟩
              have HK64 : I64 key := by rw [hkey]; exact i64_wrap _
              obtain ⟨u, hu⟩ : ∃ u, u = IntKind.i64.wrap (was + 1) := ⟨_, rfl⟩
              have wu : IntKind.i64.wrap (was + 1) = u := hu.symm
              have wk2 : IntKind.i64.wrap (u + ((gp : Nat) : Int)) = key := by rw [hkey, hu]; unfold keyAt; rw [IntWalk.i64_left, IntWalk.i64_left]
              rw [← hkey] at HS2
              clear hu hkey
              go_upto_region 20 with (((with_reducible show wpList _ _ _ (⟨_, .store _ (.tmp 21) _, _, _, _, _⟩ :: _) _ _); (refine wpList_store_new rfl rowScn (.tmp 21) (.tmp 91) rfl rfl rfl ((scs q t2 k2)) rfl rfl (scs_one _ _ _) ?_; replace H := Lib.hid (H.out.alloc ((scs q t2 k2)) 92); (try simp only [List.set_cons_zero, List.set_cons_succ, List.cons_append, List.nil_append, List.eraseIdx_cons_zero, List.eraseIdx_cons_succ, List.setIfInBounds_toArray, World.size_alloc, selR, List.getD_cons_zero, List.getD_cons_succ] at H))))
              (try simp only [Act.put, List.setIfInBounds_toArray, List.set_cons_zero, List.set_cons_succ])
              clear wu wk2
              generalize w4.heap.size = qb at *
              generalize World.alloc w4 _ = w5 at *
              have HC := Lib.hid (rcread_any q R _ t2 k2 sh dz key w5 hql (HSH.out _ H.out.to) HD64 HK64 HS2.out)
              clear HS2
              have cd : w5.cell? ⟨g, 0, none⟩ = some (.int .i64 dz) := (H.out.blk 2 rfl).cell 0
              go_wp2_with (first | ((with_reducible show wpList _ _ _ (⟨some 98, _, _, _, _, _⟩ :: _) _ _); (refine wpList_load_blk rfl rowScn (.tmp 21) rfl _ rfl (H.out.blk 7 rfl) rfl ?_)) | ((with_reducible show wpList _ _ _ (⟨some 99, _, _, _, _, _⟩ :: _) _ _); (refine wpList_load_blk rfl rowShp2 (.tmp 2) rfl _ rfl (H.out.blk 0 rfl) rfl ?_)))
              clear cd
              refine HC.out.mono ?_; rintro e' w6 ⟨t3, k3, cc, rfl, hb6, HS3, HOK, _⟩
              replace H := Lib.hid (H.out.bel hb6); (try simp only [List.set_cons_zero, List.set_cons_succ, List.cons_append, List.nil_append, List.eraseIdx_cons_zero, List.eraseIdx_cons_succ, List.setIfInBounds_toArray, World.size_alloc, selR, List.getD_cons_zero, List.getD_cons_succ] at H)
              clear hb6 HC
              replace H := Lib.hid (H.out.alloc #[.int .i64 0, .int .i64 0, .int .i64 0, .int .i64 0, .int .i64 0, .int .i64 0, .int .i64 0, .int .i64 0, .int .i64 0, .int .i64 0, .int .i64 0, .int .i64 0] 32); (try simp only [List.set_cons_zero, List.set_cons_succ, List.cons_append, List.nil_append, List.eraseIdx_cons_zero, List.eraseIdx_cons_succ, List.setIfInBounds_toArray, World.size_alloc, selR, List.getD_cons_zero, List.getD_cons_succ] at H)
              go_upto_region 21 with (first | ((with_reducible show wpList _ _ _ (⟨_, .store _ (.tmp 21) _, _, _, _, _⟩ :: _) _ _); (refine wpList_store_blk rfl rowScn (.tmp 21) (.tmp 104) rfl _ rfl (H.out.blk 7 rfl) rfl ((scs q t3 k3)) rfl rfl (scs_one _ _ _) ?_; intro wq bq hgq; replace H := Lib.hid (H.out.setBlk 7 rfl hgq bq); (try simp only [List.set_cons_zero, List.set_cons_succ, List.cons_append, List.nil_append, List.eraseIdx_cons_zero, List.eraseIdx_cons_succ, List.setIfInBounds_toArray, World.size_alloc, selR, List.getD_cons_zero, List.getD_cons_succ] at H); clear hgq bq)) | ((with_reducible show wpList _ _ _ (⟨_, .store _ (.tmp 23) _, _, _, _, _⟩ :: _) _ _); (refine wpList_store_blk rfl rowCl (.tmp 23) (.tmp 105) rfl _ rfl (H.out.blk 8 rfl) rfl (cc.cs) rfl rfl (cl_one cc) ?_; intro wq bq hgq; replace H := Lib.hid (H.out.setBlk 8 rfl hgq bq); (try simp only [List.set_cons_zero, List.set_cons_succ, List.cons_append, List.nil_append, List.eraseIdx_cons_zero, List.eraseIdx_cons_succ, List.setIfInBounds_toArray, World.size_alloc, selR, List.getD_cons_zero, List.getD_cons_succ] at H); clear hgq bq)))
              go_wp2_with (first | ((with_reducible show wpList _ _ _ (⟨some 106, _, _, _, _, _⟩ :: _) _ _); (refine wpList_load_blk rfl rowScn (.tmp 21) rfl _ rfl (H.out.blk 7 rfl) rfl ?_)) | ((with_reducible show wpList _ _ _ (⟨_, .store _ (.tmp 13) _, _, _, _, _⟩ :: _) _ _); (refine wpList_store_blk rfl rowScn (.tmp 13) (.tmp 106) rfl _ rfl (H.out.blk 3 rfl) rfl ((scs q t3 k3)) rfl rfl (scs_one _ _ _) ?_; intro wq bq hgq; replace H := Lib.hid (H.out.setBlk 3 rfl hgq bq); (try simp only [List.set_cons_zero, List.set_cons_succ, List.cons_append, List.nil_append, List.eraseIdx_cons_zero, List.eraseIdx_cons_succ, List.setIfInBounds_toArray, World.size_alloc, selR, List.getD_cons_zero, List.getD_cons_succ] at H); clear hgq bq)) | ((with_reducible show wpList _ _ _ (⟨some 108, _, _, _, _, _⟩ :: _) _ _); (refine wpList_load_blk rfl rowCl (.tmp 23) rfl _ rfl (H.out.blk 8 rfl) rfl ?_)) | ((with_reducible show wpList _ _ _ (⟨some 109, _, _, _, _, _⟩ :: _) _ _); (refine wpList_buildSlice1 rfl E_cl (.tmp 108) rfl (cc.cs) rfl rfl (by omega) ?_; replace H := Lib.hid (H.out.addRow ((Bel.refl _).alloc _) (own_made _ 32 (cc.cs) _ rfl)); (try simp only [List.set_cons_zero, List.set_cons_succ, List.cons_append, List.nil_append, List.eraseIdx_cons_zero, List.eraseIdx_cons_succ, List.setIfInBounds_toArray, World.size_alloc, selR, List.getD_cons_zero, List.getD_cons_succ] at H))) | ((with_reducible show wpList _ _ _ (⟨some 110, _, _, _, _, _⟩ :: _) _ _); (refine wpList_append0 rfl (.tmp 107) (.tmp 109) _ rfl E_cl 0 (Nat.zero_le _) _ j _ rfl (H.out.row 6 rfl) _ 1 1 _ rfl (Rd.of_own (H.out.row 9 rfl)) (cl1_one cc) (by unfold maxLen; omega) (by omega) ?_; intro vq wq howq hgq hatq; replace H := Lib.hid (H.out.setRow 6 rfl hgq howq hatq); (try simp only [List.set_cons_zero, List.set_cons_succ, List.cons_append, List.nil_append, List.eraseIdx_cons_zero, List.eraseIdx_cons_succ, List.setIfInBounds_toArray, World.size_alloc, selR, List.getD_cons_zero, List.getD_cons_succ] at H); clear howq hgq hatq; obtain ⟨A2, c2, rfl, _⟩ := own_slice (H.out.row 6 rfl))))
              replace H := Lib.hid (H.out.sel [0, 1, 2, 3, 4, 5, 6] (by decide) (by simp)); (try simp only [List.set_cons_zero, List.set_cons_succ, List.cons_append, List.nil_append, List.eraseIdx_cons_zero, List.eraseIdx_cons_succ, List.setIfInBounds_toArray, World.size_alloc, selR, List.getD_cons_zero, List.getD_cons_succ] at H)
              have HO2 : Hid (k3 = 0 → ∀ c ∈ acc ++ [cc], c.ok) := fun h3 c hc => by
                rcases List.mem_append.1 hc with h | h
                · exact HO.out c h
                · rw [List.mem_singleton] at h; subst h; exact HOK.out h3
              have HK02 : Hid (k3 = 0 → tk0 = 0) := fun _ => HK0.out
              go_wp2_with fail
              go_roundg (m - (j + 1))
              case rel => exact ⟨j + 1, key, acc ++ [cc], A2, c2, t3, k3, rfl, by omega, rfl, rfl, by go_num, by show _ = _; rw [List.length_append, HAC.out]; rfl, HK64, HO2, HK02, by rw [List.flatMap_append, List.flatMap_cons, List.flatMap_nil, List.append_nil]; exact H, HS3⟩
              case measure => rw [Hgj.out]; omega
            · have HP5 : Hid (Sat q R (fun rr => pafter sh.sz.n sh.ms dz (plists sh.sz.n sh.ms dz (Z.l.drop (k + 1)) (L.map Row.l ++ [acc]) rr)) t tk) := HP.out.bad _ htk
              have ck : wr.cell? ⟨r, 2, none⟩ = some (.int .i64 tk) := (H.out.blk 3 rfl).cell 2
              have dtk : (tk == 0) = false := by simpa using htk
              clear HP htk
              have c1 := (H.out.blk 2 rfl).cell 1; simp only [List.getElem?_toArray, List.getElem?_cons_zero, List.getElem?_cons_succ] at c1
              go_wp2_with ((with_reducible show wpList _ _ _ (⟨some 115, _, _, _, _, _⟩ :: _) _ _); (replace H := Lib.hid (H.out.alloc #[.slice A j c] 44); (try simp only [List.set_cons_zero, List.set_cons_succ, List.cons_append, List.nil_append, List.eraseIdx_cons_zero, List.eraseIdx_cons_succ, List.setIfInBounds_toArray, World.size_alloc, selR, List.getD_cons_zero, List.getD_cons_succ] at H); refine wpList_append0 rfl (.tmp 112) (.tmp 114) _ rfl E_cls 0 (Nat.zero_le _) _ k _ rfl (H.out.row 4 rfl) _ 1 1 [.slice A j c] rfl (reads_of_block (H.out.blk 7 rfl) rfl) (by simp [Value.oneCell']) (by unfold maxLen; omega) (by omega) ?_; intro vq wq howq hgq hatq; replace H := Lib.hid (H.out.setRow 4 rfl hgq howq hatq); (try simp only [List.set_cons_zero, List.set_cons_succ, List.cons_append, List.nil_append, List.eraseIdx_cons_zero, List.eraseIdx_cons_succ, List.setIfInBounds_toArray, World.size_alloc, selR, List.getD_cons_zero, List.getD_cons_succ] at H); clear howq hgq hatq; obtain ⟨B2, e2, rfl, _⟩ := own_slice (H.out.row 4 rfl); clear c1; have c1 := (H.out.blk 2 rfl).cell 1; simp only [List.getElem?_toArray, List.getElem?_cons_zero, List.getElem?_cons_succ] at c1; have f1 := (H.out.blk 2 rfl).frozen 1))
              replace H := Lib.hid (H.out.setCell 2 rfl 1 (.slice B2 (k + 1) e2)); (try simp only [List.set_cons_zero, List.set_cons_succ, List.cons_append, List.nil_append, List.eraseIdx_cons_zero, List.eraseIdx_cons_succ, List.setIfInBounds_toArray, World.size_alloc, selR, List.getD_cons_zero, List.getD_cons_succ] at H)
              clear c1 f1
              replace H := Lib.hid (H.out.snocD 5 6 (a := ⟨A, j, c, acc⟩) (by omega) rfl rfl); (try simp only [List.set_cons_zero, List.set_cons_succ, List.cons_append, List.nil_append, List.eraseIdx_cons_zero, List.eraseIdx_cons_succ, List.setIfInBounds_toArray, World.size_alloc, selR, List.getD_cons_zero, List.getD_cons_succ] at H)
              replace H := Lib.hid (H.out.sel [0, 1, 2, 3, 4, 5] (by decide) (by simp)); (try simp only [List.set_cons_zero, List.set_cons_succ, List.cons_append, List.nil_append, List.eraseIdx_cons_zero, List.eraseIdx_cons_succ, List.setIfInBounds_toArray, World.size_alloc, selR, List.getD_cons_zero, List.getD_cons_succ] at H)
              have HLB2 : Hid (tk = 0 → ∀ y ∈ L ++ [Row.mk A j c acc], y.n ≤ 1000000 ∧ ∀ c ∈ y.l, c.ok) := fun ht y hy => by
                rcases List.mem_append.1 hy with h | h
                · exact HLB.out (HK0.out ht) y h
                · rw [List.mem_singleton] at h; subst h; exact ⟨by show j ≤ _; omega, HO.out ht⟩
              clear HO HLB
              rw [← HAL.out]
              go_roundg (Z.n - (k + 1))
              case rel => exact ⟨k + 1, L ++ [Row.mk A j c acc], B2, e2, t, tk, rfl, by omega, by go_num, by show _ = _; rw [List.length_append, HLk.out]; rfl, HLB2, by rw [List.map_append]; exact H, by rw [List.map_append]; exact HP5⟩
              case measure => rw [Hgk.out]; omega
          · have hjm2 : j = m := by omega
            have HP5 : Hid (Sat q R (fun rr => pafter sh.sz.n sh.ms dz (plists sh.sz.n sh.ms dz (Z.l.drop (k + 1)) (L.map Row.l ++ [acc]) rr)) t tk) := HP.out.to fun rr => by rw [hjm2]; exact pcells_none2 _ rr
            clear HP hjm2
            have c1 := (H.out.blk 2 rfl).cell 1; simp only [List.getElem?_toArray, List.getElem?_cons_zero, List.getElem?_cons_succ] at c1
            go_wp2_with ((with_reducible show wpList _ _ _ (⟨some 115, _, _, _, _, _⟩ :: _) _ _); (replace H := Lib.hid (H.out.alloc #[.slice A j c] 44); (try simp only [List.set_cons_zero, List.set_cons_succ, List.cons_append, List.nil_append, List.eraseIdx_cons_zero, List.eraseIdx_cons_succ, List.setIfInBounds_toArray, World.size_alloc, selR, List.getD_cons_zero, List.getD_cons_succ] at H); refine wpList_append0 rfl (.tmp 112) (.tmp 114) _ rfl E_cls 0 (Nat.zero_le _) _ k _ rfl (H.out.row 4 rfl) _ 1 1 [.slice A j c] rfl (reads_of_block (H.out.blk 7 rfl) rfl) (by simp [Value.oneCell']) (by unfold maxLen; omega) (by omega) ?_; intro vq wq howq hgq hatq; replace H := Lib.hid (H.out.setRow 4 rfl hgq howq hatq); (try simp only [List.set_cons_zero, List.set_cons_succ, List.cons_append, List.nil_append, List.eraseIdx_cons_zero, List.eraseIdx_cons_succ, List.setIfInBounds_toArray, World.size_alloc, selR, List.getD_cons_zero, List.getD_cons_succ] at H); clear howq hgq hatq; obtain ⟨B2, e2, rfl, _⟩ := own_slice (H.out.row 4 rfl); clear c1; have c1 := (H.out.blk 2 rfl).cell 1; simp only [List.getElem?_toArray, List.getElem?_cons_zero, List.getElem?_cons_succ] at c1; have f1 := (H.out.blk 2 rfl).frozen 1))
            replace H := Lib.hid (H.out.setCell 2 rfl 1 (.slice B2 (k + 1) e2)); (try simp only [List.set_cons_zero, List.set_cons_succ, List.cons_append, List.nil_append, List.eraseIdx_cons_zero, List.eraseIdx_cons_succ, List.setIfInBounds_toArray, World.size_alloc, selR, List.getD_cons_zero, List.getD_cons_succ] at H)
            clear c1 f1
            replace H := Lib.hid (H.out.snocD 5 6 (a := ⟨A, j, c, acc⟩) (by omega) rfl rfl); (try simp only [List.set_cons_zero, List.set_cons_succ, List.cons_append, List.nil_append, List.eraseIdx_cons_zero, List.eraseIdx_cons_succ, List.setIfInBounds_toArray, World.size_alloc, selR, List.getD_cons_zero, List.getD_cons_succ] at H)
            replace H := Lib.hid (H.out.sel [0, 1, 2, 3, 4, 5] (by decide) (by simp)); (try simp only [List.set_cons_zero, List.set_cons_succ, List.cons_append, List.nil_append, List.eraseIdx_cons_zero, List.eraseIdx_cons_succ, List.setIfInBounds_toArray, World.size_alloc, selR, List.getD_cons_zero, List.getD_cons_succ] at H)
            have HLB2 : Hid (tk = 0 → ∀ y ∈ L ++ [Row.mk A j c acc], y.n ≤ 1000000 ∧ ∀ c ∈ y.l, c.ok) := fun ht y hy => by
              rcases List.mem_append.1 hy with h | h
              · exact HLB.out (HK0.out ht) y h
              · rw [List.mem_singleton] at h; subst h; exact ⟨by show j ≤ _; omega, HO.out ht⟩
            clear HO HLB
            rw [← HAL.out]
            go_roundg (Z.n - (k + 1))
            case rel => exact ⟨k + 1, L ++ [Row.mk A j c acc], B2, e2, t, tk, rfl, by omega, by go_num, by show _ = _; rw [List.length_append, HLk.out]; rfl, HLB2, by rw [List.map_append]; exact H, by rw [List.map_append]; exact HP5⟩
            case measure => rw [Hgk.out]; omega
      · obtain rfl : k = Z.n := by omega
        have HP2 : Hid (Sat q R (fun rr => pbind (pcell sh.sz.n sh.ms dz 0 rr) fun c rr => .ok (⟨dz, L.map Row.l, c⟩, rr)) t tk) := HP.out.to fun rr => pafter_all HZL.out rr
        clear HP
        have HT := Lib.hid (rcread_any q R _ t tk sh dz 0 wr hql (HSH.out _ H.out.to) HD64 z_i64 HP2.out)
        clear HP2
        have cd : wr.cell? ⟨g, 0, none⟩ = some (.int .i64 dz) := (H.out.blk 2 rfl).cell 0
        go_wp2_with (first | ((with_reducible show wpList _ _ _ (⟨some 119, _, _, _, _, _⟩ :: _) _ _); (refine wpList_load_blk rfl rowScn (.tmp 13) rfl _ rfl (H.out.blk 3 rfl) rfl ?_)) | ((with_reducible show wpList _ _ _ (⟨some 120, _, _, _, _, _⟩ :: _) _ _); (refine wpList_load_blk rfl rowShp2 (.tmp 2) rfl _ rfl (H.out.blk 0 rfl) rfl ?_)))
        clear cd
        refine HT.out.mono ?_; rintro e' w5 ⟨t3, k3, cc, rfl, hb5, HS3, HOK, HST⟩
        replace H := Lib.hid (H.out.bel hb5); (try simp only [List.set_cons_zero, List.set_cons_succ, List.cons_append, List.nil_append, List.eraseIdx_cons_zero, List.eraseIdx_cons_succ, List.setIfInBounds_toArray, World.size_alloc, selR, List.getD_cons_zero, List.getD_cons_succ] at H)
        clear hb5 HT
        have HTK : Hid (k3 = 0 → ∃ tn : Nat, t3 = tn ∧ tn ≤ q.length ∧ R = .ok (⟨dz, L.map Row.l, cc⟩, q.drop tn)) := fun h => HS3.out.elim (fun h2 => absurd h h2.1) fun h2 => h2.2
        have HBD : Hid (k3 ≠ 0 → ∃ e, R = .error e) := fun h => HS3.out.elim (fun h2 => h2.2) fun h2 => absurd h2.1 h
        have HLB3 : Hid (k3 = 0 → ∀ y ∈ L, y.n ≤ 1000000 ∧ ∀ c ∈ y.l, c.ok) := fun h => HLB.out (HST.out h)
        go_upto_region 26 with (first | ((with_reducible show wpList _ _ _ (⟨_, .store _ (.tmp 13) _, _, _, _, _⟩ :: _) _ _); (refine wpList_store_blk rfl rowScn (.tmp 13) (.tmp 124) rfl _ rfl (H.out.blk 3 rfl) rfl ((scs q t3 k3)) rfl rfl (scs_one _ _ _) ?_; intro wq bq hgq; replace H := Lib.hid (H.out.setBlk 3 rfl hgq bq); (try simp only [List.set_cons_zero, List.set_cons_succ, List.cons_append, List.nil_append, List.eraseIdx_cons_zero, List.eraseIdx_cons_succ, List.setIfInBounds_toArray, World.size_alloc, selR, List.getD_cons_zero, List.getD_cons_succ] at H); clear hgq bq)) | ((with_reducible show wpList _ _ _ (⟨_, .store _ (.tmp 126) _, _, _, _, _⟩ :: _) _ _); refine wpList_store_at rfl rowCl (.tmp 126) (.tmp 125) rfl g 2 rfl (H.out.blk 2 rfl) cc.cs rfl (by simp) rfl (cl_one cc) ?_; intro wq bq hgq; replace bq : Blk wq g 34 (Nd.mk dz ⟨B, Z.n, e, L⟩ cc).cs := (by rw [← setAll_ndA (Nd.mk dz ⟨B, Z.n, e, L⟩ .nil) cc]; exact bq); replace H := Lib.hid (H.out.setBlk 2 rfl hgq bq); (try simp only [List.set_cons_zero, List.set_cons_succ, List.cons_append, List.nil_append, List.eraseIdx_cons_zero, List.eraseIdx_cons_succ, List.setIfInBounds_toArray, World.size_alloc, selR, List.getD_cons_zero, List.getD_cons_succ] at H); clear hgq bq))
        obtain ⟨E0, hE⟩ : ∃ E0, E0 = endOf q t3 k3 := ⟨_, rfl⟩
        have HE0 : Hid (E0 = 0 → k3 = 0 ∧ R = .ok (⟨dz, L.map Row.l, cc⟩, [])) := fun h => by
          rw [hE] at h
          unfold endOf at h
          by_cases hk : k3 = 0
          · obtain ⟨tn, ht, htn, hR⟩ := HTK.out hk
            rw [if_neg (by omega)] at h
            by_cases htl : t3 = (q.length : Int)
            · rw [hR, List.drop_eq_nil_of_le (by omega)]; exact ⟨hk, rfl⟩
            · rw [if_neg htl] at h; omega
          · rw [if_pos hk] at h; exact absurd h hk
        have HE1 : Hid (E0 ≠ 0 → O = none) := fun h => by
          rw [hE] at h
          unfold endOf at h
          rw [HO2.out]
          by_cases hk : k3 = 0
          · obtain ⟨tn, ht, htn, hR⟩ := HTK.out hk
            rw [if_neg (by omega)] at h
            rw [hR]
            unfold nodeOf
            simp only
            refine if_neg fun h1 => h (if_pos ?_)
            have := congrArg List.length h1.1
            rw [List.length_drop, List.length_nil] at this
            omega
          · obtain ⟨e, he⟩ := HBD.out hk
            rw [he]
            rfl
        have HEND := Lib.hid (fun w => rend_any q t3 k3 w)
        rw [← hE] at HEND
        clear hE HTK HBD HS3
        go_wp2_with ((with_reducible show wpList _ _ _ (⟨some 127, _, _, _, _, _⟩ :: _) _ _); (refine wpList_load_blk rfl rowScn (.tmp 13) rfl _ rfl (H.out.blk 3 rfl) rfl ?_))
        refine (HEND.out _).mono ?_; rintro e' w7 ⟨rfl, hb7⟩
        replace H := Lib.hid (H.out.bel hb7); (try simp only [List.set_cons_zero, List.set_cons_succ, List.cons_append, List.nil_append, List.eraseIdx_cons_zero, List.eraseIdx_cons_succ, List.setIfInBounds_toArray, World.size_alloc, selR, List.getD_cons_zero, List.getD_cons_succ] at H)
        clear hb7 HEND
        by_cases hE0 : E0 = 0
        · subst hE0
          obtain ⟨hk3, hRR⟩ := HE0.out rfl
          have HR2 := Lib.hid hRR
          obtain ⟨D, hD⟩ : ∃ D : Nd, D = (Nd.mk dz ⟨B, Z.n, e, L⟩ cc) := ⟨_, rfl⟩
          replace H := Lib.hid (H.out.mkNd 4 5 (n := (Nd.mk dz ⟨B, Z.n, e, L⟩ cc)) (by omega) rfl rfl ⟨HD64, HOK.out hk3⟩ (HLB3.out hk3) (by show Z.n ≤ _; omega)); (try simp only [List.set_cons_zero, List.set_cons_succ, List.cons_append, List.nil_append, List.eraseIdx_cons_zero, List.eraseIdx_cons_succ, List.setIfInBounds_toArray, World.size_alloc, selR, List.getD_cons_zero, List.getD_cons_succ] at H)
          rw [← hD] at H
          obtain ⟨E, hE⟩ : ∃ E, E = nodeErr sh.con sh.ms D.con := ⟨_, rfl⟩
          have HV0 : Hid (O = if E = 0 then some (D.con, zs) else none) := by
            show _ = _
            rw [HO2.out, HR2.out, hE, hD]
            unfold nodeOf
            simp only
            by_cases h : nodeErr sh.con sh.ms (Nd.mk dz ⟨B, Z.n, e, L⟩ cc).con = 0
            · rw [if_pos h, if_pos ⟨trivial, h⟩]
            · rw [if_neg h, if_neg (fun h2 => h h2.2)]
          have HC := rwrong24_any sh D w7 (HSH.out _ H.out.to) (nd_of_own (H.out.get 4 rfl))
          rw [← hE] at HC
          have HC := Lib.hid HC
          clear hRR hD hE HE0 HE1 hk3 HO2 HR2 HLB3 HOK HST
          go_wp2_with (first | ((with_reducible show wpList _ _ _ (⟨some 131, _, _, _, _, _⟩ :: _) _ _); refine wpList_load_blkG (by first | rfl | go_simp) rowShp2 (.tmp 2) (by rfl) _ (by rfl) (H.out.blk 0 rfl) rfl ?_) | ((with_reducible show wpList _ _ _ (⟨some 132, _, _, _, _, _⟩ :: _) _ _); refine wpList_load_blkG (by first | rfl | go_simp) rowNd (.tmp 12) (by rfl) _ (by rfl) (H.out.blk 2 rfl) rfl ?_))
          refine HC.out.mono ?_; rintro e' w8 ⟨rfl, hb8⟩
          replace H := Lib.hid (H.out.bel hb8); (try simp only [List.set_cons_zero, List.set_cons_succ, List.cons_append, List.nil_append, List.eraseIdx_cons_zero, List.eraseIdx_cons_succ, List.setIfInBounds_toArray, World.size_alloc, selR, List.getD_cons_zero, List.getD_cons_succ] at H)
          clear hb8 HC
          by_cases hEE : E = 0
          · subst hEE
            have HV : Hid (O = some (D.con, zs)) := by show _ = _; rw [HV0.out, if_pos rfl]
            clear HV0
            go_wp2_with (first | ((with_reducible show wpList _ _ _ (⟨some 137, _, _, _, _, _⟩ :: _) _ _); (refine wpList_load_blk rfl rowNd (.tmp 12) rfl _ rfl (H.out.blk 2 rfl) rfl ?_)) | ((with_reducible show wpList _ _ _ (⟨_, .store _ (.tmp 4) _, _, _, _, _⟩ :: _) _ _); (refine wpList_store_blk rfl rowNd (.tmp 4) (.tmp 137) rfl _ rfl (H.out.blk 1 rfl) rfl (D.cs) rfl rfl (nd_one D) ?_; intro wq bq hgq; replace H := Lib.hid (H.out.setBlk 1 rfl hgq bq); (try simp only [List.set_cons_zero, List.set_cons_succ, List.cons_append, List.nil_append, List.eraseIdx_cons_zero, List.eraseIdx_cons_succ, List.setIfInBounds_toArray, World.size_alloc, selR, List.getD_cons_zero, List.getD_cons_succ] at H); clear hgq bq)))
            refine bodyPost_ret (results_blk3 rfl rowNd rfl (H.out.blk 1 rfl) rfl) rfl ?_
            rw [HV.out]
            exact ⟨D, rfl, rfl, H.out.to, H.out.get 4 rfl, H.out.new 4 rfl⟩
          · have HV : Hid (O = none) := by show _ = _; rw [HV0.out, if_neg hEE]
            have dk : (E == 0) = false := by simpa using hEE
            have dk2 : (E != 0) = true := by simpa using hEE
            clear HV0
            go_wp2_with (first | ((with_reducible show wpList _ _ _ (⟨some 136, _, _, _, _, _⟩ :: _) _ _); refine wpList_build0N rfl rfl hb0 ?_) | ((with_reducible show wpList _ _ _ (⟨_, .store _ (.tmp 4) _, _, _, _, _⟩ :: _) _ _); (refine wpList_store_blk rfl rowNd (.tmp 4) (.tmp 136) rfl _ rfl (H.out.blk 1 rfl) rfl (Nd.nil.cs) rfl rfl (nd_one _) ?_; intro wq bq hgq; replace H := Lib.hid (H.out.setBlk 1 rfl hgq bq); (try simp only [List.set_cons_zero, List.set_cons_succ, List.cons_append, List.nil_append, List.eraseIdx_cons_zero, List.eraseIdx_cons_succ, List.setIfInBounds_toArray, World.size_alloc, selR, List.getD_cons_zero, List.getD_cons_succ] at H); clear hgq bq)))
            refine bodyPost_ret (results_blk3 rfl rowNd rfl (H.out.blk 1 rfl) rfl) rfl ?_
            rw [HV.out]
            exact ⟨Nd.nil, rfl, rfl, H.out.to, holds_ndnil _, ndnil_new⟩
        · have HV := Lib.hid (HE1.out hE0)
          have dk : (E0 == 0) = false := by simpa using hE0
          have dk2 : (E0 != 0) = true := by simpa using hE0
          clear HE0 HE1
          go_wp2_with (first | ((with_reducible show wpList _ _ _ (⟨some 136, _, _, _, _, _⟩ :: _) _ _); refine wpList_build0N rfl rfl hb0 ?_) | ((with_reducible show wpList _ _ _ (⟨_, .store _ (.tmp 4) _, _, _, _, _⟩ :: _) _ _); (refine wpList_store_blk rfl rowNd (.tmp 4) (.tmp 136) rfl _ rfl (H.out.blk 1 rfl) rfl (Nd.nil.cs) rfl rfl (nd_one _) ?_; intro wq bq hgq; replace H := Lib.hid (H.out.setBlk 1 rfl hgq bq); (try simp only [List.set_cons_zero, List.set_cons_succ, List.cons_append, List.nil_append, List.eraseIdx_cons_zero, List.eraseIdx_cons_succ, List.setIfInBounds_toArray, World.size_alloc, selR, List.getD_cons_zero, List.getD_cons_succ] at H); clear hgq bq)))
          refine bodyPost_ret (results_blk3 rfl rowNd rfl (H.out.blk 1 rfl) rfl) rfl ?_
          rw [HV.out]
          exact ⟨Nd.nil, rfl, rfl, H.out.to, holds_ndnil _, ndnil_new⟩

end Go.Proofs.Ytlclllkjnhgbjaa
