/- The document's Read and Take of aggregates. -/
import Derived.Test.YtllgcehgdpgnnaaAggV
import Derived.Test.YtllgcehgdpgnnaaPair
import Derived.Test.YtllgcehgdpgnnaaPair
import Derived.Test.YtllgcehgdpgnnaaPair
namespace Go.Proofs.Ytllgcehgdpgnnaa
open Go.RowKit
set_option linter.unusedVariables false
set_option linter.unusedSimpArgs false

/-- A scan stands where a reading came to. -/
def SRes {α : Type} (s : List UInt8) (o : PR α) (t k : Int) (x : α) : Prop :=
  (k ≠ 0 ∧ o = .error k) ∨ (k = 0 ∧ ∃ tn : Nat, t = tn ∧ tn ≤ s.length ∧ o = .ok (x, s.drop tn))
def pbind {α β : Type} (o : PR α) (f : α → List UInt8 → PR β) : PR β := match o with | .error e => .error e | .ok (x, r) => f x r
def andInt {α : Type} (o : PR α) : PR (α × Int) := pbind o fun x r => pbind (pint r) fun y r => .ok ((x, y), r)
theorem rint_next {α : Type} (s : List UInt8) (o : PR α) (t k : Int) (x : α) (h : SRes s o t k x) (hs : s.length ≤ 1000001) (w : World) :
    Calls Try.prog 96 #[scn s t k] w fun e w' => ∃ (t' k' y : Int), e = .returned (.tuple #[scn s t' k', .int .i64 y]) ∧ Bel w w' ∧ I64 y ∧ Hid (SRes s (andInt o) t' k' (x, y)) := by
  rcases h with ⟨hk, ho⟩ | ⟨rfl, tn, rfl, ht, ho⟩
  · refine (rint_bad s t k hk w).mono ?_
    rintro e w' ⟨rfl, hb⟩
    refine ⟨t, k, 0, rfl, hb, by unfold I64; omega, .inl ⟨hk, ?_⟩⟩
    rw [ho]
    rfl
  · refine (rint_any s tn hs ht w).mono ?_
    rintro e w' ⟨hb, hm⟩
    cases hp : pint (s.drop tn) with
    | error k =>
      rw [hp] at hm
      obtain ⟨t', rfl⟩ := hm
      have := q_pint_err hp
      refine ⟨t', k, 0, rfl, hb, by unfold I64; omega, .inl ⟨by omega, ?_⟩⟩
      rw [ho]
      show pbind (pint (s.drop tn)) _ = _
      rw [hp]
      rfl
    | ok q =>
      obtain ⟨y, l⟩ := q
      rw [hp] at hm
      obtain ⟨t', ht', hl, rfl⟩ := hm
      subst hl
      refine ⟨t', 0, y, rfl, hb, (q_pint_back hp).2, .inr ⟨rfl, t', rfl, ht', ?_⟩⟩
      rw [ho]
      show pbind (pint (s.drop tn)) _ = _
      rw [hp]
      rfl
theorem SRes.start (s : List UInt8) (tn : Nat) (h : tn ≤ s.length) : SRes s (.ok ((), s.drop tn)) tn 0 () := .inr ⟨rfl, tn, rfl, h, rfl⟩
theorem andInt_start (l : List UInt8) : andInt (.ok ((), l)) = pbind (pint l) fun y r => .ok (((), y), r) := rfl
theorem SRes.prt1 {s : List UInt8} {tn : Nat} {c t k x : Int} (h : SRes s (andInt (.ok ((), s.drop tn))) t k ((), x)) (hc : ¬ 1 < c) : SRes s (pprt c (s.drop tn)) t k ⟨x, x, x⟩ := by
  rw [andInt_start] at h
  unfold pprt
  cases hp : pint (s.drop tn) with
  | error e => 
    rw [hp] at h
    rcases h with ⟨h1, h2⟩ | ⟨h1, _, _, _, h2⟩
    · injection h2 with h2; subst h2; exact .inl ⟨h1, rfl⟩
    · cases h2
  | ok q =>
    obtain ⟨y, r⟩ := q
    rw [hp] at h
    rcases h with ⟨h1, h2⟩ | ⟨h1, tn', h3, h4, h2⟩
    · cases h2
    · injection h2 with h2
      injection h2 with h5 h6
      injection h5 with h7 h8
      subst h8
      subst h6
      refine .inr ⟨h1, tn', h3, h4, ?_⟩
      simp only
      rw [if_neg hc]
theorem SRes.prt3 {s : List UInt8} {tn : Nat} {c t k x y z : Int} (h : SRes s (andInt (andInt (andInt (.ok ((), s.drop tn))))) t k ((((), x), y), z)) (hc : 1 < c) : SRes s (pprt c (s.drop tn)) t k ⟨x, y, z⟩ := by
  unfold pprt
  unfold andInt at h
  cases hp : pint (s.drop tn) with
  | error e => 
    simp only [pbind, hp] at h
    rcases h with ⟨h1, h2⟩ | ⟨h1, _, _, _, h2⟩
    · injection h2 with h2; subst h2; exact .inl ⟨h1, rfl⟩
    · cases h2
  | ok q =>
    obtain ⟨x', r⟩ := q
    simp only [pbind, hp] at h
    simp only
    rw [if_pos hc]
    cases hp2 : pint r with
    | error e =>
      simp only [hp2] at h
      rcases h with ⟨h1, h2⟩ | ⟨h1, _, _, _, h2⟩
      · injection h2 with h2; subst h2; exact .inl ⟨h1, rfl⟩
      · cases h2
    | ok q =>
      obtain ⟨y', r2⟩ := q
      simp only [hp2] at h
      simp only
      cases hp3 : pint r2 with
      | error e =>
        simp only [hp3] at h
        rcases h with ⟨h1, h2⟩ | ⟨h1, _, _, _, h2⟩
        · injection h2 with h2; subst h2; exact .inl ⟨h1, rfl⟩
        · cases h2
      | ok q =>
        obtain ⟨z', r3⟩ := q
        simp only [hp3] at h
        rcases h with ⟨h1, h2⟩ | ⟨h1, tn', h3, h4, h2⟩
        · cases h2
        · injection h2 with h2
          injection h2 with h5 h6
          injection h5 with h5 h7
          injection h5 with h5 h8
          injection h5 with h5 h9
          subst h6
          subst h7
          subst h8
          subst h9
          exact .inr ⟨h1, tn', h3, h4, rfl⟩

/-- Where the document's Read stands: behind k parts. -/
def AgInv (s : List UInt8) (m : Int) (n k : Nat) (a : Ag) (t kk : Int) : Prop :=
  (kk ≠ 0 ∧ pag m s = .error kk) ∨ (kk = 0 ∧ m ≤ 3 ∧ ∃ tn : Nat, t = tn ∧ tn ≤ s.length ∧ pag m s = pend m (prtsFrom k (n - k) a (s.drop tn)))
theorem AgInv.step {s : List UInt8} {m : Int} {n k : Nat} {a : Ag} {tn : Nat} {t kk : Int} {x : Prt} (hm3 : m ≤ 3) (hk : k < n) (hE : pag m s = pend m (prtsFrom k (n - k) a (s.drop tn))) (h : SRes s (pprt a.c (s.drop tn)) t kk x) : AgInv s m n (k + 1) (a.set k x) t kk := by
  rw [show n - k = (n - (k + 1)) + 1 by omega, prtsFrom_next] at hE
  rcases h with ⟨h1, h2⟩ | ⟨h1, tn', h3, h4, h2⟩
  · exact .inl ⟨h1, by rw [hE, h2]; rfl⟩
  · exact .inr ⟨h1, hm3, tn', h3, h4, by rw [hE, h2]; rfl⟩
theorem AgInv.start {s : List UInt8} {m c t kk : Int} (h : SRes s (andInt (.ok ((), s))) t kk ((), c)) : AgInv s m m.toNat 0 ⟨c, .zero, .zero, .zero⟩ t (wantK kk (mayC m c) 3) := by
  rw [andInt_start] at h
  cases hp : pint s with
  | error e =>
    rw [hp] at h
    rcases h with ⟨h1, h2⟩ | ⟨h1, _, _, _, h2⟩
    · injection h2 with h2
      subst h2
      have : wantK e (mayC m c) 3 = e := by unfold wantK; rw [if_pos h1]
      rw [this]
      exact .inl ⟨h1, by unfold pag; rw [hp]⟩
    · cases h2
  | ok q =>
    obtain ⟨y, r⟩ := q
    rw [hp] at h
    rcases h with ⟨h1, h2⟩ | ⟨h1, tn', h3, h4, h2⟩
    · cases h2
    · injection h2 with h2
      injection h2 with h5 h6
      injection h5 with h7 h8
      subst h8
      subst h6
      subst h1
      cases hm : mayC m y with
      | false => exact .inl ⟨by decide, by unfold pag; rw [hp]; simp [hm]; rfl⟩
      | true => exact .inr ⟨rfl, by unfold mayC at hm; simp at hm; omega, tn', h3, h4, by rw [Nat.sub_zero]; exact pag_ok hp hm⟩
/-- What the document's Read ends with. -/
def AgPost (s : List UInt8) (o : PR Ag) (w : World) (e : Ending) (w' : World) : Prop :=
  Bel w w' ∧ ∃ (t : Int) (x : Ag), e = .returned (.tuple #[scn s t (prErr o), .agg x.cs]) ∧ ∀ a l, o = .ok (a, l) → x = a ∧ ∃ tn : Nat, t = tn ∧ tn ≤ s.length ∧ l = s.drop tn
theorem AgInv.done {s : List UInt8} {m : Int} {n k : Nat} {a : Ag} {t kk : Int} (h : AgInv s m n k a t kk) (hk : n - k = 0) : wantK kk (kk != 0 || mayAg m a) 3 = prErr (pag m s) ∧ ∀ b l, pag m s = .ok (b, l) → a = b ∧ ∃ tn : Nat, t = tn ∧ tn ≤ s.length ∧ l = s.drop tn := by
  rcases h with ⟨h1, h2⟩ | ⟨h1, _, tn, h3, h4, h2⟩
  · rw [h2]
    refine ⟨?_, fun _ _ h => by cases h⟩
    unfold wantK
    rw [if_pos h1]
    rfl
  · subst h1
    rw [hk] at h2
    rw [h2]
    cases hA : mayAg m a with
    | false =>
      refine ⟨?_, fun b l h => ?_⟩
      · simp [wantK, wantErr, prErr, pend, prtsFrom, hA]
      · simp [pend, prtsFrom, hA] at h
    | true =>
      refine ⟨?_, fun b l h => ?_⟩
      · simp [wantK, wantErr, prErr, pend, prtsFrom, hA]
      · simp [pend, prtsFrom, hA] at h
        exact ⟨h.1, tn, h3, h4, h.2.symm⟩
theorem AgInv.bad {s : List UInt8} {m : Int} {n k : Nat} {a : Ag} {t kk : Int} (h : AgInv s m n k a t kk) (hk : kk ≠ 0) : wantK kk (kk != 0 || mayAg m a) 3 = prErr (pag m s) ∧ ∀ b l, pag m s = .ok (b, l) → a = b ∧ ∃ tn : Nat, t = tn ∧ tn ≤ s.length ∧ l = s.drop tn := by
  rcases h with ⟨h1, h2⟩ | ⟨h1, _⟩
  · rw [h2]
    refine ⟨?_, fun _ _ h => by cases h⟩
    unfold wantK
    rw [if_pos h1]
    rfl
  · exact absurd h1 hk

/-- Memory in the document's Read of aggregates. -/
structure AgW (w : World) (s : List UInt8) (t k : Int) (a : Ag) (wr : World) : Prop where
  bel : Bel w wr
  A : Blk wr w.heap.size 55 (scs s t k)
  R : Blk wr (w.heap.size + 1) 55 (scs [] 0 0)
  Z : Blk wr (w.heap.size + 2) 92 Ag.zero.cs
  G : Blk wr (w.heap.size + 3) 92 a.cs
section
variable {w w1 w2 : World} {s : List UInt8} {t k t' k' : Int} {a a' : Ag}
theorem AgW.more (h : AgW w s t k a w1) (hb : Bel w1 w2) : AgW w s t k a w2 := ⟨h.bel.trans hb, h.A.bel hb, h.R.bel hb, h.Z.bel hb, h.G.bel hb⟩
theorem AgW.setA (h : AgW w s t k a w1) (hg : w1.grownBy w2 (some w.heap.size)) (hA : Blk w2 w.heap.size 55 (scs s t' k')) : AgW w s t' k' a w2 :=
  ⟨h.bel.grownAt hg (Nat.le_refl _), hA, h.R.grown hg (by simp), h.Z.grown hg (by simp), h.G.grown hg (by simp)⟩
theorem AgW.setG (h : AgW w s t k a w1) (hg : w1.grownBy w2 (some (w.heap.size + 3))) (hG : Blk w2 (w.heap.size + 3) 92 a'.cs) : AgW w s t k a' w2 :=
  ⟨h.bel.grownAt hg (by omega), h.A.grown hg (by simp), h.R.grown hg (by simp), h.Z.grown hg (by simp), hG⟩
theorem AgW.far (h : AgW w s t k a w1) {g : Nat} (hg : w1.grownBy w2 (some g)) (h1 : w.heap.size + 3 < g) : AgW w s t k a w2 :=
  ⟨h.bel.grownAt hg (by omega), h.A.grown hg (by simp; omega), h.R.grown hg (by simp; omega), h.Z.grown hg (by simp; omega), h.G.grown hg (by simp; omega)⟩
end

set_option maxRecDepth 100000 in
set_option maxHeartbeats 1000000 in
theorem raread_any (s : List UInt8) (m : Int) (w : World) (hs : s.length ≤ 1000001) (hm : I64 m) :
    Calls Try.prog 72 #[scn s 0 0, .int .i64 m] w (AgPost s (pag m s) w) := by
  have HM := Lib.hid (fun a w => rmay_any a m w hm)
  obtain ⟨m0, m1⟩ := hm
  have ez : Ag.zero.cs = #[.int .i64 0, .int .i64 0, .int .i64 0, .int .i64 0, .int .i64 0, .int .i64 0, .int .i64 0, .int .i64 0, .int .i64 0, .int .i64 0] := rfl
  have H0 : AgW w s 0 0 .zero ((((w.alloc (.cells (scs s 0 0) 55)).alloc (.cells (scs [] 0 0) 55)).alloc (.cells Ag.zero.cs 92)).alloc (.cells Ag.zero.cs 92)) := by
    refine ⟨((((Bel.refl w).alloc _).alloc _).alloc _).alloc _, (((Blk.new w _ _).alloc _).alloc _).alloc _, ?_, ?_, ?_⟩
    · have := ((Blk.new (w.alloc (.cells (scs s 0 0) 55)) 55 (scs [] 0 0)).alloc (.cells Ag.zero.cs 92)).alloc (.cells Ag.zero.cs 92)
      simpa only [World.size_alloc] using this
    · have := (Blk.new ((w.alloc (.cells (scs s 0 0) 55)).alloc (.cells (scs [] 0 0) 55)) 92 Ag.zero.cs).alloc (.cells Ag.zero.cs 92)
      simpa only [World.size_alloc] using this
    · have := Blk.new (((w.alloc (.cells (scs s 0 0) 55)).alloc (.cells (scs [] 0 0) 55)).alloc (.cells Ag.zero.cs 92)) 92 Ag.zero.cs
      simpa only [World.size_alloc] using this
  have HH := Lib.hid H0
  clear H0
  go_enter Try.func72, Try.ntmps72
  go_wp2_with fail
  rw [ez] at HH
  dsimp only [scs] at HH
  refine (rint_next s (.ok ((), s)) 0 0 () (by have := SRes.start s 0 (by omega); rwa [List.drop_zero] at this) hs _).mono ?_; rintro e w1 ⟨t, kk, c, rfl, hb1, hc, hS⟩
  have H1 := Lib.hid (HH.out.more hb1)
  have bA1 := H1.out.A
  have HI := Lib.hid (AgInv.start (m := m) hS.out)
  clear hb1 HH hS
  go_upto_region 3 with ((with_reducible show wpList _ _ _ (⟨_, .store _ (.tmp 2) _, _, _, _, _⟩ :: _) _ _); refine wpList_store_blk rfl rowScn (.tmp 2) (.tmp 15) rfl w.heap.size rfl bA1 rfl (scs s t kk) rfl rfl (scs_one _ _ _) ?_; intro w2 bA2 hg2; have H2 := Lib.hid (H1.out.setA hg2 bA2); have g2 := H2.out.G.cell 0; have f2 := H2.out.G.frozen 0; (simp [Ag.cs, Ag.zero] at g2); clear bA1 bA2 hg2 H1)
  have H3 : Hid (AgW w s t kk ⟨c, .zero, .zero, .zero⟩ (w2.setCell ⟨w.heap.size + 1 + 1 + 1, 0, none⟩ (.int .i64 c))) := H2.out.setG (grownBy_setCell _ _ _ _) (H2.out.G.set_ 0 (.int .i64 c))
  generalize w2.setCell ⟨w.heap.size + 1 + 1 + 1, 0, none⟩ (.int .i64 c) = w3 at *
  clear H2 g2 f2
  go_cut [29] (fun s29 wx => ∃ b : Bool, s29 = .bool b ∧ Hid (AgW w s t (wantK kk (mayC m c) 3) ⟨c, .zero, .zero, .zero⟩ wx))
  case first =>
    obtain ⟨a0, a1, a2, _, _, _⟩ := H3.out.A.three
    have g3 := H3.out.G.cell 0
    simp [Ag.cs] at g3
    have bA3 := H3.out.A
    have hcase : (m < 0 ∧ mayC m c = false) ∨ (0 ≤ m ∧ 3 < m ∧ mayC m c = false) ∨ (0 ≤ m ∧ m ≤ 3 ∧ mayC m c = decide (1 ≤ c)) := by
      unfold mayC
      by_cases x1 : 0 ≤ m <;> by_cases x2 : m ≤ 3 <;> simp [x1, x2] <;> omega
    rcases hcase with ⟨h, hv⟩ | ⟨h, h', hv⟩ | ⟨h, h', hv⟩
    all_goals
      have HV := Lib.hid hv
      clear hv
      go_wp2_with fail
      refine (rwant_any s t kk 3 _ _).mono ?_; rintro e w4 ⟨rfl, hb4⟩
      have H4 := Lib.hid (H3.out.more hb4)
      have bA4 := H4.out.A
      clear a0 a1 a2 g3 bA3 hb4
      go_wp2_with ((with_reducible show wpList _ _ _ (⟨_, .store _ (.tmp 2) _, _, _, _, _⟩ :: _) _ _); refine wpList_store_blk rfl rowScn (.tmp 2) (.tmp 30) rfl w.heap.size rfl bA4 rfl (scs s t (wantK kk _ 3)) rfl rfl (scs_one _ _ _) ?_; intro w5 bA5 hg5; have H5 := Lib.hid (H4.out.setA hg5 bA5))
      go_meet
      exact ⟨_, rfl, by rw [HV.out]; exact H5⟩
  case rest =>
    obtain ⟨b29, rfl, HC⟩ := hcut
    clear H3
    have HI2 : Hid (AgInv s m m.toNat 0 ⟨c, .zero, .zero, .zero⟩ t (wantK kk (mayC m c) 3)) := HI.out
    generalize wantK kk (mayC m c) 3 = k0 at *
    clear HI
    go_wp2_with fail
    go_loopg [7] m.toNat (fun g i wr => ∃ (k : Nat) (a : Ag) (t kk : Int), g = m.toNat - k ∧ (k = 0 ∨ (k : Int) ≤ m) ∧ k ≤ 3 ∧ i = .int .i64 k ∧ Hid (AgW w s t kk a wr) ∧ Hid (AgInv s m m.toNat k a t kk))
    case atStart => exact ⟨0, _, t, k0, rfl, .inl rfl, by omega, rfl, HC, HI2⟩
    case round =>
      clear HC HI2
      obtain ⟨k, a, t, kk, hgk, hk, hk3, rfl, H, hI⟩ := hrel
      have Hgk := Lib.hid hgk
      clear hgk
      obtain ⟨a0, a1, a2, _, _, _⟩ := H.out.A.three
      by_cases hlt : (k : Int) < m
      · by_cases hk0 : kk = 0
        · subst hk0
          rcases hI.out with ⟨hbad, _⟩ | ⟨_, hm3, tn, rfl, htn, hE⟩
          · exact absurd rfl hbad
          have HE := Lib.hid hE
          have i0 : (0 : Int) ≤ k := by omega
          have i1 : (k : Int) < 3 := by omega
          clear hE hI
          go_wp2_with fail
          refine (rint_next s (.ok ((), s.drop tn)) tn 0 () (SRes.start s tn htn) hs _).mono ?_; rintro e w3 ⟨t1, k1, x1, rfl, hb3, hx1, hS1⟩
          have H3 := Lib.hid (H.out.more hb3)
          have hz3 := H3.out.G.lt
          have g3 := H3.out.G.cell 0
          simp [Ag.cs] at g3
          clear a0 a1 a2 hb3 H
          by_cases hc1 : 1 < a.c
          · have q4 := Blk.new w3 55 (scs s t1 k1)
            have H4 := Lib.hid (H3.out.more ((Bel.refl _).alloc (.cells (scs s t1 k1) 55)))
            go_wp2_with (first | ((with_reducible show wpList _ _ _ (⟨_, .store _ (.tmp 8) _, _, _, _, _⟩ :: _) _ _); refine wpList_store_new rfl rowScn (.tmp 8) (.tmp 44) rfl rfl rfl (scs s t1 k1) rfl rfl (scs_one _ _ _) ?_))
            refine (rint_next s _ t1 k1 _ hS1.out hs _).mono ?_; rintro e w5 ⟨t2, k2, x2, rfl, hb5, hx2, hS2⟩
            have H5 := Lib.hid (H4.out.more hb5)
            have q5 := q4.bel hb5
            clear q4 H4 hb5 g3
            go_wp2_with (first | ((with_reducible show wpList _ _ _ (⟨_, .store _ (.tmp 8) _, _, _, _, _⟩ :: _) _ _); refine wpList_store_blk rfl rowScn (.tmp 8) (.tmp 54) rfl w3.heap.size rfl q5 rfl (scs s t2 k2) rfl rfl (scs_one _ _ _) ?_; intro w6 q6 hg6; have H6 := Lib.hid (H5.out.far hg6 (by omega)); clear hg6 q5) | ((with_reducible show wpList _ _ _ (⟨some 57, _, _, _, _, _⟩ :: _) _ _); refine wpList_load_blk rfl rowScn (.tmp 8) rfl w3.heap.size rfl q6 rfl ?_))
            refine (rint_next s _ t2 k2 _ hS2.out hs _).mono ?_; rintro e w7 ⟨t3, k3, x3, rfl, hb7, hx3, hS3⟩
            have H7 := Lib.hid (H6.out.more hb7)
            have q7 := q6.bel hb7
            have hS := Lib.hid (AgInv.step (x := ⟨x1, x2, x3⟩) (k := k) (a := a) hm3 (by omega) HE.out (hS3.out.prt3 hc1))
            clear q6 hb7 H6 H5
            go_wp2_with (first | ((with_reducible show wpList _ _ _ (⟨_, .store _ (.tmp 8) _, _, _, _, _⟩ :: _) _ _); refine wpList_store_blk rfl rowScn (.tmp 8) (.tmp 59) rfl w3.heap.size rfl q7 rfl (scs s t3 k3) rfl rfl (scs_one _ _ _) ?_; intro w8 q8 hg8; have H8 := Lib.hid (H7.out.far hg8 (by omega)); clear hg8 q7) | ((with_reducible show wpList _ _ _ (⟨some 61, _, _, _, _, _⟩ :: _) _ _); refine wpList_load_blk rfl rowScn (.tmp 8) rfl w3.heap.size rfl q8 rfl ?_) | ((with_reducible show wpList _ _ _ (⟨_, .store _ (.tmp 2) _, _, _, _, _⟩ :: _) _ _); refine wpList_store_blk rfl rowScn (.tmp 2) (.tmp 61) rfl w.heap.size rfl H8.out.A rfl (scs s t3 k3) rfl rfl (scs_one _ _ _) ?_; intro w9 bA9 hg9; have H9 := Lib.hid (H8.out.setA hg9 bA9); clear bA9 hg9) | ((with_reducible show wpList _ _ _ (⟨_, .store _ (.tmp 68) _, _, _, _, _⟩ :: _) _ _); refine wpList_store_at rfl rowPart (.tmp 68) (.tmp 66) rfl (w.heap.size + 1 + 1 + 1) (1 + k * 3) rfl H9.out.G #[.int .i64 x1, .int .i64 x2, .int .i64 x3] rfl (by simp [Ag.cs]; omega) rfl (by simp [Value.oneCell']) ?_; intro w10 hG10 hg10))
            go_roundg (m.toNat - (k + 1))
            case rel => exact ⟨k + 1, a.set k ⟨x1, x2, x3⟩, t3, k3, rfl, .inr (by omega), by omega, by go_num, H9.out.setG hg10 (by rw [← ag_set_cs a ⟨x1, x2, x3⟩ (by omega)]; exact hG10), hS⟩
            case measure => rw [Hgk.out]; omega
          · have q4 := Blk.new w3 55 (scs s t1 k1)
            have H4 := Lib.hid (H3.out.more ((Bel.refl _).alloc (.cells (scs s t1 k1) 55)))
            have hS := Lib.hid (AgInv.step (x := ⟨x1, x1, x1⟩) (k := k) (a := a) hm3 (by omega) HE.out (hS1.out.prt1 hc1))
            go_wp2_with (first | ((with_reducible show wpList _ _ _ (⟨_, .store _ (.tmp 8) _, _, _, _, _⟩ :: _) _ _); refine wpList_store_new rfl rowScn (.tmp 8) (.tmp 44) rfl rfl rfl (scs s t1 k1) rfl rfl (scs_one _ _ _) ?_) | ((with_reducible show wpList _ _ _ (⟨some 61, _, _, _, _, _⟩ :: _) _ _); refine wpList_load_blk rfl rowScn (.tmp 8) rfl w3.heap.size rfl q4 rfl ?_) | ((with_reducible show wpList _ _ _ (⟨_, .store _ (.tmp 2) _, _, _, _, _⟩ :: _) _ _); refine wpList_store_blk rfl rowScn (.tmp 2) (.tmp 61) rfl w.heap.size rfl H4.out.A rfl (scs s t1 k1) rfl rfl (scs_one _ _ _) ?_; intro w9 bA9 hg9; have H9 := Lib.hid (H4.out.setA hg9 bA9); clear bA9 hg9) | ((with_reducible show wpList _ _ _ (⟨_, .store _ (.tmp 68) _, _, _, _, _⟩ :: _) _ _); refine wpList_store_at rfl rowPart (.tmp 68) (.tmp 66) rfl (w.heap.size + 1 + 1 + 1) (1 + k * 3) rfl H9.out.G #[.int .i64 x1, .int .i64 x1, .int .i64 x1] rfl (by simp [Ag.cs]; omega) rfl (by simp [Value.oneCell']) ?_; intro w10 hG10 hg10))
            go_roundg (m.toNat - (k + 1))
            case rel => exact ⟨k + 1, a.set k ⟨x1, x1, x1⟩, t1, k1, rfl, .inr (by omega), by omega, by go_num, H9.out.setG hg10 (by rw [← ag_set_cs a ⟨x1, x1, x1⟩ (by omega)]; exact hG10), hS⟩
            case measure => rw [Hgk.out]; omega
        · have HD := Lib.hid (hI.out.bad hk0)
          have hk1 : (kk != 0) = true := by simpa using hk0
          have hk2 : (kk == 0) = false := by simpa using hk0
          clear hk0 hI
          go_wp2_with fail
          have e2 := fun u : Over wr => Over.cell a2 u
          refine wp_region_over_tail 10 (by kernel_rfl) (by kernel_rfl) ?_
          simp only [List.take_succ_cons, List.take_zero, List.drop_succ_cons, List.drop_zero]
          repeat (first
            | ((with_reducible show wpQuiet _ _ _ _ (⟨some 69, _, _, _, _, _⟩ :: _) _); refine wpQuiet_load_row (by first | rfl | go_simp) rowScn (.tmp 2) rfl w.heap.size 0 rfl (scs s t kk) rfl H.out.A.lt H.out.A.range ?_; simp only [Act.put, List.setIfInBounds_toArray, List.set_cons_zero, List.set_cons_succ])
            | go_big_quiet_step ((first | (go_at_call 100; exact calls_over (rwant_any s t kk 3 true _)))))
          refine wpQuiet_nil ?_
          rintro ⟨w6, hb6⟩
          have H6 := Lib.hid (H.out.more hb6)
          dsimp only
          clear hb6 H e2 a0 a1 a2
          have bA6 := H6.out.A
          go_wp2_with ((with_reducible show wpList _ _ _ (⟨_, .store _ (.tmp 2) _, _, _, _, _⟩ :: _) _ _); refine wpList_store_blk rfl rowScn (.tmp 2) (.tmp 78) rfl w.heap.size rfl bA6 rfl (scs s t (wantK kk true 3)) rfl rfl (scs_one _ _ _) ?_; intro w7 bA7 hg7; have H7 := Lib.hid (H6.out.setA hg7 bA7); clear bA6 bA7 hg7 H6)
          have hEq := HD.out.1
          simp only [hk1, Bool.true_or] at hEq
          rw [hEq] at H7
          have hR := H7.out.R.lt
          refine wp_region_pair (by kernel_rfl) ⟨by kernel_rfl, by kernel_rfl, by kernel_rfl, by kernel_rfl, by kernel_rfl, by kernel_rfl, by kernel_rfl, by kernel_rfl⟩ rowScn rowAg (.tmp 2) (.tmp 6) (.tmp 4) (.tmp 5) (.tmp 79) (.tmp 80) rfl rfl rfl rfl rfl rfl rfl rfl rfl rfl w.heap.size (w.heap.size + 1 + 1 + 1) (w.heap.size + 1) (w.heap.size + 1 + 1) H7.out.A H7.out.G H7.out.R H7.out.Z rfl rfl rfl rfl (scs_one _ _ _) (ag_one _) (by omega) (by omega) (by omega) (by omega) (by omega) rfl rfl rfl rfl rfl rfl (by exact fun _ _ _ h => h) (by exact fun _ _ _ h => h) ?_
          intro w9 r9 z9 hbut
          go_wp2_with fail
          refine bodyPost_ret (results_blk2 rfl rowScn rowAg rfl rfl r9 z9 rfl rfl) rfl ?_
          exact ⟨hbut.bel H7.out.bel (by omega) (by omega), t, a, rfl, HD.out.2⟩
      · have HD := Lib.hid (hI.out.done (by omega))
        clear hI
        by_cases hk0 : kk = 0
        · subst hk0
          go_wp2_with fail
          have e2 := fun u : Over wr => Over.cell a2 u
          refine wp_region_over_tail 10 (by kernel_rfl) (by kernel_rfl) ?_
          simp only [List.take_succ_cons, List.take_zero, List.drop_succ_cons, List.drop_zero]
          repeat (first
            | ((with_reducible show wpQuiet _ _ _ _ (⟨some 69, _, _, _, _, _⟩ :: _) _); refine wpQuiet_load_row (by first | rfl | go_simp) rowScn (.tmp 2) rfl w.heap.size 0 rfl (scs s t 0) rfl H.out.A.lt H.out.A.range ?_; simp only [Act.put, List.setIfInBounds_toArray, List.set_cons_zero, List.set_cons_succ])
            | ((with_reducible show wpQuiet _ _ _ _ (⟨some 75, _, _, _, _, _⟩ :: _) _); refine wpQuiet_load_row (by first | rfl | go_simp) rowAg (.tmp 6) rfl (w.heap.size + 1 + 1 + 1) 0 rfl a.cs rfl H.out.G.lt H.out.G.range ?_; simp only [Act.put, List.setIfInBounds_toArray, List.set_cons_zero, List.set_cons_succ])
            | go_big_quiet_step ((first | (go_at_call 61; exact calls_over (HM.out a _)) | (go_at_call 100; exact calls_over (rwant_any s t 0 3 (mayAg m a) _)))))
          refine wpQuiet_nil ?_
          rintro ⟨w6, hb6⟩
          have H6 := Lib.hid (H.out.more hb6)
          dsimp only
          clear hb6 H e2 a0 a1 a2
          have bA6 := H6.out.A
          go_wp2_with ((with_reducible show wpList _ _ _ (⟨_, .store _ (.tmp 2) _, _, _, _, _⟩ :: _) _ _); refine wpList_store_blk rfl rowScn (.tmp 2) (.tmp 78) rfl w.heap.size rfl bA6 rfl (scs s t (wantK 0 (mayAg m a) 3)) rfl rfl (scs_one _ _ _) ?_; intro w7 bA7 hg7; have H7 := Lib.hid (H6.out.setA hg7 bA7); clear bA6 bA7 hg7 H6)
          have hEq := HD.out.1
          simp only [bne_self_eq_false, Bool.false_or] at hEq
          rw [hEq] at H7
          have hR := H7.out.R.lt
          refine wp_region_pair (by kernel_rfl) ⟨by kernel_rfl, by kernel_rfl, by kernel_rfl, by kernel_rfl, by kernel_rfl, by kernel_rfl, by kernel_rfl, by kernel_rfl⟩ rowScn rowAg (.tmp 2) (.tmp 6) (.tmp 4) (.tmp 5) (.tmp 79) (.tmp 80) rfl rfl rfl rfl rfl rfl rfl rfl rfl rfl w.heap.size (w.heap.size + 1 + 1 + 1) (w.heap.size + 1) (w.heap.size + 1 + 1) H7.out.A H7.out.G H7.out.R H7.out.Z rfl rfl rfl rfl (scs_one _ _ _) (ag_one _) (by omega) (by omega) (by omega) (by omega) (by omega) rfl rfl rfl rfl rfl rfl (by exact fun _ _ _ h => h) (by exact fun _ _ _ h => h) ?_
          intro w9 r9 z9 hbut
          go_wp2_with fail
          refine bodyPost_ret (results_blk2 rfl rowScn rowAg rfl rfl r9 z9 rfl rfl) rfl ?_
          exact ⟨hbut.bel H7.out.bel (by omega) (by omega), t, a, rfl, HD.out.2⟩
        · have hk1 : (kk != 0) = true := by simpa using hk0
          have hk2 : (kk == 0) = false := by simpa using hk0
          clear hk0
          go_wp2_with fail
          have e2 := fun u : Over wr => Over.cell a2 u
          refine wp_region_over_tail 10 (by kernel_rfl) (by kernel_rfl) ?_
          simp only [List.take_succ_cons, List.take_zero, List.drop_succ_cons, List.drop_zero]
          repeat (first
            | ((with_reducible show wpQuiet _ _ _ _ (⟨some 69, _, _, _, _, _⟩ :: _) _); refine wpQuiet_load_row (by first | rfl | go_simp) rowScn (.tmp 2) rfl w.heap.size 0 rfl (scs s t kk) rfl H.out.A.lt H.out.A.range ?_; simp only [Act.put, List.setIfInBounds_toArray, List.set_cons_zero, List.set_cons_succ])
            | go_big_quiet_step ((first | (go_at_call 100; exact calls_over (rwant_any s t kk 3 true _)))))
          refine wpQuiet_nil ?_
          rintro ⟨w6, hb6⟩
          have H6 := Lib.hid (H.out.more hb6)
          dsimp only
          clear hb6 H e2 a0 a1 a2
          have bA6 := H6.out.A
          go_wp2_with ((with_reducible show wpList _ _ _ (⟨_, .store _ (.tmp 2) _, _, _, _, _⟩ :: _) _ _); refine wpList_store_blk rfl rowScn (.tmp 2) (.tmp 78) rfl w.heap.size rfl bA6 rfl (scs s t (wantK kk true 3)) rfl rfl (scs_one _ _ _) ?_; intro w7 bA7 hg7; have H7 := Lib.hid (H6.out.setA hg7 bA7); clear bA6 bA7 hg7 H6)
          have hEq := HD.out.1
          simp only [hk1, Bool.true_or] at hEq
          rw [hEq] at H7
          have hR := H7.out.R.lt
          refine wp_region_pair (by kernel_rfl) ⟨by kernel_rfl, by kernel_rfl, by kernel_rfl, by kernel_rfl, by kernel_rfl, by kernel_rfl, by kernel_rfl, by kernel_rfl⟩ rowScn rowAg (.tmp 2) (.tmp 6) (.tmp 4) (.tmp 5) (.tmp 79) (.tmp 80) rfl rfl rfl rfl rfl rfl rfl rfl rfl rfl w.heap.size (w.heap.size + 1 + 1 + 1) (w.heap.size + 1) (w.heap.size + 1 + 1) H7.out.A H7.out.G H7.out.R H7.out.Z rfl rfl rfl rfl (scs_one _ _ _) (ag_one _) (by omega) (by omega) (by omega) (by omega) (by omega) rfl rfl rfl rfl rfl rfl (by exact fun _ _ _ h => h) (by exact fun _ _ _ h => h) ?_
          intro w9 r9 z9 hbut
          go_wp2_with fail
          refine bodyPost_ret (results_blk2 rfl rowScn rowAg rfl rfl r9 z9 rfl rfl) rfl ?_
          exact ⟨hbut.bel H7.out.bel (by omega) (by omega), t, a, rfl, HD.out.2⟩

end Go.Proofs.Ytllgcehgdpgnnaa
