/- A call of the document's reader (law 4's told). -/
import Derived.Test.YtllgcehgdpgnnaaTakeH
namespace Go.Proofs.Ytllgcehgdpgnnaa
open Go.RowKit
set_option linter.unusedVariables false
set_option linter.unusedSimpArgs false

theorem pbyte_err {l : List UInt8} {k : Int} (h : pbyte l = .error k) : k = 3 := by
  cases l with
  | nil => injection h with h; exact h.symm
  | cons c r => cases h
theorem pint_err3 {l : List UInt8} {k : Int} (h : pint l = .error k) : k = 3 := by
  unfold pint at h
  rcases pnumber_cases (l := l) with ⟨hp, hn⟩ | ⟨n, z, hn, hz, hlt, hp⟩
  · rw [hp] at h; injection h with h; exact h.symm
  · rw [hp] at h; cases h
/-- Memory in told. -/
structure TdW (w : World) (s : List UInt8) (t k : Int) (a : Stp) (h : Array Value) (wr : World) : Prop where
  bel : Bel w wr
  A : Blk wr w.heap.size 55 (scs s t k)
  S : Blk wr (w.heap.size + 1) 49 a.cs
  R : Blk wr (w.heap.size + 1 + 1) 55 (scs [] 0 0)
  Z : Blk wr (w.heap.size + 1 + 1 + 1) 51 #[.int .i64 0, .string ⟨#[]⟩]
  G : Blk wr (w.heap.size + 1 + 1 + 1 + 1) 51 h
section
variable {w w1 w2 : World} {s : List UInt8} {t k t' k' : Int} {a : Stp} {h h' : Array Value}
theorem TdW.more (H : TdW w s t k a h w1) (hb : Bel w1 w2) : TdW w s t k a h w2 := ⟨H.bel.trans hb, H.A.bel hb, H.S.bel hb, H.R.bel hb, H.Z.bel hb, H.G.bel hb⟩
theorem TdW.setA (H : TdW w s t k a h w1) (hg : w1.grownBy w2 (some w.heap.size)) (hA : Blk w2 w.heap.size 55 (scs s t' k')) : TdW w s t' k' a h w2 :=
  ⟨H.bel.grownAt hg (Nat.le_refl _), hA, H.S.grown hg (by intro e; injection e with e; omega), H.R.grown hg (by intro e; injection e with e; omega), H.Z.grown hg (by intro e; injection e with e; omega), H.G.grown hg (by intro e; injection e with e; omega)⟩
theorem TdW.setG (H : TdW w s t k a h w1) (hg : w1.grownBy w2 (some (w.heap.size + 1 + 1 + 1 + 1))) (hG : Blk w2 (w.heap.size + 1 + 1 + 1 + 1) 51 h') : TdW w s t k a h' w2 :=
  ⟨H.bel.grownAt hg (by omega), H.A.grown hg (by intro e; injection e with e; omega), H.S.grown hg (by intro e; injection e with e; omega), H.R.grown hg (by intro e; injection e with e; omega), H.Z.grown hg (by intro e; injection e with e; omega), hG⟩
end
theorem tdw_start (w : World) (s : List UInt8) (t : Int) (a : Stp) (h : Array Value) : TdW w s t 0 a h (((((w.alloc (.cells (scs s t 0) 55)).alloc (.cells #[.int .i64 a.k, .int .i64 a.n, .bool a.is] 49)).alloc (.cells #[.string ⟨#[]⟩, .int .i64 0, .int .i64 0] 55)).alloc (.cells #[.int .i64 0, .string ⟨#[]⟩] 51)).alloc (.cells h 51)) := by
  refine ⟨(((((Bel.refl w).alloc _).alloc _).alloc _).alloc _).alloc _, ((((Blk.new w _ _).alloc _).alloc _).alloc _).alloc _, ?_, ?_, ?_, ?_⟩
  · have := (((Blk.new (w.alloc (.cells (scs s t 0) 55)) 49 a.cs).alloc (.cells #[.string ⟨#[]⟩, .int .i64 0, .int .i64 0] 55)).alloc (.cells #[.int .i64 0, .string ⟨#[]⟩] 51)).alloc (.cells h 51)
    simpa only [World.size_alloc] using this
  · have := ((Blk.new ((w.alloc (.cells (scs s t 0) 55)).alloc (.cells a.cs 49)) 55 (scs [] 0 0)).alloc (.cells #[.int .i64 0, .string ⟨#[]⟩] 51)).alloc (.cells h 51)
    simpa only [World.size_alloc] using this
  · have := (Blk.new (((w.alloc (.cells (scs s t 0) 55)).alloc (.cells a.cs 49)).alloc (.cells (scs [] 0 0) 55)) 51 #[.int .i64 0, .string ⟨#[]⟩]).alloc (.cells h 51)
    simpa only [World.size_alloc] using this
  · have := Blk.new ((((w.alloc (.cells (scs s t 0) 55)).alloc (.cells a.cs 49)).alloc (.cells (scs [] 0 0) 55)).alloc (.cells #[.int .i64 0, .string ⟨#[]⟩] 51)) 51 h
    simpa only [World.size_alloc] using this

/-- What told ends with. -/
def TdPost (s : List UInt8) (o : PR (Int × List UInt8)) (w : World) (e : Ending) (w' : World) : Prop :=
  ∃ (t k : Int) (h : Int × List UInt8), e = .returned (.tuple #[scn s t k, hrd h.1 h.2]) ∧ Bel w w' ∧ Hid (SRes s o t k h)

set_option maxRecDepth 100000 in
set_option maxHeartbeats 1000000 in
theorem told_any (s : List UInt8) (t : Nat) (a : Stp) (hs : s.length ≤ 1000001) (ht : t ≤ s.length) (w : World) (ha : a.ok) :
    Calls Try.prog 30 #[scn s t 0, .agg a.cs] w (TdPost s (pask a (s.drop t)) w) := by
  obtain ⟨k, n, is⟩ := a
  obtain ⟨_, hn⟩ := ha
  simp only [Stp.cs]
  simp only at hn
  have hz : True := trivial
  rcases kind_cases k with rfl | rfl | rfl | rfl | rfl | rfl | ⟨k1, k2, k3, k4, k5, k6⟩
  · have HC := Lib.hid (fun w => rnum_any s t n hs ht hn.1 hn.2 w)
    have H0 := Lib.hid (tdw_start w s t ⟨1, n, is⟩ #[.int .i64 0, .string ⟨#[]⟩])
    clear hz
    go_enter Try.func30, Try.ntmps30
    go_wp2_with fail
    refine (HC.out _).mono ?_; rintro e w1 hP
    obtain ⟨t1, k1, x, rfl, hb1, hS⟩ := hP.res 0 rfl (by intro k h; have := pnum_err h; omega)
    have H1 := Lib.hid ((H0.out.more hb1).more ((Bel.refl _).alloc (.cells (scs s t1 k1) 55)))
    have HS : Hid (SRes s (pask ⟨1, n, is⟩ (s.drop t)) t1 k1 ((fun x : Nat => ((x : Int), ([] : List UInt8))) x)) := hS.out.map (fun x : Nat => ((x : Int), ([] : List UInt8)))
    have q1 := Blk.new w1 55 (scs s t1 k1)
    have bR := H1.out.R
    clear hP hb1 H0 hS
    go_wp2_with (first | ((with_reducible show wpList _ _ _ (⟨_, .store _ (.tmp 7) _, _, _, _, _⟩ :: _) _ _); refine wpList_store_new rfl rowScn (.tmp 7) (.tmp 26) rfl rfl rfl (scs s t1 k1) rfl rfl (scs_one _ _ _) ?_) | ((with_reducible show wpList _ _ _ (⟨_, .store _ (.tmp 4) _, _, _, _, _⟩ :: _) _ _); refine wpList_store_blk rfl rowScn (.tmp 4) (.tmp 28) rfl (w.heap.size + 1 + 1) rfl bR rfl (scs s t1 k1) rfl rfl (scs_one _ _ _) ?_; intro w2 r2 hg2; have z2 := H1.out.Z.grown hg2 (by simp); have B2 := Lib.hid (H1.out.bel.grownAt hg2 (by omega)); clear hg2 H1 q1 bR) | ((with_reducible show wpList _ _ _ (⟨_, .store _ (.tmp 5) _, _, _, _, _⟩ :: _) _ _); refine wpList_store_blk rfl rowHrd (.tmp 5) (.tmp 30) rfl (w.heap.size + 1 + 1 + 1) rfl z2 rfl #[.int .i64 (x : Nat), .string ⟨#[]⟩] rfl rfl (by simp [Value.oneCell']) ?_; intro w3 z9 hg3; have r9 := r2.grown hg3 (by simp); have B3 := Lib.hid (B2.out.grownAt hg3 (by omega)); clear hg3 r2 z2 B2))
    refine bodyPost_ret (results_blk2 rfl rowScn rowHrd rfl rfl r9 z9 rfl rfl) rfl ?_
    exact ⟨t1, k1, _, rfl, B3.out, HS⟩
  · have HC := Lib.hid (fun w => rint_any s t hs ht w)
    have H0 := Lib.hid (tdw_start w s t ⟨2, n, is⟩ #[.int .i64 0, .string ⟨#[]⟩])
    clear hz
    go_enter Try.func30, Try.ntmps30
    go_wp2_with fail
    refine (HC.out _).mono ?_; rintro e w1 hP
    obtain ⟨t1, k1, x, rfl, hb1, hS⟩ := hP.res 0 rfl (by intro k h; have := pint_err3 h; omega)
    have H1 := Lib.hid (H0.out.more hb1)
    have HS : Hid (SRes s (pask ⟨2, n, is⟩ (s.drop t)) t1 k1 ((fun x : Int => (x, ([] : List UInt8))) x)) := hS.out.map (fun x : Int => (x, ([] : List UInt8)))
    have bA := H1.out.A
    clear hP hb1 H0 hS
    go_wp2_with ((with_reducible show wpList _ _ _ (⟨_, .store _ (.tmp 2) _, _, _, _, _⟩ :: _) _ _); refine wpList_store_blk rfl rowScn (.tmp 2) (.tmp 36) rfl w.heap.size rfl bA rfl (scs s t1 k1) rfl rfl (scs_one _ _ _) ?_; intro w2 bA2 hg2; have H2 := Lib.hid (H1.out.setA hg2 bA2); have g2 := H2.out.G.cell 0; have f2 := H2.out.G.frozen 0; (simp at g2); clear bA bA2 hg2 H1)
    have HE : Hid (TdW w s t1 k1 ⟨2, n, is⟩ #[.int .i64 x, .string ⟨#[]⟩] _) := H2.out.setG (grownBy_setCell w2 (w.heap.size + 1 + 1 + 1 + 1) 0 _) (H2.out.G.set_ 0 _)
    have hzz := HE.out.G.lt
    refine wp_region_pair (by kernel_rfl) ⟨by kernel_rfl, by kernel_rfl, by kernel_rfl, by kernel_rfl, by kernel_rfl, by kernel_rfl, by kernel_rfl, by kernel_rfl⟩ rowScn rowHrd (.tmp 2) (.tmp 6) (.tmp 4) (.tmp 5) (.tmp 79) (.tmp 80) rfl rfl rfl rfl rfl rfl rfl rfl rfl rfl w.heap.size (w.heap.size + 1 + 1 + 1 + 1) (w.heap.size + 1 + 1) (w.heap.size + 1 + 1 + 1) HE.out.A HE.out.G HE.out.R HE.out.Z rfl rfl rfl rfl (scs_one _ _ _) (by simp [Value.oneCell']) (by omega) (by omega) (by omega) (by omega) (by omega) rfl rfl rfl rfl rfl rfl (by exact fun _ _ _ h => h) (by exact fun _ _ _ h => h) ?_
    intro w9 r9 z9 hbut
    go_wp2_with fail
    refine bodyPost_ret (results_blk2 rfl rowScn rowHrd rfl rfl r9 z9 rfl rfl) rfl ?_
    exact ⟨t1, k1, _, rfl, hbut.bel HE.out.bel (by omega) (by omega), HS⟩
  · have HC := Lib.hid (fun w => rfix_any s t n hs ht hn.1 hn.2 w)
    have H0 := Lib.hid (tdw_start w s t ⟨3, n, is⟩ #[.int .i64 0, .string ⟨#[]⟩])
    clear hz
    go_enter Try.func30, Try.ntmps30
    go_wp2_with fail
    refine (HC.out _).mono ?_; rintro e w1 hP
    obtain ⟨t1, k1, x, rfl, hb1, hS⟩ := hP.res ([] : List UInt8) rfl (by intro k h; have := (pfix_err h).1; omega)
    have H1 := Lib.hid (H0.out.more hb1)
    have HS : Hid (SRes s (pask ⟨3, n, is⟩ (s.drop t)) t1 k1 ((fun x : List UInt8 => ((0 : Int), x)) x)) := hS.out.map (fun x : List UInt8 => ((0 : Int), x))
    have bA := H1.out.A
    clear hP hb1 H0 hS
    go_wp2_with ((with_reducible show wpList _ _ _ (⟨_, .store _ (.tmp 2) _, _, _, _, _⟩ :: _) _ _); refine wpList_store_blk rfl rowScn (.tmp 2) (.tmp 46) rfl w.heap.size rfl bA rfl (scs s t1 k1) rfl rfl (scs_one _ _ _) ?_; intro w2 bA2 hg2; have H2 := Lib.hid (H1.out.setA hg2 bA2); have g2 := H2.out.G.cell 1; have f2 := H2.out.G.frozen 1; (simp at g2); clear bA bA2 hg2 H1)
    have HE : Hid (TdW w s t1 k1 ⟨3, n, is⟩ #[.int .i64 0, .string ⟨x.toArray⟩] _) := H2.out.setG (grownBy_setCell w2 (w.heap.size + 1 + 1 + 1 + 1) 1 _) (H2.out.G.set_ 1 _)
    have hzz := HE.out.G.lt
    refine wp_region_pair (by kernel_rfl) ⟨by kernel_rfl, by kernel_rfl, by kernel_rfl, by kernel_rfl, by kernel_rfl, by kernel_rfl, by kernel_rfl, by kernel_rfl⟩ rowScn rowHrd (.tmp 2) (.tmp 6) (.tmp 4) (.tmp 5) (.tmp 79) (.tmp 80) rfl rfl rfl rfl rfl rfl rfl rfl rfl rfl w.heap.size (w.heap.size + 1 + 1 + 1 + 1) (w.heap.size + 1 + 1) (w.heap.size + 1 + 1 + 1) HE.out.A HE.out.G HE.out.R HE.out.Z rfl rfl rfl rfl (scs_one _ _ _) (by simp [Value.oneCell']) (by omega) (by omega) (by omega) (by omega) (by omega) rfl rfl rfl rfl rfl rfl (by exact fun _ _ _ h => h) (by exact fun _ _ _ h => h) ?_
    intro w9 r9 z9 hbut
    go_wp2_with fail
    refine bodyPost_ret (results_blk2 rfl rowScn rowHrd rfl rfl r9 z9 rfl rfl) rfl ?_
    exact ⟨t1, k1, _, rfl, hbut.bel HE.out.bel (by omega) (by omega), HS⟩
  · have HC := Lib.hid (fun w => rbyte_any s t hs ht w)
    have H0 := Lib.hid (tdw_start w s t ⟨4, n, is⟩ #[.int .i64 0, .string ⟨#[]⟩])
    clear hz
    go_enter Try.func30, Try.ntmps30
    go_wp2_with fail
    refine (HC.out _).mono ?_; rintro e w1 hP
    obtain ⟨t1, k1, x, rfl, hb1, hS⟩ := hP.res (0 : UInt8) rfl (by intro k h; have := pbyte_err h; omega)
    have H1 := Lib.hid ((H0.out.more hb1).more ((Bel.refl _).alloc (.cells (scs s t1 k1) 55)))
    have HS : Hid (SRes s (pask ⟨4, n, is⟩ (s.drop t)) t1 k1 ((fun x : UInt8 => ((x.toNat : Int), ([] : List UInt8))) x)) := hS.out.map (fun x : UInt8 => ((x.toNat : Int), ([] : List UInt8)))
    have q1 := Blk.new w1 55 (scs s t1 k1)
    have bR := H1.out.R
    clear hP hb1 H0 hS
    have cv : IntKind.i64.wrap (x.toNat : Int) = (x.toNat : Int) := IntWalk.i64_in _ (by have := x.toNat_lt; omega)
    go_wp2_with (first | ((with_reducible show wpList _ _ _ (⟨_, .store _ (.tmp 9) _, _, _, _, _⟩ :: _) _ _); refine wpList_store_new rfl rowScn (.tmp 9) (.tmp 54) rfl rfl rfl (scs s t1 k1) rfl rfl (scs_one _ _ _) ?_) | ((with_reducible show wpList _ _ _ (⟨_, .store _ (.tmp 4) _, _, _, _, _⟩ :: _) _ _); refine wpList_store_blk rfl rowScn (.tmp 4) (.tmp 56) rfl (w.heap.size + 1 + 1) rfl bR rfl (scs s t1 k1) rfl rfl (scs_one _ _ _) ?_; intro w2 r2 hg2; have z2 := H1.out.Z.grown hg2 (by simp); have B2 := Lib.hid (H1.out.bel.grownAt hg2 (by omega)); clear hg2 H1 q1 bR) | ((with_reducible show wpList _ _ _ (⟨_, .store _ (.tmp 5) _, _, _, _, _⟩ :: _) _ _); refine wpList_store_blk rfl rowHrd (.tmp 5) (.tmp 59) rfl (w.heap.size + 1 + 1 + 1) rfl z2 rfl #[.int .i64 (x.toNat : Nat), .string ⟨#[]⟩] rfl rfl (by simp [Value.oneCell']) ?_; intro w3 z9 hg3; have r9 := r2.grown hg3 (by simp); have B3 := Lib.hid (B2.out.grownAt hg3 (by omega)); clear hg3 r2 z2 B2))
    refine bodyPost_ret (results_blk2 rfl rowScn rowHrd rfl rfl r9 z9 rfl rfl) rfl ?_
    exact ⟨t1, k1, _, rfl, B3.out, HS⟩
  · have HC := Lib.hid (fun w => rtext_any s t n hs ht hn.1 hn.2 w)
    have H0 := Lib.hid (tdw_start w s t ⟨5, n, is⟩ #[.int .i64 0, .string ⟨#[]⟩])
    clear hz
    go_enter Try.func30, Try.ntmps30
    go_wp2_with fail
    refine (HC.out _).mono ?_; rintro e w1 hP
    obtain ⟨t1, k1, x, rfl, hb1, hS⟩ := hP.res ([] : List UInt8) rfl (by intro k h; have := ptxt_err h; omega)
    have H1 := Lib.hid (H0.out.more hb1)
    have HS : Hid (SRes s (pask ⟨5, n, is⟩ (s.drop t)) t1 k1 ((fun x : List UInt8 => ((0 : Int), x)) x)) := hS.out.map (fun x : List UInt8 => ((0 : Int), x))
    have bA := H1.out.A
    clear hP hb1 H0 hS
    go_wp2_with ((with_reducible show wpList _ _ _ (⟨_, .store _ (.tmp 2) _, _, _, _, _⟩ :: _) _ _); refine wpList_store_blk rfl rowScn (.tmp 2) (.tmp 67) rfl w.heap.size rfl bA rfl (scs s t1 k1) rfl rfl (scs_one _ _ _) ?_; intro w2 bA2 hg2; have H2 := Lib.hid (H1.out.setA hg2 bA2); have g2 := H2.out.G.cell 1; have f2 := H2.out.G.frozen 1; (simp at g2); clear bA bA2 hg2 H1)
    have HE : Hid (TdW w s t1 k1 ⟨5, n, is⟩ #[.int .i64 0, .string ⟨x.toArray⟩] _) := H2.out.setG (grownBy_setCell w2 (w.heap.size + 1 + 1 + 1 + 1) 1 _) (H2.out.G.set_ 1 _)
    have hzz := HE.out.G.lt
    refine wp_region_pair (by kernel_rfl) ⟨by kernel_rfl, by kernel_rfl, by kernel_rfl, by kernel_rfl, by kernel_rfl, by kernel_rfl, by kernel_rfl, by kernel_rfl⟩ rowScn rowHrd (.tmp 2) (.tmp 6) (.tmp 4) (.tmp 5) (.tmp 79) (.tmp 80) rfl rfl rfl rfl rfl rfl rfl rfl rfl rfl w.heap.size (w.heap.size + 1 + 1 + 1 + 1) (w.heap.size + 1 + 1) (w.heap.size + 1 + 1 + 1) HE.out.A HE.out.G HE.out.R HE.out.Z rfl rfl rfl rfl (scs_one _ _ _) (by simp [Value.oneCell']) (by omega) (by omega) (by omega) (by omega) (by omega) rfl rfl rfl rfl rfl rfl (by exact fun _ _ _ h => h) (by exact fun _ _ _ h => h) ?_
    intro w9 r9 z9 hbut
    go_wp2_with fail
    refine bodyPost_ret (results_blk2 rfl rowScn rowHrd rfl rfl r9 z9 rfl rfl) rfl ?_
    exact ⟨t1, k1, _, rfl, hbut.bel HE.out.bel (by omega) (by omega), HS⟩
  · have hl : ((s.drop t).length : Int) = (s.length : Int) - t := by rw [List.length_drop]; omega
    have HS : Hid (SRes s (pask ⟨6, n, is⟩ (s.drop t)) t 0 (((s.length : Int) - t), [])) := by
      show SRes _ _ _ _ _
      rw [← hl]
      exact .inr ⟨rfl, t, rfl, ht, rfl⟩
    clear hl
    have HE := Lib.hid (tdw_start w s t ⟨6, n, is⟩ #[.int .i64 ((s.length : Int) - t), .string ⟨#[]⟩])
    have k1 : (0 : Int) ≤ t := by omega
    have k2 : (t : Int) ≤ s.length := by omega
    go_enter Try.func30, Try.ntmps30
    go_upto_region 18 with fail
    have hzz := HE.out.G.lt
    refine wp_region_pair (by kernel_rfl) ⟨by kernel_rfl, by kernel_rfl, by kernel_rfl, by kernel_rfl, by kernel_rfl, by kernel_rfl, by kernel_rfl, by kernel_rfl⟩ rowScn rowHrd (.tmp 2) (.tmp 6) (.tmp 4) (.tmp 5) (.tmp 79) (.tmp 80) rfl rfl rfl rfl rfl rfl rfl rfl rfl rfl w.heap.size (w.heap.size + 1 + 1 + 1 + 1) (w.heap.size + 1 + 1) (w.heap.size + 1 + 1 + 1) HE.out.A HE.out.G HE.out.R HE.out.Z rfl rfl rfl rfl (scs_one _ _ _) (by simp [Value.oneCell']) (by omega) (by omega) (by omega) (by omega) (by omega) rfl rfl rfl rfl rfl rfl (by exact fun _ _ _ h => h) (by exact fun _ _ _ h => h) ?_
    intro w9 r9 z9 hbut
    go_wp2_with fail
    refine bodyPost_ret (results_blk2 rfl rowScn rowHrd rfl rfl r9 z9 rfl rfl) rfl ?_
    exact ⟨t, 0, _, rfl, hbut.bel HE.out.bel (by omega) (by omega), HS⟩
  · have hk : pask ⟨k, n, is⟩ (s.drop t) = pbind2 (pwant is n (s.drop t)) (fun _ => (0, [])) := by
      simp only [beq_eq_false_iff_ne] at k1 k2 k3 k4 k5 k6
      unfold pask
      simp [k1, k2, k3, k4, k5, k6]
    have HS : Hid (SRes s (pask ⟨k, n, is⟩ (s.drop t)) t (wantK 0 is n) ((0 : Int), [])) := by
      show SRes _ _ _ _ _
      rw [hk]
      cases is with
      | false => exact .inl ⟨by show wantErr n ≠ 0; unfold wantErr; split <;> omega, rfl⟩
      | true => exact .inr ⟨rfl, t, rfl, ht, rfl⟩
    clear hk
    have H0 := Lib.hid (tdw_start w s t ⟨k, n, is⟩ #[.int .i64 0, .string ⟨#[]⟩])
    clear hz
    go_enter Try.func30, Try.ntmps30
    go_wp2_with fail
    refine (rwant_any s t 0 n is _).mono ?_; rintro e w1 ⟨rfl, hb1⟩
    have H1 := Lib.hid (H0.out.more hb1)
    have bA := H1.out.A
    clear hb1 H0
    go_wp2_with ((with_reducible show wpList _ _ _ (⟨_, .store _ (.tmp 2) _, _, _, _, _⟩ :: _) _ _); refine wpList_store_blk rfl rowScn (.tmp 2) (.tmp 18) rfl w.heap.size rfl bA rfl (scs s t (wantK 0 is n)) rfl rfl (scs_one _ _ _) ?_; intro w2 bA2 hg2; have HE := Lib.hid (H1.out.setA hg2 bA2); clear bA bA2 hg2 H1)
    have hzz := HE.out.G.lt
    refine wp_region_pair (by kernel_rfl) ⟨by kernel_rfl, by kernel_rfl, by kernel_rfl, by kernel_rfl, by kernel_rfl, by kernel_rfl, by kernel_rfl, by kernel_rfl⟩ rowScn rowHrd (.tmp 2) (.tmp 6) (.tmp 4) (.tmp 5) (.tmp 79) (.tmp 80) rfl rfl rfl rfl rfl rfl rfl rfl rfl rfl w.heap.size (w.heap.size + 1 + 1 + 1 + 1) (w.heap.size + 1 + 1) (w.heap.size + 1 + 1 + 1) HE.out.A HE.out.G HE.out.R HE.out.Z rfl rfl rfl rfl (scs_one _ _ _) (by simp [Value.oneCell']) (by omega) (by omega) (by omega) (by omega) (by omega) rfl rfl rfl rfl rfl rfl (by exact fun _ _ _ h => h) (by exact fun _ _ _ h => h) ?_
    intro w9 r9 z9 hbut
    go_wp2_with fail
    refine bodyPost_ret (results_blk2 rfl rowScn rowHrd rfl rfl r9 z9 rfl rfl) rfl ?_
    exact ⟨t, _, _, rfl, hbut.bel HE.out.bel (by omega) (by omega), HS⟩

end Go.Proofs.Ytllgcehgdpgnnaa
