/- The document's Read of tiers. -/
import Derived.Test.YtnjpoamebkehbaaTierT
import Derived.Test.YtnjpoamebkehbaaScan
import Derived.Test.YtnjpoamebkehbaaPair
namespace Go.Proofs.Ytnjpoamebkehbaa
open Go.RowKit
set_option linter.unusedVariables false
set_option linter.unusedSimpArgs false

/-- Memory in the document's Read of tiers. -/
structure TsW (w : World) (s : List UInt8) (t k : Int) (nm : List UInt8) (v : Value) (ts : List (List UInt8)) (u : Value) (ups : List Int) (wr : World) : Prop where
  bel : Bel w wr
  A : Blk wr w.heap.size 47 (scs s t k)
  R : Blk wr (w.heap.size + 1) 47 (scs [] 0 0)
  Z : Blk wr (w.heap.size + 1 + 1) 30 #[.string ⟨#[]⟩, .slice none 0 0, .slice none 0 0]
  G : Blk wr (w.heap.size + 1 + 1 + 1) 30 #[.string ⟨nm.toArray⟩, v, u]
  ts : wr.ownsRow (w.heap.size + 1 + 1 + 1 + 1) 9 1 v ts.length (ts.map tx)
  up : wr.ownsRow (w.heap.size + 1 + 1 + 1 + 1) 3 1 u ups.length (ups.map (Value.int .i64))
section
variable {w w1 w2 : World} {s nm nm' : List UInt8} {t k t' k' : Int} {v v' u u' : Value} {ts ts' : List (List UInt8)} {ups : List Int}
theorem TsW.more (h : TsW w s t k nm v ts u ups w1) (hb : Bel w1 w2) : TsW w s t k nm v ts u ups w2 := ⟨h.bel.trans hb, h.A.bel hb, h.R.bel hb, h.Z.bel hb, h.G.bel hb, own_bel h.ts hb, own_bel h.up hb⟩
theorem TsW.setA (h : TsW w s t k nm v ts u ups w1) (hg : w1.grownBy w2 (some w.heap.size)) (hA : Blk w2 w.heap.size 47 (scs s t' k')) : TsW w s t' k' nm v ts u ups w2 :=
  ⟨h.bel.grownAt hg (Nat.le_refl _), hA, h.R.grown hg (by intro e; injection e with e; omega), h.Z.grown hg (by intro e; injection e with e; omega), h.G.grown hg (by intro e; injection e with e; omega), h.ts.kept hg (own_apart h.ts (by omega)), h.up.kept hg (own_apart h.up (by omega))⟩
theorem TsW.far (h : TsW w s t k nm v ts u ups w1) {g : Nat} (hg : w1.grownBy w2 (some g)) (h1 : w.heap.size + 1 + 1 + 1 < g) (h2 : v.ownBlock ≠ some g) (h3 : u.ownBlock ≠ some g) : TsW w s t k nm v ts u ups w2 :=
  ⟨h.bel.grownAt hg (by omega), h.A.grown hg (by intro e; injection e with e; omega), h.R.grown hg (by intro e; injection e with e; omega), h.Z.grown hg (by intro e; injection e with e; omega), h.G.grown hg (by intro e; injection e with e; omega), kept_ne h.ts hg h2, kept_ne h.up hg h3⟩
/-- A field of the tier is set. -/
theorem TsW.setG (h : TsW w s t k nm v ts u ups w1) (i : Nat) (x : Value) (hG : (#[.string ⟨nm.toArray⟩, v, u] : Array Value).setIfInBounds i x = #[.string ⟨nm'.toArray⟩, v', u']) (h1 : w1.ownsRow (w.heap.size + 1 + 1 + 1 + 1) 9 1 v' ts'.length (ts'.map tx)) {ups' : List Int} (h2 : w1.ownsRow (w.heap.size + 1 + 1 + 1 + 1) 3 1 u' ups'.length (ups'.map (Value.int .i64))) : TsW w s t k nm' v' ts' u' ups' (w1.setCell ⟨w.heap.size + 1 + 1 + 1, i, none⟩ x) := by
  have g := grownBy_setCell w1 (w.heap.size + 1 + 1 + 1) i x
  refine ⟨h.bel.grownAt g (by omega), h.A.grown g (by intro e; injection e with e; omega), h.R.grown g (by intro e; injection e with e; omega), h.Z.grown g (by intro e; injection e with e; omega), ?_, h1.kept g (own_apart h1 (by omega)), h2.kept g (own_apart h2 (by omega))⟩
  have := h.G.set_ i x
  rwa [hG] at this
theorem TsW.app {x : Int} (h : TsW w s t k nm v ts u ups w1) (ho : w2.ownsRow (w.heap.size + 1 + 1 + 1 + 1) 3 1 u' (ups.length + 1) (ups.map (Value.int .i64) ++ [.int .i64 x])) (hg : w1.grownBy w2 u.ownBlock) :
    TsW w s t k nm v ts u' (ups ++ [x]) (w2.setCell ⟨w.heap.size + 1 + 1 + 1, 2, none⟩ u') ∧ Blk w2 (w.heap.size + 1 + 1 + 1) 30 #[.string ⟨nm.toArray⟩, v, u] := by
  have hu := h.up
  have b : Bel w w2 := h.bel.grown hg (fun j e => by have := own_ge hu e; omega)
  have bG := h.G.grown hg (fun e => by have := own_ge hu e.symm; omega)
  have g := grownBy_setCell w2 (w.heap.size + 1 + 1 + 1) 2 u'
  have hts : w2.ownsRow (w.heap.size + 1 + 1 + 1 + 1) 9 1 v ts.length (ts.map tx) := own_grown h.ts hg (apart_types h.ts hu (fun e => ne_it e.symm))
  refine ⟨⟨b.grownAt g (by omega), ?_, ?_, ?_, ?_, hts.kept g (own_apart hts (by omega)), ?_⟩, bG⟩
  · exact (h.A.grown hg (fun e => by have := own_ge hu e.symm; omega)).grown g (by intro e; injection e with e; omega)
  · exact (h.R.grown hg (fun e => by have := own_ge hu e.symm; omega)).grown g (by intro e; injection e with e; omega)
  · exact (h.Z.grown hg (fun e => by have := own_ge hu e.symm; omega)).grown g (by intro e; injection e with e; omega)
  · have := bG.set_ 2 u'
    simpa using this
  · have h2 : w2.ownsRow (w.heap.size + 1 + 1 + 1 + 1) 3 1 u' (ups ++ [x]).length ((ups ++ [x]).map (Value.int .i64)) := by simpa using ho
    exact h2.kept g (own_apart h2 (by omega))
end
theorem TirOwn.setA {base : Nat} {T : Tir} {w : World} (h : TirOwn base T w) {g o : Nat} {x : Value} {cs : Array Value} (hA : Blk w g 47 cs) : TirOwn base T (w.setCell ⟨g, o, none⟩ x) :=
  ⟨kept_ne h.ts (grownBy_setCell w g o x) (own_blk_ne h.ts hA (by decide)), kept_ne h.up (grownBy_setCell w g o x) (own_blk_ne h.up hA (by decide)), h.nm, h.tl, h.ul, h.tn, h.un⟩
theorem own_butD {w w' : World} {d0 d1 base : Nat} {e : TypeId} {size n : Nat} {v : Value} {xs : List Value} (h : w.ownsRow base e size v n xs) (hb : ButD d0 d1 w w') (h0 : v.ownBlock ≠ some d0) (h1 : v.ownBlock ≠ some d1) : w'.ownsRow base e size v n xs := by
  refine ⟨h.1, ?_⟩
  rcases h.2 with h2 | ⟨g, cap, cur, x1, x2, x3, x4⟩
  · exact .inl h2
  · have hlt : g < w.heap.size := by
      rcases Nat.lt_or_ge g w.heap.size with h | h
      · exact h
      · rw [Array.getElem?_eq_none h] at x3; cases x3
    have hob : v.ownBlock = some g := by rw [x1]; rfl
    exact .inr ⟨g, cap, cur, x1, x2, (hb.block g hlt (fun e => h0 (by rw [hob, e])) (fun e => h1 (by rw [hob, e]))).trans x3, x4⟩
theorem TirOwn.butD {base d0 d1 : Nat} {T : Tir} {w w' : World} (h : TirOwn base T w) (hb : ButD d0 d1 w w') {c0 c1 : Array Value} (h0 : Blk w d0 47 c0) (h1 : Blk w d1 30 c1) : TirOwn base T w' :=
  ⟨own_butD h.ts hb (own_blk_ne h.ts h0 (by decide)) (own_blk_ne h.ts h1 ne_sr), own_butD h.up hb (own_blk_ne h.up h0 (by decide)) (own_blk_ne h.up h1 ne_ir), h.nm, h.tl, h.ul, h.tn, h.un⟩

/-- Where the document's Read stands. -/
def TsInv (above : Int) (s l0 nm : List UInt8) (ts : List (List UInt8)) (n : Nat) (ups : List Int) (m : Nat) (t kk : Int) : Prop :=
  (kk ≠ 0 ∧ ptier above l0 = .error kk) ∨ (kk = 0 ∧ nm.length ≤ 12 ∧ (∀ x ∈ ts, x.length ≤ 16) ∧ (∀ z ∈ ups, I64 z) ∧ n ≤ 200 ∧ ts.length = n ∧ True ∧ ∃ tn : Nat, t = tn ∧ tn ≤ s.length ∧ ptier above l0 = ptail above nm ts (aheadI ups (pups above m (s.drop tn))))
theorem TsInv.bad {above : Int} {s l0 nm : List UInt8} {ts : List (List UInt8)} {n m : Nat} {ups : List Int} {t kk : Int} (h : TsInv above s l0 nm ts n ups m t kk) (hk : kk ≠ 0) : ptier above l0 = .error kk := by
  rcases h with ⟨_, h⟩ | ⟨h, _⟩
  · exact h
  · exact absurd h hk
theorem TsInv.good {above : Int} {s l0 nm : List UInt8} {ts : List (List UInt8)} {n m : Nat} {ups : List Int} {t kk : Int} (h : TsInv above s l0 nm ts n ups m t kk) (hk : kk = 0) : nm.length ≤ 12 ∧ (∀ x ∈ ts, x.length ≤ 16) ∧ (∀ z ∈ ups, I64 z) ∧ n ≤ 200 ∧ ts.length = n ∧ True ∧ ∃ tn : Nat, t = tn ∧ tn ≤ s.length ∧ ptier above l0 = ptail above nm ts (aheadI ups (pups above m (s.drop tn))) := by
  rcases h with ⟨h, _⟩ | ⟨_, h⟩
  · exact absurd hk h
  · exact h
theorem ptail_done {above : Int} {nm : List UInt8} {ts : List (List UInt8)} {ups : List Int} {m : Nat} {l : List UInt8} (h : ¬ 0 < above ∨ m = 0) : ptail above nm ts (aheadI ups (pups above m l)) = ptierC above ⟨nm, ts, ups⟩ l := by
  have e : pups above m l = .ok ([], l) := by
    unfold pups
    rcases h with h | h
    · rw [if_neg h]
    · subst h
      split <;> rfl
  rw [e]
  simp [aheadI, ptail]

/-- What the document's Read ends with. -/
def RtPost (s : List UInt8) (o : PR TC) (w : World) (e : Ending) (w' : World) : Prop :=
  ∃ (t k : Int) (T : Tir), e = .returned (.tuple #[scn s t k, .agg T.cs]) ∧ Bel w w' ∧ Hid (SRes s o t k T.con) ∧ (k = 0 → TirOwn w.heap.size T w')

/-- The members read, whatever the scan. -/
theorem rtreadR_any (above : Int) (s l0 : List UInt8) (t1 k1 : Int) (nm : List UInt8) (hS : SRes s (ptxt 12 l0) t1 k1 nm) (hs : s.length ≤ 1000001) (w : World) :
    Calls Try.prog 96 #[scn s t1 k1, .int .i64 200] w fun e w' => ∃ (t k : Int) (A : Option Addr) (n c : Nat) (ts : List (List UInt8)), e = .returned (.tuple #[scn s t k, .slice A n c]) ∧ Bel w w' ∧ Hid (ts.length = n) ∧ w'.ownsRow w.heap.size 9 1 (.slice A n c) ts.length (ts.map tx) ∧ Hid (TsInv above s l0 nm ts n [] (if 0 < above then n else 0) t k) := by
  rcases hS with ⟨hk, ho⟩ | ⟨rfl, tn, rfl, htn, ho⟩
  · refine (rtread_bad s t1 k1 200 hk w).mono ?_
    rintro e w' ⟨rfl, hb⟩
    exact ⟨t1, k1, none, 0, 0, [], rfl, hb, rfl, ⟨rfl, .inl ⟨rfl, rfl⟩⟩, .inl ⟨hk, by unfold ptier; rw [ho]⟩⟩
  · refine (rtreadAt_any s tn 200 w hs htn (by omega) (by omega)).mono ?_
    rintro e w' ⟨hb, t, A, c, ds, rfl, hown, hds⟩
    cases hd : tread 200 (s.drop tn) with
    | error k =>
      have := tread_err hd
      refine ⟨t, k, A, ds.length, c, ds, rfl, hb, rfl, hown, .inl ⟨by omega, ?_⟩⟩
      unfold ptier
      rw [ho]
      simp only
      rw [hd]
    | ok q =>
      obtain ⟨ts, l⟩ := q
      obtain ⟨rfl, t2, rfl, ht2, rfl⟩ := hds _ _ hd
      refine ⟨t2, 0, A, ds.length, c, ds, rfl, hb, rfl, hown, .inr ⟨rfl, ?_, ?_, ?_, ?_, rfl, trivial, t2, rfl, ht2, ?_⟩⟩
      · have := (ptxt_ok ho).1
        omega
      · exact fun x hx => rowErr_len (tread_back hd).1 hx
      · intro z hz
        cases hz
      · have := tread_len hd
        omega
      · rw [ptier_ok ho hd, aheadI_nil]
        by_cases h0 : 0 < above
        · rw [if_pos h0]
        · rw [if_neg h0]
          unfold pups
          rw [if_neg h0, if_neg h0]

theorem TsInv.step {above : Int} {s l0 nm : List UInt8} {ts : List (List UInt8)} {n k tn : Nat} {ups : List Int} {t kk : Int} {x : Nat} (h1 : nm.length ≤ 12) (h2 : ∀ x ∈ ts, x.length ≤ 16) (h3 : ∀ z ∈ ups, I64 z) (h4 : n ≤ 200) (h5 : ts.length = n) (h0 : 0 < above) (ha : above ≤ 9223372036854775807) (hk : k < n)
    (hE : ptier above l0 = ptail above nm ts (aheadI ups (pups above (n - k) (s.drop tn)))) (hS : SRes s (pnum (above - 1) (s.drop tn)) t kk x) : TsInv above s l0 nm ts n (ups ++ [(x : Int)]) (if 0 < above then n - (k + 1) else 0) t kk := by
  unfold pups at hE
  rw [if_pos h0, show n - k = (n - (k + 1)) + 1 by omega] at hE
  rcases hS with ⟨x1, x2⟩ | ⟨x1, t2, x3, x4, x2⟩
  · rw [aheadI_err x2] at hE
    exact .inl ⟨x1, hE⟩
  · rw [aheadI_step x2] at hE
    refine .inr ⟨x1, h1, h2, ?_, h4, h5, trivial, t2, x3, x4, ?_⟩
    · intro z hz
      rcases List.mem_append.1 hz with hz | hz
      · exact h3 z hz
      · have := pnum_ok x2
        simp at hz
        subst hz
        unfold I64
        omega
    · rw [if_pos h0, hE]
      unfold pups
      rw [if_pos h0]

set_option maxRecDepth 100000 in
set_option maxHeartbeats 2000000 in
theorem rtrread_any (s : List UInt8) (t0 : Nat) (above : Int) (w : World) (hs : s.length ≤ 1000001) (ht0 : t0 ≤ s.length) (ha : I64 above) :
    Calls Try.prog 28 #[scn s t0 0, .int .i64 above] w (RtPost s (ptier above (s.drop t0)) w) := by
  obtain ⟨l0, hl0⟩ : ∃ l0, l0 = s.drop t0 := ⟨_, rfl⟩
  have HT := Lib.hid (fun w => rtext_any s t0 12 hs ht0 (by omega) (by omega) w)
  rw [← hl0] at HT
  rw [← hl0]
  clear hl0
  have a0' := ha.1
  have a1' := ha.2
  have H0 : Hid (TsW w s t0 0 [] (.slice none 0 0) [] (.slice none 0 0) [] ((((w.alloc (.cells (scs s t0 0) 47)).alloc (.cells #[.string ⟨#[]⟩, .int .i64 0, .int .i64 0] 47)).alloc (.cells #[.string ⟨#[]⟩, .slice none 0 0, .slice none 0 0] 30)).alloc (.cells #[.string ⟨#[]⟩, .slice none 0 0, .slice none 0 0] 30))) := by
    refine ⟨((((Bel.refl w).alloc _).alloc _).alloc _).alloc _, (((Blk.new w _ _).alloc _).alloc _).alloc _, ?_, ?_, ?_, ⟨rfl, .inl ⟨rfl, rfl⟩⟩, ⟨rfl, .inl ⟨rfl, rfl⟩⟩⟩
    · have := ((Blk.new (w.alloc (.cells (scs s t0 0) 47)) 47 #[.string ⟨#[]⟩, .int .i64 0, .int .i64 0]).alloc (.cells #[.string ⟨#[]⟩, .slice none 0 0, .slice none 0 0] 30)).alloc (.cells #[.string ⟨#[]⟩, .slice none 0 0, .slice none 0 0] 30)
      simpa only [World.size_alloc] using this
    · have := (Blk.new ((w.alloc (.cells (scs s t0 0) 47)).alloc (.cells #[.string ⟨#[]⟩, .int .i64 0, .int .i64 0] 47)) 30 #[.string ⟨#[]⟩, .slice none 0 0, .slice none 0 0]).alloc (.cells #[.string ⟨#[]⟩, .slice none 0 0, .slice none 0 0] 30)
      simpa only [World.size_alloc] using this
    · have := Blk.new (((w.alloc (.cells (scs s t0 0) 47)).alloc (.cells #[.string ⟨#[]⟩, .int .i64 0, .int .i64 0] 47)).alloc (.cells #[.string ⟨#[]⟩, .slice none 0 0, .slice none 0 0] 30)) 30 #[.string ⟨#[]⟩, .slice none 0 0, .slice none 0 0]
      simpa only [World.size_alloc] using this
  go_enter Try.func28, Try.ntmps28
  go_wp2_with fail
  refine (HT.out _).mono ?_; rintro e w1 hP
  obtain ⟨t1, k1, nm, rfl, hb1, hS⟩ := hP.res ([] : List UInt8) rfl (by intro k h; have := ptxt_err h; omega)
  have H1 := Lib.hid (H0.out.more hb1)
  have bA1 := H1.out.A
  clear hP hb1 H0 HT
  go_upto_region 3 with ((with_reducible show wpList _ _ _ (⟨_, .store _ (.tmp 2) _, _, _, _, _⟩ :: _) _ _); refine wpList_store_blk rfl rowScn (.tmp 2) (.tmp 13) rfl w.heap.size rfl bA1 rfl (scs s t1 k1) rfl rfl (scs_one _ _ _) ?_; intro w2 bA2 hg2; have H2 := Lib.hid (H1.out.setA hg2 bA2); obtain ⟨g0, g1, g2, f0, f1, f2⟩ := H2.out.G.three; clear bA1 bA2 hg2 H1)
  have H3 : Hid (TsW w s t1 k1 nm (.slice none 0 0) [] (.slice none 0 0) [] (w2.setCell ⟨w.heap.size + 1 + 1 + 1, 0, none⟩ (.string ⟨nm.toArray⟩))) := H2.out.setG 0 _ (by simp) H2.out.ts H2.out.up
  generalize w2.setCell ⟨w.heap.size + 1 + 1 + 1, 0, none⟩ (.string ⟨nm.toArray⟩) = w3 at *
  obtain ⟨a0, a1, a2, _, _, _⟩ := H3.out.A.three
  clear H2 g0 g1 g2 f0 f1 f2
  go_wp2_with fail
  refine (rtreadR_any above s l0 t1 k1 nm hS.out hs _).mono ?_; rintro e w4 ⟨t, kk, A, n, c, ts, rfl, hb4, HNN, hown, HI⟩
  have H4 := Lib.hid (H3.out.more hb4)
  have OW4 := Lib.hid (own_less (base' := w.heap.size + 1 + 1 + 1 + 1) hown (by have := H3.out.G.lt; omega))
  have bA4 := H4.out.A
  clear a0 a1 a2 hb4 H3 hS hown
  go_upto_region 4 with ((with_reducible show wpList _ _ _ (⟨_, .store _ (.tmp 2) _, _, _, _, _⟩ :: _) _ _); refine wpList_store_blk rfl rowScn (.tmp 2) (.tmp 19) rfl w.heap.size rfl bA4 rfl (scs s t kk) rfl rfl (scs_one _ _ _) ?_; intro w5 bA5 hg5; have H5 := Lib.hid (H4.out.setA hg5 bA5); have OW5 := Lib.hid (OW4.out.kept hg5 (own_apart OW4.out (by omega))); obtain ⟨g0, g1, g2, f0, f1, f2⟩ := H5.out.G.three; clear bA4 bA5 hg5 H4 OW4)
  have H6 : Hid (TsW w s t kk nm (.slice A n c) ts (.slice none 0 0) [] (w5.setCell ⟨w.heap.size + 1 + 1 + 1, 1, none⟩ (.slice A n c))) := H5.out.setG 1 _ (by simp) OW5.out H5.out.up
  generalize w5.setCell ⟨w.heap.size + 1 + 1 + 1, 1, none⟩ (.slice A n c) = w6 at *
  clear H5 g0 g1 g2 f0 f1 f2 OW5
  go_wp2_with fail
  go_loopg [7] n (fun gg i wr => ∃ (k : Nat) (u : Value) (ups : List Int) (t kk : Int), gg = n - k ∧ k ≤ n ∧ k ≤ 200 ∧ i = .int .i64 k ∧ Hid (ups.length = k) ∧ Hid (TsW w s t kk nm (.slice A n c) ts u ups wr) ∧ Hid (TsInv above s l0 nm ts n ups (if 0 < above then n - k else 0) t kk))
  case atStart => exact ⟨0, _, [], t, kk, rfl, by omega, by omega, rfl, rfl, H6, HI⟩
  case round =>
    clear H6 HI
    obtain ⟨k, u, ups, t, kk, hgk, hk, hk2, rfl, hdk, H, hI⟩ := hrel
    have Hgk := Lib.hid hgk
    clear hgk
    obtain ⟨a0, a1, a2, _, _, _⟩ := H.out.A.three
    obtain ⟨g0, g1, g2, f0, f1, f2⟩ := H.out.G.three
    by_cases h0 : 0 < above
    · have d0 : decide ((0 : Int) < above) = true := by simp; omega
      by_cases hlt : k < n
      · by_cases hkk : kk = 0
        · subst hkk
          obtain ⟨x1, x2, x3, x4, x5, _, tn, rfl, htn, hE⟩ := hI.out.good rfl
          rw [if_pos h0] at hE
          have HStep := Lib.hid (fun t kk x hS => TsInv.step (t := t) (kk := kk) (x := x) x1 x2 x3 x4 x5 h0 a1' hlt hE hS)
          have wa : IntKind.i64.wrap (above - 1) = above - 1 := IntWalk.i64_in _ (by omega)
          have hn200 : n ≤ 200 := x4
          clear x1 x2 x3 x4 x5 hE hI g0
          go_wp2_with fail
          refine (rnum_any s tn (above - 1) hs htn (by omega) (by omega) _).mono ?_; rintro e w7 hP
          obtain ⟨t', k', x, rfl, hb7, hS⟩ := hP.res (0 : Nat) rfl (by intro k h; have := pnum_err h; omega)
          have HInv := Lib.hid (HStep.out _ _ _ hS.out)
          have H7 := Lib.hid (H.out.more hb7)
          have q8 := Blk.new w7 47 (scs s t' k')
          have H8 := Lib.hid (H7.out.more ((Bel.refl _).alloc (.cells (scs s t' k') 47)))
          have hz7 := H7.out.G.lt
          clear hP hb7 hS HStep a0 a1 a2 g1 g2 f0 f1 f2 H wa H7
          go_wp2_with (first | ((with_reducible show wpList _ _ _ (⟨_, .store _ (.tmp 8) _, _, _, _, _⟩ :: _) _ _); refine wpList_store_new rfl rowScn (.tmp 8) (.tmp 43) rfl rfl rfl (scs s t' k') rfl rfl (scs_one _ _ _) ?_) | ((with_reducible show wpList _ _ _ (⟨some 45, _, _, _, _, _⟩ :: _) _ _); refine wpList_load_blk rfl rowScn (.tmp 8) rfl w7.heap.size rfl q8 rfl ?_) | ((with_reducible show wpList _ _ _ (⟨_, .store _ (.tmp 2) _, _, _, _, _⟩ :: _) _ _); refine wpList_store_blk rfl rowScn (.tmp 2) (.tmp 45) rfl w.heap.size rfl H8.out.A rfl (scs s t' k') rfl rfl (scs_one _ _ _) ?_; intro w9 bA9 hg9; have H9 := Lib.hid (H8.out.setA hg9 bA9); obtain ⟨g0, g1, g2, _, _, _⟩ := H9.out.G.three; have hz9 := H9.out.G.lt; clear bA9 hg9 q8 H8) | ((with_reducible show wpList _ _ _ (⟨some 50, _, _, _, _, _⟩ :: _) _ _); refine wpList_append0 rfl (.tmp 47) (.tmp 49) _ rfl E_num (w.heap.size + 1 + 1 + 1 + 1) (by simp; omega) u ups.length _ rfl (H9.out.more ((Bel.refl _).alloc _)).up _ 1 1 [.int .i64 (x : Nat)] rfl (rd_new _ _ _ 1 1 rfl) (by simp [Value.oneCell']) (by have := hdk.out; unfold maxLen; omega) (by have := hdk.out; omega) ?_; intro u10 w10 hown10 hg10 hat10; obtain ⟨H10', bG10⟩ := (H9.out.more ((Bel.refl _).alloc _)).app hown10 hg10; have H10 := Lib.hid H10'; obtain ⟨y0, y1, y2, z0, z1, z2⟩ := bG10.three; obtain ⟨A10, c10, rfl, _⟩ := own_slice hown10; clear H10' bG10 g0 g1 g2 hg10 hat10 hown10))
          go_roundg (n - (k + 1))
          case rel => exact ⟨k + 1, _, ups ++ [(x : Int)], t', k', rfl, by omega, by omega, by go_num, by show _ = _; have := hdk.out; simp [this], H10, HInv⟩
          case measure => rw [Hgk.out]; omega
        · have hkk' := Lib.hid hkk
          obtain ⟨A2, c2, rfl, _⟩ := own_slice H.out.up
          obtain ⟨T, hT⟩ : ∃ T : Tir, T = ⟨nm, ⟨A, n, c, ts⟩, ⟨A2, ups.length, c2, ups⟩⟩ := ⟨_, rfl⟩
          have hTc : T.con = ⟨nm, ts, ups⟩ := by subst hT; rfl
          have hTs : T.cs = #[.string ⟨nm.toArray⟩, .slice A n c, .slice A2 ups.length c2] := by subst hT; rfl
          have HOW : Hid (kk = 0 → TirOwn w.heap.size T wr) := by intro h0; obtain ⟨x1, x2, x3, x4, x5, x6, _⟩ := (hI.out.good h0); subst hT; exact ⟨by have := H.out.ts; rw [HNN.out] at this; exact own_less this (by omega), own_less H.out.up (by omega), x1, x2, x3, x4, by show ups.length ≤ 200; have := hdk.out; omega⟩
          have bG := H.out.G
          rw [← hTs] at bG
          have HTC := Lib.hid hTc
          clear hT hTs
          by_cases hk0 : kk = 0
          · exact absurd hk0 hkk
          · have hb := hI.out.bad hk0
            have hk2 : (kk == 0) = false := by simpa using hk0
            have HSR : Hid (SRes s (ptier above l0) t kk T.con) := .inl ⟨hk0, hb⟩
            have H9 := H
            have bG9 := bG
            have HK0 := Lib.hid hk0
            clear hk0 hb hI hTc HOW bG H
            go_upto_region 12 with fail
            clear a0 a1 a2 hk2
            have hR := H9.out.R.lt
            refine wp_region_pair (by kernel_rfl) ⟨by kernel_rfl, by kernel_rfl, by kernel_rfl, by kernel_rfl, by kernel_rfl, by kernel_rfl, by kernel_rfl, by kernel_rfl⟩ rowScn rowTir (.tmp 2) (.tmp 6) (.tmp 4) (.tmp 5) (.tmp 59) (.tmp 60) rfl rfl rfl rfl rfl rfl rfl rfl rfl rfl w.heap.size (w.heap.size + 1 + 1 + 1) (w.heap.size + 1) (w.heap.size + 1 + 1) H9.out.A bG9 H9.out.R H9.out.Z rfl rfl rfl rfl (scs_one _ _ _) (tir_one T) (by omega) (by omega) (by omega) (by omega) (by omega) rfl rfl rfl rfl rfl rfl (by exact fun _ _ _ h => h) (by exact fun _ _ _ h => h) ?_
            intro w10 r10 z10 hbut
            go_wp2_with fail
            refine bodyPost_ret (results_blk2 rfl rowScn rowTir rfl rfl r10 z10 rfl rfl) rfl ?_
            exact ⟨t, kk, T, rfl, hbut.bel H9.out.bel (by omega) (by omega), HSR, fun h => absurd h HK0.out⟩
      · have dl : decide ((k : Int) < n) = false := by simp; omega
        have dl2 : decide (k < n) = false := by simp; omega
        have hdone : ¬ 0 < above ∨ (if 0 < above then n - k else 0) = 0 := .inr (by rw [if_pos h0]; omega)
        obtain ⟨A2, c2, rfl, _⟩ := own_slice H.out.up
        obtain ⟨T, hT⟩ : ∃ T : Tir, T = ⟨nm, ⟨A, n, c, ts⟩, ⟨A2, ups.length, c2, ups⟩⟩ := ⟨_, rfl⟩
        have hTc : T.con = ⟨nm, ts, ups⟩ := by subst hT; rfl
        have hTs : T.cs = #[.string ⟨nm.toArray⟩, .slice A n c, .slice A2 ups.length c2] := by subst hT; rfl
        have HOW : Hid (kk = 0 → TirOwn w.heap.size T wr) := by intro h0; obtain ⟨x1, x2, x3, x4, x5, x6, _⟩ := (hI.out.good h0); subst hT; exact ⟨by have := H.out.ts; rw [HNN.out] at this; exact own_less this (by omega), own_less H.out.up (by omega), x1, x2, x3, x4, by show ups.length ≤ 200; have := hdk.out; omega⟩
        have bG := H.out.G
        rw [← hTs] at bG
        have HTC := Lib.hid hTc
        clear hT hTs
        by_cases hk0 : kk = 0
        · subst hk0
          obtain ⟨_, _, _, _, _, _, tn, rfl, htn, hE⟩ := hI.out.good rfl
          have hEq : ptier above l0 = ptierC above T.con (s.drop tn) := by rw [hE, hTc]; exact ptail_done hdone
          have HE := Lib.hid hEq
          have HO := Lib.hid (HOW.out rfl)
          clear hE hEq hI HOW hTc
          go_wp2_with ((with_reducible show wpList _ _ _ (⟨some 55, _, _, _, _, _⟩ :: _) _ _); refine wpList_load_blk rfl rowTir (.tmp 6) rfl (w.heap.size + 1 + 1 + 1) rfl bG rfl ?_)
          refine (trwrong_any T above _ HO.out.rd ha).mono ?_; rintro e w6 ⟨rfl, hb6⟩
          have H6 := Lib.hid (H.out.more hb6)
          have O6 := Lib.hid (HO.out.bel hb6)
          have bG6 := Lib.hid (bG.bel hb6)
          have hEr := tierErr_range T.con above
          obtain ⟨e0, e1, e2, f0, f1, f2⟩ := H6.out.A.three
          clear hb6 H HO bG a0 a1 a2
          generalize hEE : tierErr T.con above = E at *
          have HEE := Lib.hid hEE
          clear hEE
          go_upto_region 12 with fail
          have H9 : Hid (TsW w s tn E nm (.slice A n c) ts (.slice A2 ups.length c2) ups (w6.setCell ⟨w.heap.size, 2, none⟩ (.int .i64 E))) := H6.out.setA (grownBy_setCell _ _ _ _) (by have := H6.out.A.set_ 2 (.int .i64 E); simpa using this)
          have bG9 := bG6.out.grown (grownBy_setCell w6 w.heap.size 2 (.int .i64 E)) (by intro e; injection e with e; omega)
          have O9 : Hid (E = 0 → TirOwn w.heap.size T (w6.setCell ⟨w.heap.size, 2, none⟩ (.int .i64 E))) := fun _ => O6.out.setA H6.out.A
          have HSR : Hid (SRes s (ptier above l0) tn E T.con) := by
            show SRes _ _ _ _ _
            rw [HE.out]
            unfold ptierC
            rw [HEE.out]
            by_cases h0 : E = 0
            · rw [if_pos h0]; exact .inr ⟨h0, tn, rfl, htn, rfl⟩
            · rw [if_neg h0]; exact .inl ⟨h0, rfl⟩
          generalize w6.setCell ⟨w.heap.size, 2, none⟩ (.int .i64 E) = w9 at *
          clear H6 O6 bG6 e0 e1 e2 f0 f1 f2 HE HEE
          have hR := H9.out.R.lt
          refine wp_region_pair (by kernel_rfl) ⟨by kernel_rfl, by kernel_rfl, by kernel_rfl, by kernel_rfl, by kernel_rfl, by kernel_rfl, by kernel_rfl, by kernel_rfl⟩ rowScn rowTir (.tmp 2) (.tmp 6) (.tmp 4) (.tmp 5) (.tmp 59) (.tmp 60) rfl rfl rfl rfl rfl rfl rfl rfl rfl rfl w.heap.size (w.heap.size + 1 + 1 + 1) (w.heap.size + 1) (w.heap.size + 1 + 1) H9.out.A bG9 H9.out.R H9.out.Z rfl rfl rfl rfl (scs_one _ _ _) (tir_one T) (by omega) (by omega) (by omega) (by omega) (by omega) rfl rfl rfl rfl rfl rfl (by exact fun _ _ _ h => h) (by exact fun _ _ _ h => h) ?_
          intro w10 r10 z10 hbut
          go_wp2_with fail
          refine bodyPost_ret (results_blk2 rfl rowScn rowTir rfl rfl r10 z10 rfl rfl) rfl ?_
          exact ⟨tn, E, T, rfl, hbut.bel H9.out.bel (by omega) (by omega), HSR, fun h => (O9.out h).butD hbut H9.out.R H9.out.Z⟩
        · have hb := hI.out.bad hk0
          have hk2 : (kk == 0) = false := by simpa using hk0
          have HSR : Hid (SRes s (ptier above l0) t kk T.con) := .inl ⟨hk0, hb⟩
          have H9 := H
          have bG9 := bG
          have HK0 := Lib.hid hk0
          clear hk0 hb hI hTc HOW bG H
          go_upto_region 12 with fail
          clear a0 a1 a2 hk2
          have hR := H9.out.R.lt
          refine wp_region_pair (by kernel_rfl) ⟨by kernel_rfl, by kernel_rfl, by kernel_rfl, by kernel_rfl, by kernel_rfl, by kernel_rfl, by kernel_rfl, by kernel_rfl⟩ rowScn rowTir (.tmp 2) (.tmp 6) (.tmp 4) (.tmp 5) (.tmp 59) (.tmp 60) rfl rfl rfl rfl rfl rfl rfl rfl rfl rfl w.heap.size (w.heap.size + 1 + 1 + 1) (w.heap.size + 1) (w.heap.size + 1 + 1) H9.out.A bG9 H9.out.R H9.out.Z rfl rfl rfl rfl (scs_one _ _ _) (tir_one T) (by omega) (by omega) (by omega) (by omega) (by omega) rfl rfl rfl rfl rfl rfl (by exact fun _ _ _ h => h) (by exact fun _ _ _ h => h) ?_
          intro w10 r10 z10 hbut
          go_wp2_with fail
          refine bodyPost_ret (results_blk2 rfl rowScn rowTir rfl rfl r10 z10 rfl rfl) rfl ?_
          exact ⟨t, kk, T, rfl, hbut.bel H9.out.bel (by omega) (by omega), HSR, fun h => absurd h HK0.out⟩
    · have d0 : decide ((0 : Int) < above) = false := by simp; omega
      have hdone : ¬ 0 < above ∨ (if 0 < above then n - k else 0) = 0 := .inl h0
      obtain ⟨A2, c2, rfl, _⟩ := own_slice H.out.up
      obtain ⟨T, hT⟩ : ∃ T : Tir, T = ⟨nm, ⟨A, n, c, ts⟩, ⟨A2, ups.length, c2, ups⟩⟩ := ⟨_, rfl⟩
      have hTc : T.con = ⟨nm, ts, ups⟩ := by subst hT; rfl
      have hTs : T.cs = #[.string ⟨nm.toArray⟩, .slice A n c, .slice A2 ups.length c2] := by subst hT; rfl
      have HOW : Hid (kk = 0 → TirOwn w.heap.size T wr) := by intro h0; obtain ⟨x1, x2, x3, x4, x5, x6, _⟩ := (hI.out.good h0); subst hT; exact ⟨by have := H.out.ts; rw [HNN.out] at this; exact own_less this (by omega), own_less H.out.up (by omega), x1, x2, x3, x4, by show ups.length ≤ 200; have := hdk.out; omega⟩
      have bG := H.out.G
      rw [← hTs] at bG
      have HTC := Lib.hid hTc
      clear hT hTs
      by_cases hk0 : kk = 0
      · subst hk0
        obtain ⟨_, _, _, _, _, _, tn, rfl, htn, hE⟩ := hI.out.good rfl
        have hEq : ptier above l0 = ptierC above T.con (s.drop tn) := by rw [hE, hTc]; exact ptail_done hdone
        have HE := Lib.hid hEq
        have HO := Lib.hid (HOW.out rfl)
        clear hE hEq hI HOW hTc
        go_wp2_with ((with_reducible show wpList _ _ _ (⟨some 55, _, _, _, _, _⟩ :: _) _ _); refine wpList_load_blk rfl rowTir (.tmp 6) rfl (w.heap.size + 1 + 1 + 1) rfl bG rfl ?_)
        refine (trwrong_any T above _ HO.out.rd ha).mono ?_; rintro e w6 ⟨rfl, hb6⟩
        have H6 := Lib.hid (H.out.more hb6)
        have O6 := Lib.hid (HO.out.bel hb6)
        have bG6 := Lib.hid (bG.bel hb6)
        have hEr := tierErr_range T.con above
        obtain ⟨e0, e1, e2, f0, f1, f2⟩ := H6.out.A.three
        clear hb6 H HO bG a0 a1 a2
        generalize hEE : tierErr T.con above = E at *
        have HEE := Lib.hid hEE
        clear hEE
        go_upto_region 12 with fail
        have H9 : Hid (TsW w s tn E nm (.slice A n c) ts (.slice A2 ups.length c2) ups (w6.setCell ⟨w.heap.size, 2, none⟩ (.int .i64 E))) := H6.out.setA (grownBy_setCell _ _ _ _) (by have := H6.out.A.set_ 2 (.int .i64 E); simpa using this)
        have bG9 := bG6.out.grown (grownBy_setCell w6 w.heap.size 2 (.int .i64 E)) (by intro e; injection e with e; omega)
        have O9 : Hid (E = 0 → TirOwn w.heap.size T (w6.setCell ⟨w.heap.size, 2, none⟩ (.int .i64 E))) := fun _ => O6.out.setA H6.out.A
        have HSR : Hid (SRes s (ptier above l0) tn E T.con) := by
          show SRes _ _ _ _ _
          rw [HE.out]
          unfold ptierC
          rw [HEE.out]
          by_cases h0 : E = 0
          · rw [if_pos h0]; exact .inr ⟨h0, tn, rfl, htn, rfl⟩
          · rw [if_neg h0]; exact .inl ⟨h0, rfl⟩
        generalize w6.setCell ⟨w.heap.size, 2, none⟩ (.int .i64 E) = w9 at *
        clear H6 O6 bG6 e0 e1 e2 f0 f1 f2 HE HEE
        have hR := H9.out.R.lt
        refine wp_region_pair (by kernel_rfl) ⟨by kernel_rfl, by kernel_rfl, by kernel_rfl, by kernel_rfl, by kernel_rfl, by kernel_rfl, by kernel_rfl, by kernel_rfl⟩ rowScn rowTir (.tmp 2) (.tmp 6) (.tmp 4) (.tmp 5) (.tmp 59) (.tmp 60) rfl rfl rfl rfl rfl rfl rfl rfl rfl rfl w.heap.size (w.heap.size + 1 + 1 + 1) (w.heap.size + 1) (w.heap.size + 1 + 1) H9.out.A bG9 H9.out.R H9.out.Z rfl rfl rfl rfl (scs_one _ _ _) (tir_one T) (by omega) (by omega) (by omega) (by omega) (by omega) rfl rfl rfl rfl rfl rfl (by exact fun _ _ _ h => h) (by exact fun _ _ _ h => h) ?_
        intro w10 r10 z10 hbut
        go_wp2_with fail
        refine bodyPost_ret (results_blk2 rfl rowScn rowTir rfl rfl r10 z10 rfl rfl) rfl ?_
        exact ⟨tn, E, T, rfl, hbut.bel H9.out.bel (by omega) (by omega), HSR, fun h => (O9.out h).butD hbut H9.out.R H9.out.Z⟩
      · have hb := hI.out.bad hk0
        have hk2 : (kk == 0) = false := by simpa using hk0
        have HSR : Hid (SRes s (ptier above l0) t kk T.con) := .inl ⟨hk0, hb⟩
        have H9 := H
        have bG9 := bG
        have HK0 := Lib.hid hk0
        clear hk0 hb hI hTc HOW bG H
        go_upto_region 12 with fail
        clear a0 a1 a2 hk2
        have hR := H9.out.R.lt
        refine wp_region_pair (by kernel_rfl) ⟨by kernel_rfl, by kernel_rfl, by kernel_rfl, by kernel_rfl, by kernel_rfl, by kernel_rfl, by kernel_rfl, by kernel_rfl⟩ rowScn rowTir (.tmp 2) (.tmp 6) (.tmp 4) (.tmp 5) (.tmp 59) (.tmp 60) rfl rfl rfl rfl rfl rfl rfl rfl rfl rfl w.heap.size (w.heap.size + 1 + 1 + 1) (w.heap.size + 1) (w.heap.size + 1 + 1) H9.out.A bG9 H9.out.R H9.out.Z rfl rfl rfl rfl (scs_one _ _ _) (tir_one T) (by omega) (by omega) (by omega) (by omega) (by omega) rfl rfl rfl rfl rfl rfl (by exact fun _ _ _ h => h) (by exact fun _ _ _ h => h) ?_
        intro w10 r10 z10 hbut
        go_wp2_with fail
        refine bodyPost_ret (results_blk2 rfl rowScn rowTir rfl rfl r10 z10 rfl rfl) rfl ?_
        exact ⟨t, kk, T, rfl, hbut.bel H9.out.bel (by omega) (by omega), HSR, fun h => absurd h HK0.out⟩

end Go.Proofs.Ytnjpoamebkehbaa
