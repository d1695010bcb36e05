/- The document's Read of rows of texts. -/
import Derived.Test.YtnjpoamebkehbaaTermU
import Derived.Test.YtnjpoamebkehbaaTermV
import Derived.Test.YtnjpoamebkehbaaTail
import Derived.Test.YtnjpoamebkehbaaMemB
namespace Go.Proofs.Ytnjpoamebkehbaa
open Go.RowKit
set_option linter.unusedVariables false
set_option linter.unusedSimpArgs false

/-- The document's Want, whatever the scan. -/
def wantK (k : Int) (is : Bool) (n : Int) : Int := if k ≠ 0 then k else if is then 0 else wantErr n
theorem rwant_any (s : List UInt8) (t k n : Int) (is : Bool) (w : World) :
    Calls Try.prog 98 #[scn s t k, .bool is, .int .i64 n] w fun e w' => e = .returned (scn s t (wantK k is n)) ∧ Bel w w' := by
  by_cases hk : k = 0
  · subst hk
    cases is
    · exact rwant_no s t n w
    · exact rwant_yes s t n w
  · have : wantK k is n = k := by unfold wantK; rw [if_pos hk]
    rw [this]
    exact rwant_bad s t k n is hk w

def prErr {α : Type} (o : PR α) : Int := match o with | .error k => k | .ok _ => 0

/-- How the document's Read ends. -/
def RdPost (s : List UInt8) (o : PR (List (List UInt8))) (w : World) (e : Ending) (w' : World) : Prop :=
  Bel w w' ∧ ∃ (t : Int) (A : Option Addr) (c : Nat) (ds : List (List UInt8)), e = .returned (.tuple #[scn s t (prErr o), .slice A ds.length c]) ∧ w'.ownsRow w.heap.size 9 1 (.slice A ds.length c) ds.length (ds.map tx) ∧ ∀ ts l, o = .ok (ts, l) → ds = ts ∧ ∃ tn : Nat, t = tn ∧ tn ≤ s.length ∧ l = s.drop tn

/-- Where the document's Read stands. -/
def RdInv (s l0 : List UInt8) (most : Int) (n k : Nat) (ds : List (List UInt8)) (was : List UInt8) (t kk : Int) : Prop :=
  (kk = 0 ∧ was.length ≤ 16 ∧ ∃ tn : Nat, t = tn ∧ tn ≤ s.length ∧ k + (s.drop tn).length ≤ 1000001 ∧ tread most l0 = ahead ds (treads was (n - k) (s.drop tn))) ∨ (kk ≠ 0 ∧ tread most l0 = .error kk)
theorem RdInv.bad {s l0 : List UInt8} {most : Int} {n k : Nat} {ds : List (List UInt8)} {was : List UInt8} {t kk : Int} (h : RdInv s l0 most n k ds was t kk) (hk : kk ≠ 0) : tread most l0 = .error kk := by
  rcases h with ⟨h, _⟩ | ⟨_, h⟩
  · exact absurd h hk
  · exact h
theorem RdInv.good {s l0 : List UInt8} {most : Int} {n k : Nat} {ds : List (List UInt8)} {was : List UInt8} {t : Int} (h : RdInv s l0 most n k ds was t 0) : was.length ≤ 16 ∧ ∃ tn : Nat, t = tn ∧ tn ≤ s.length ∧ k + (s.drop tn).length ≤ 1000001 ∧ tread most l0 = ahead ds (treads was (n - k) (s.drop tn)) := by
  rcases h with ⟨_, h⟩ | ⟨h, _⟩
  · exact h
  · exact absurd rfl h

theorem rnum0_any (s : List UInt8) (t0 : Nat) (most : Int) (hs : s.length ≤ 1000001) (ht0 : t0 ≤ s.length) (h0 : -9223372036854775808 ≤ most) (h1 : most ≤ 9223372036854775807) (w : World) :
    Calls Try.prog 97 #[scn s t0 0, .int .i64 most] w fun e w' => ∃ (n : Nat) (t kk : Int), e = .returned (.tuple #[scn s t kk, .int .i64 n]) ∧ Bel w w' ∧ (n : Int) ≤ 9223372036854775807 ∧ Hid (RdInv s (s.drop t0) most n 0 [] [] t kk) := by
  have h := rnum_any s t0 most hs ht0 h0 h1 w
  refine h.mono ?_
  rintro e w' ⟨hb, hm⟩
  cases hp : pnum most (s.drop t0) with
  | error k =>
    rw [hp] at hm
    obtain ⟨t, rfl⟩ := hm
    have := pnum_err hp
    exact ⟨0, t, k, rfl, hb, by omega, .inr ⟨by omega, by unfold tread; rw [hp]⟩⟩
  | ok q =>
    obtain ⟨n, l⟩ := q
    rw [hp] at hm
    obtain ⟨t, ht, hl, rfl⟩ := hm
    subst hl
    have := pnum_ok hp
    refine ⟨n, t, 0, rfl, hb, by omega, .inl ⟨rfl, by simp, t, rfl, ht, by simp; omega, ?_⟩⟩
    rw [ahead_nil, Nat.sub_zero]
    unfold tread
    rw [hp]

/-- A round's number; and its text. -/
def NumR (s was : List UInt8) (t : Nat) (t' k' : Int) (m : Nat) : Prop :=
  (k' ≠ 0 ∧ m = 0 ∧ tround was (s.drop t) = .error k') ∨ (k' = 0 ∧ ∃ tn : Nat, t' = tn ∧ tn ≤ s.length ∧ t < tn ∧ pnum was.length (s.drop t) = .ok (m, s.drop tn))
theorem rnumR_any (s was : List UInt8) (t : Nat) (hs : s.length ≤ 1000001) (ht : t ≤ s.length) (hw : was.length ≤ 16) (w : World) :
    Calls Try.prog 97 #[scn s t 0, .int .i64 was.length] w fun e w' => ∃ (m : Nat) (t' k' : Int), e = .returned (.tuple #[scn s t' k', .int .i64 m]) ∧ Bel w w' ∧ (m : Int) ≤ was.length ∧ Hid (NumR s was t t' k' m) := by
  refine (rnum_any s t was.length hs ht (by omega) (by omega) w).mono ?_
  rintro e w' ⟨hb, hm⟩
  cases hp : pnum was.length (s.drop t) with
  | error k =>
    rw [hp] at hm
    obtain ⟨t', rfl⟩ := hm
    have := pnum_err hp
    exact ⟨0, t', k, rfl, hb, by omega, .inl ⟨by omega, rfl, by unfold tround; rw [hp]⟩⟩
  | ok q =>
    obtain ⟨n, l⟩ := q
    rw [hp] at hm
    obtain ⟨t', ht', hl, rfl⟩ := hm
    subst hl
    have h1 := pnum_ok hp
    have h2 := pnum_lt hp
    simp only [List.length_drop] at h2
    exact ⟨n, t', 0, rfl, hb, h1.2.1, .inr ⟨rfl, t', rfl, ht', by omega, hp⟩⟩
def TxtR (s was : List UInt8) (t : Nat) (m : Nat) (t' k' : Int) (x : List UInt8) : Prop :=
  (k' ≠ 0 ∧ tround was (s.drop t) = .error k') ∨ (k' = 0 ∧ ∃ tn : Nat, t' = tn ∧ tn ≤ s.length ∧ t < tn ∧ tround was (s.drop t) = if isTerm (was.take m ++ x) && (alike was (was.take m ++ x) == m) && Op.bytesLess was (was.take m ++ x) then .ok (was.take m ++ x, s.drop tn) else .error 3)
theorem rtxtR_any (s was : List UInt8) (t : Nat) (t' k' : Int) (m : Nat) (hs : s.length ≤ 1000001) (hN : NumR s was t t' k' m) (w : World) :
    Calls Try.prog 95 #[scn s t' k', .int .i64 16] w fun e w' => ∃ (x : List UInt8) (t2 k2 : Int), e = .returned (.tuple #[scn s t2 k2, .string ⟨x.toArray⟩]) ∧ Bel w w' ∧ x.length ≤ 16 ∧ Hid (TxtR s was t m t2 k2 x) := by
  rcases hN with ⟨hk, hm, hr⟩ | ⟨rfl, tn, rfl, htn, hlt, hp⟩
  · refine (rtext_bad s t' k' 16 hk w).mono ?_
    rintro e w' ⟨rfl, hb⟩
    exact ⟨[], t', k', rfl, hb, by simp, .inl ⟨hk, hr⟩⟩
  · refine (rtext_any s tn 16 hs htn (by omega) (by omega) w).mono ?_
    rintro e w' ⟨hb, hm⟩
    cases hx : ptxt 16 (s.drop tn) with
    | error k =>
      rw [hx] at hm
      obtain ⟨t2, rfl⟩ := hm
      refine ⟨[], t2, k, rfl, hb, by simp, .inl ⟨?_, ?_⟩⟩
      · unfold ptxt at hx
        split at hx
        · rename_i h2
          injection hx with hx
          subst hx
          have := pnum_err h2
          omega
        · have := (pfix_err hx).1
          omega
      · unfold tround
        rw [hp]
        show (match ptxt 16 (s.drop tn) with | .error e => _ | .ok (x, r2) => _) = _
        rw [hx]
    | ok q =>
      obtain ⟨x, l⟩ := q
      rw [hx] at hm
      obtain ⟨t2, ht2, hl, rfl⟩ := hm
      have h1 := ptxt_ok hx
      subst hl
      simp only [List.length_drop] at h1
      refine ⟨x, t2, 0, rfl, hb, by omega, .inr ⟨rfl, t2, rfl, ht2, by omega, ?_⟩⟩
      unfold tround
      rw [hp]
      show (match ptxt 16 (s.drop tn) with | .error e => _ | .ok (x, r2) => _) = _
      rw [hx]

/-- A round of the document's Read. -/
theorem RdInv.step {s l0 : List UInt8} {most : Int} {n k : Nat} {ds : List (List UInt8)} {was : List UInt8} {t : Nat} {m : Nat} {t2 k2 : Int} {x : List UInt8} {B : Bool} (hk : k < n) (ht : t ≤ s.length) (hl : k + (s.drop t).length ≤ 1000001) (hE : tread most l0 = ahead ds (treads was (n - k) (s.drop t)))
    (hT : TxtR s was t m t2 k2 x) (hB : B = (isTerm (was.take m ++ x) && (alike was (was.take m ++ x) == m) && Op.bytesLess was (was.take m ++ x))) :
    RdInv s l0 most n (k + 1) (ds ++ [was.take m ++ x]) (was.take m ++ x) t2 (wantK k2 B 3) := by
  have hn : n - k = (n - (k + 1)) + 1 := by omega
  rw [hn] at hE
  rcases hT with ⟨h1, h2⟩ | ⟨rfl, tn, rfl, h1, h2, h3⟩
  · have : wantK k2 B 3 = k2 := by unfold wantK; rw [if_pos h1]
    rw [this]
    exact .inr ⟨h1, by rw [hE]; exact ahead_err h2⟩
  · rw [← hB] at h3
    cases B with
    | false => exact .inr ⟨by decide, by rw [hE]; exact ahead_err h3⟩
    | true =>
      refine .inl ⟨rfl, ?_, tn, rfl, h1, ?_, ?_⟩
      · have hz := hB.symm
        simp only [Bool.and_eq_true] at hz
        have := hz.1.1
        unfold isTerm at this
        simp at this
        simp
        omega
      · simp only [List.length_drop] at *
        omega
      · rw [hE]
        exact ahead_step h3

/-- Memory in the document's Read. -/
structure RdW (w : World) (s : List UInt8) (t kk : Int) (v : Value) (ds : List (List UInt8)) (wr : World) : Prop where
  bel : Bel w wr
  A : Blk wr w.heap.size 47 (scs s t kk)
  R : Blk wr (w.heap.size + 1) 47 (scs [] 0 0)
  own : wr.ownsRow (w.heap.size + 2) 9 1 v ds.length (ds.map tx)
section
variable {w w1 w2 : World} {s : List UInt8} {t kk : Int} {v : Value} {ds : List (List UInt8)}
theorem RdW.more (h : RdW w s t kk v ds w1) (hb : Bel w1 w2) : RdW w s t kk v ds w2 := ⟨h.bel.trans hb, h.A.bel hb, h.R.bel hb, own_bel h.own hb⟩
theorem RdW.setA {t' k' : Int} (h : RdW w s t kk v ds w1) (hg : w1.grownBy w2 (some w.heap.size)) (hA : Blk w2 w.heap.size 47 (scs s t' k')) : RdW w s t' k' v ds w2 :=
  ⟨h.bel.grownAt hg (Nat.le_refl _), hA, h.R.grown hg (by simp), h.own.kept hg (by
    rcases ho : v.ownBlock with _ | k
    · exact .inl rfl
    · refine .inr fun e => ?_
      injection e with e
      have := (h.own.lt k ho).1
      omega)⟩
theorem RdW.at5 {w5 : World} (h3 : RdW w s t kk v ds w1) (h : RdW w s t kk v ds w2) (hg : w2.grownBy w5 (some w1.heap.size)) : RdW w s t kk v ds w5 :=
  ⟨h.bel.grownAt hg h3.bel.size, h.A.grown hg (by have := h3.A.lt; simp; omega), h.R.grown hg (by have := h3.R.lt; simp; omega), h.own.kept hg (by
    rcases ho : v.ownBlock with _ | k
    · exact .inl rfl
    · refine .inr fun e => ?_
      injection e with e
      have := (h3.own.lt k ho).2
      omega)⟩
theorem RdW.app {v' : Value} {x : List UInt8} (h : RdW w s t kk v ds w1) (ho : w2.ownsRow (w.heap.size + 2) 9 1 v' (ds.length + 1) (ds.map tx ++ [tx x])) (hg : w1.grownBy w2 v.ownBlock) : RdW w s t kk v' (ds ++ [x]) w2 :=
  ⟨h.bel.grown hg (fun k e => by have := (h.own.lt k e).1; omega), h.A.grown hg (fun e => by have := (h.own.lt _ e.symm).1; omega), h.R.grown hg (fun e => by have := (h.own.lt _ e.symm).1; omega), by simpa using ho⟩
end

theorem own_apart {w : World} {base : Nat} {e : TypeId} {size n : Nat} {v : Value} {xs : List Value} (h : w.ownsRow base e size v n xs) {g : Nat} (hg : g < base) : v.ownBlock = none ∨ v.ownBlock ≠ some g := by
  rcases ho : v.ownBlock with _ | k
  · exact .inl rfl
  · refine .inr fun e => ?_
    injection e with e
    have := (h.lt k ho).1
    omega

set_option maxRecDepth 100000 in
set_option maxHeartbeats 1000000 in
theorem rtreadAt_any (s : List UInt8) (t0 : Nat) (most : Int) (w : World) (hs : s.length ≤ 1000001) (ht0 : t0 ≤ s.length) (m0 : -9223372036854775808 ≤ most) (m1 : most ≤ 9223372036854775807) :
    Calls Try.prog 96 #[scn s t0 0, .int .i64 most] w (RdPost s (tread most (s.drop t0)) w) := by
  go_enter Try.func96, Try.ntmps96
  go_wp2_with fail
  have bA := (Blk.new w 47 (scs s t0 0)).alloc (.cells #[.string ⟨#[]⟩, .int .i64 0, .int .i64 0] 47)
  have bB := Blk.new (w.alloc (.cells (scs s t0 0) 47)) 47 #[.string ⟨#[]⟩, .int .i64 0, .int .i64 0]
  have hW := ((Bel.refl w).alloc (.cells (scs s t0 0) 47)).alloc (.cells #[.string ⟨#[]⟩, .int .i64 0, .int .i64 0] 47)
  rw [World.size_alloc] at bB
  refine (rnum0_any s t0 most hs ht0 m0 m1 _).mono ?_; rintro e w1 ⟨n, t, kk, rfl, hb1, hn, HI⟩
  have H1 : RdW w s t0 0 (.slice none 0 0) [] w1 := ⟨hW.trans hb1, bA.bel hb1, bB.bel hb1, ⟨rfl, .inl ⟨rfl, rfl⟩⟩⟩
  have bA1 := H1.A
  have HW1 := Lib.hid H1
  clear bA bB hW hb1 H1
  go_wp2_with (((with_reducible show wpList _ _ _ (⟨_, .store _ (.tmp 2) _, _, _, _, _⟩ :: _) _ _); refine wpList_store_blk rfl rowScn (.tmp 2) (.tmp 17) rfl w.heap.size rfl bA1 rfl (scs s t kk) rfl rfl (scs_one _ _ _) ?_; intro w2 bA2 hg2; have HW2 := Lib.hid (HW1.out.setA hg2 bA2); clear bA1 bA2 hg2 HW1))
  go_loopg [7, 8, 9] n (fun g s7 s8 i wr => ∃ (k : Nat) (ds : List (List UInt8)) (was : List UInt8) (t kk : Int), g = n - k ∧ k ≤ n ∧ i = .int .i64 k ∧ s8 = .string ⟨was.toArray⟩ ∧ Hid (ds.length = k) ∧ Hid (RdW w s t kk s7 ds wr) ∧ Hid (RdInv s (s.drop t0) most n k ds was t kk))
  case atStart => exact ⟨0, [], [], t, kk, rfl, by omega, rfl, rfl, rfl, HW2, HI⟩
  case round =>
    obtain ⟨k, ds, was, t, kk, hgk, hk, rfl, rfl, hdk, H, hI⟩ := hrel
    have Hgk := Lib.hid hgk
    clear hgk HI HW2
    obtain ⟨a0, a1, a2, f0, f1, f2⟩ := H.out.A.three
    by_cases hlt : k < n
    · by_cases hk0 : kk = 0
      · subst hk0
        obtain ⟨hwas, tn, rfl, htn, hkl, hE⟩ := hI.out.good
        have HE := Lib.hid hE
        simp only [List.length_drop] at hkl
        clear hE
        go_wp2_with fail
        refine (rnumR_any s was tn hs htn hwas _).mono ?_; rintro e w3 ⟨m, t', k', rfl, hb3, hm, hN⟩
        have H3 := Lib.hid (H.out.more hb3)
        clear a0 a1 a2 f0 f1 f2 hb3 H
        have km : (0 : Int) ≤ m := by omega
        go_wp2_with (((with_reducible show wpList _ _ _ (⟨_, .store _ (.tmp 10) _, _, _, _, _⟩ :: _) _ _); refine wpList_store_new rfl rowScn (.tmp 10) (.tmp 34) rfl rfl rfl (scs s t' k') rfl rfl (scs_one _ _ _) ?_))
        refine (rtxtR_any s was tn t' k' m hs hN.out _).mono ?_; rintro e w4 ⟨x, t2, k2, rfl, hb4, hx, hT⟩
        have bq := (Blk.new w3 47 (scs s t' k')).bel hb4
        have H4 := Lib.hid ((H3.out.more ((Bel.refl _).alloc _)).more hb4)
        have hz3 : w3.heap.size < w4.heap.size := by have := hb4.size; simp at this; omega
        clear hb4 hN
        go_wp2_with (((with_reducible show wpList _ _ _ (⟨_, .store _ (.tmp 10) _, _, _, _, _⟩ :: _) _ _); refine wpList_store_blk rfl rowScn (.tmp 10) (.tmp 39) rfl w3.heap.size rfl bq rfl (scs s t2 k2) rfl rfl (scs_one _ _ _) ?_; intro w5 bq5 hg5; have H5 := Lib.hid (H3.out.at5 H4.out hg5); clear hg5 bq H4))
        simp only [str_upto, str_append]
        have hzl : (was.take m ++ x).length ≤ 32 := by simp; omega
        have HS := Lib.hid (fun B hB => RdInv.step (B := B) hlt htn (by simp; omega) HE.out hT.out hB)
        have HIS := Lib.hid (fun w => is_any (was.take m ++ x) w (by omega))
        have HAL := Lib.hid (fun w => ralike_any was (was.take m ++ x) w (by omega) (by omega))
        generalize was.take m ++ x = z at *
        have BQ := Lib.hid bq5
        clear bq5 H3 HE hT hI
        cases hT : isTerm z with
        | false =>
          rw [hT] at HIS
          replace HS := Lib.hid (HS.out false (by rw [hT]; rfl))
          refine wp_region_over_tail 16 (by kernel_rfl) (by kernel_rfl) ?_
          simp only [List.take_succ_cons, List.take_zero, List.drop_succ_cons, List.drop_zero]
          repeat (first
            | ((with_reducible show wpQuiet _ _ _ _ (⟨some 46, _, _, _, _, _⟩ :: _) _); refine wpQuiet_load_row rfl rowScn (.tmp 10) rfl w3.heap.size 0 rfl (scs s t2 k2) rfl BQ.out.lt BQ.out.range ?_; simp only [Act.put, List.setIfInBounds_toArray, List.set_cons_zero, List.set_cons_succ])
            | go_big_quiet_step ((first | (go_at_call 114; exact calls_over_same (HIS.out _)) | (go_at_call 98; exact calls_over (rwant_any s t2 k2 3 false _)))))
          refine wpQuiet_nil ?_
          rintro ⟨w6, hb6⟩
          have H6 := Lib.hid (H5.out.more hb6)
          dsimp only
          clear hb6 H5
          have bA6 := H6.out.A
          go_wp2_with (first | ((with_reducible show wpList _ _ _ (⟨_, .store _ (.tmp 2) _, _, _, _, _⟩ :: _) _ _); refine wpList_store_blk rfl rowScn (.tmp 2) (.tmp 61) rfl w.heap.size rfl bA6 rfl (scs s t2 (wantK k2 false 3)) rfl rfl (scs_one _ _ _) ?_; intro w7 bA7 hg7; have H7 := Lib.hid (H6.out.setA hg7 bA7); have hz7 := H7.out.R.lt; clear bA6 bA7 hg7 H6) | ((with_reducible show wpList _ _ _ (⟨some 65, _, _, _, _, _⟩ :: _) _ _); refine wpList_append0 rfl (.tmp 62) (.tmp 64) _ rfl E_text (w.heap.size + 2) (by simp; omega) u7 ds.length _ rfl (H7.out.more ((Bel.refl _).alloc _)).own _ 1 1 [tx z] rfl (rd_new _ _ _ 1 1 rfl) (by simp [Value.oneCell']) (by have := hdk.out; unfold maxLen; omega) (by have := hdk.out; omega) ?_; intro v8 w8 hown8 hg8 hat8))
          go_roundg (n - (k + 1))
          case rel => exact ⟨k + 1, ds ++ [z], z, t2, wantK k2 false 3, rfl, by omega, by go_num, rfl, by show _ = _; have := hdk.out; simp [this], (H7.out.more ((Bel.refl _).alloc _)).app hown8 hg8, HS⟩
          case measure => rw [Hgk.out]; omega
        | true =>
          rw [hT] at HIS
          cases hL : Op.bytesLess was z with
          | false =>
            replace HS := Lib.hid (HS.out false (by rw [hL]; simp))
            have hG := gt_less was z
            rw [hL] at hG
            refine wp_region_over_tail 16 (by kernel_rfl) (by kernel_rfl) ?_
            simp only [List.take_succ_cons, List.take_zero, List.drop_succ_cons, List.drop_zero]
            repeat (first
              | ((with_reducible show wpQuiet _ _ _ _ (⟨some 46, _, _, _, _, _⟩ :: _) _); refine wpQuiet_load_row rfl rowScn (.tmp 10) rfl w3.heap.size 0 rfl (scs s t2 k2) rfl BQ.out.lt BQ.out.range ?_; simp only [Act.put, List.setIfInBounds_toArray, List.set_cons_zero, List.set_cons_succ])
              | go_big_quiet_step ((first | (go_at_call 114; exact calls_over_same (HIS.out _)) | (go_at_call 98; exact calls_over (rwant_any s t2 k2 3 false _)))))
            refine wpQuiet_nil ?_
            rintro ⟨w6, hb6⟩
            have H6 := Lib.hid (H5.out.more hb6)
            dsimp only
            clear hb6 H5
            have bA6 := H6.out.A
            go_wp2_with (first | ((with_reducible show wpList _ _ _ (⟨_, .store _ (.tmp 2) _, _, _, _, _⟩ :: _) _ _); refine wpList_store_blk rfl rowScn (.tmp 2) (.tmp 61) rfl w.heap.size rfl bA6 rfl (scs s t2 (wantK k2 false 3)) rfl rfl (scs_one _ _ _) ?_; intro w7 bA7 hg7; have H7 := Lib.hid (H6.out.setA hg7 bA7); have hz7 := H7.out.R.lt; clear bA6 bA7 hg7 H6) | ((with_reducible show wpList _ _ _ (⟨some 65, _, _, _, _, _⟩ :: _) _ _); refine wpList_append0 rfl (.tmp 62) (.tmp 64) _ rfl E_text (w.heap.size + 2) (by simp; omega) u7 ds.length _ rfl (H7.out.more ((Bel.refl _).alloc _)).own _ 1 1 [tx z] rfl (rd_new _ _ _ 1 1 rfl) (by simp [Value.oneCell']) (by have := hdk.out; unfold maxLen; omega) (by have := hdk.out; omega) ?_; intro v8 w8 hown8 hg8 hat8))
            go_roundg (n - (k + 1))
            case rel => exact ⟨k + 1, ds ++ [z], z, t2, wantK k2 false 3, rfl, by omega, by go_num, rfl, by show _ = _; have := hdk.out; simp [this], (H7.out.more ((Bel.refl _).alloc _)).app hown8 hg8, HS⟩
            case measure => rw [Hgk.out]; omega
          | true =>
            have hG := gt_less was z
            rw [hL] at hG
            by_cases hA : alike was z = m
            · replace HS := Lib.hid (HS.out true (by rw [hT, hL, hA]; simp))
              rw [hA] at HAL
              clear hA
              refine wp_region_over_tail 16 (by kernel_rfl) (by kernel_rfl) ?_
              simp only [List.take_succ_cons, List.take_zero, List.drop_succ_cons, List.drop_zero]
              repeat (first
                | ((with_reducible show wpQuiet _ _ _ _ (⟨some 46, _, _, _, _, _⟩ :: _) _); refine wpQuiet_load_row rfl rowScn (.tmp 10) rfl w3.heap.size 0 rfl (scs s t2 k2) rfl BQ.out.lt BQ.out.range ?_; simp only [Act.put, List.setIfInBounds_toArray, List.set_cons_zero, List.set_cons_succ])
                | go_big_quiet_step ((first | (go_at_call 114; exact calls_over_same (HIS.out _)) | (go_at_call 137; exact calls_over (HAL.out _)) | (go_at_call 98; exact calls_over (rwant_any s t2 k2 3 true _)))))
              refine wpQuiet_nil ?_
              rintro ⟨w6, hb6⟩
              have H6 := Lib.hid (H5.out.more hb6)
              dsimp only
              clear hb6 H5
              have bA6 := H6.out.A
              go_wp2_with (first | ((with_reducible show wpList _ _ _ (⟨_, .store _ (.tmp 2) _, _, _, _, _⟩ :: _) _ _); refine wpList_store_blk rfl rowScn (.tmp 2) (.tmp 61) rfl w.heap.size rfl bA6 rfl (scs s t2 (wantK k2 true 3)) rfl rfl (scs_one _ _ _) ?_; intro w7 bA7 hg7; have H7 := Lib.hid (H6.out.setA hg7 bA7); have hz7 := H7.out.R.lt; clear bA6 bA7 hg7 H6) | ((with_reducible show wpList _ _ _ (⟨some 65, _, _, _, _, _⟩ :: _) _ _); refine wpList_append0 rfl (.tmp 62) (.tmp 64) _ rfl E_text (w.heap.size + 2) (by simp; omega) u7 ds.length _ rfl (H7.out.more ((Bel.refl _).alloc _)).own _ 1 1 [tx z] rfl (rd_new _ _ _ 1 1 rfl) (by simp [Value.oneCell']) (by have := hdk.out; unfold maxLen; omega) (by have := hdk.out; omega) ?_; intro v8 w8 hown8 hg8 hat8))
              go_roundg (n - (k + 1))
              case rel => exact ⟨k + 1, ds ++ [z], z, t2, wantK k2 true 3, rfl, by omega, by go_num, rfl, by show _ = _; have := hdk.out; simp [this], (H7.out.more ((Bel.refl _).alloc _)).app hown8 hg8, HS⟩
              case measure => rw [Hgk.out]; omega
            · replace HS := Lib.hid (HS.out false (by simp [hA]))
              have hA2 : ((alike was z : Int) == (m : Int)) = false := by simp; omega
              have hA3 : (alike was z == m) = false := by simp [hA]
              clear hA
              refine wp_region_over_tail 16 (by kernel_rfl) (by kernel_rfl) ?_
              simp only [List.take_succ_cons, List.take_zero, List.drop_succ_cons, List.drop_zero]
              repeat (first
                | ((with_reducible show wpQuiet _ _ _ _ (⟨some 46, _, _, _, _, _⟩ :: _) _); refine wpQuiet_load_row rfl rowScn (.tmp 10) rfl w3.heap.size 0 rfl (scs s t2 k2) rfl BQ.out.lt BQ.out.range ?_; simp only [Act.put, List.setIfInBounds_toArray, List.set_cons_zero, List.set_cons_succ])
                | go_big_quiet_step ((first | (go_at_call 114; exact calls_over_same (HIS.out _)) | (go_at_call 137; exact calls_over (HAL.out _)) | (go_at_call 98; exact calls_over (rwant_any s t2 k2 3 false _)))))
              refine wpQuiet_nil ?_
              rintro ⟨w6, hb6⟩
              have H6 := Lib.hid (H5.out.more hb6)
              dsimp only
              clear hb6 H5
              have bA6 := H6.out.A
              go_wp2_with (first | ((with_reducible show wpList _ _ _ (⟨_, .store _ (.tmp 2) _, _, _, _, _⟩ :: _) _ _); refine wpList_store_blk rfl rowScn (.tmp 2) (.tmp 61) rfl w.heap.size rfl bA6 rfl (scs s t2 (wantK k2 false 3)) rfl rfl (scs_one _ _ _) ?_; intro w7 bA7 hg7; have H7 := Lib.hid (H6.out.setA hg7 bA7); have hz7 := H7.out.R.lt; clear bA6 bA7 hg7 H6) | ((with_reducible show wpList _ _ _ (⟨some 65, _, _, _, _, _⟩ :: _) _ _); refine wpList_append0 rfl (.tmp 62) (.tmp 64) _ rfl E_text (w.heap.size + 2) (by simp; omega) u7 ds.length _ rfl (H7.out.more ((Bel.refl _).alloc _)).own _ 1 1 [tx z] rfl (rd_new _ _ _ 1 1 rfl) (by simp [Value.oneCell']) (by have := hdk.out; unfold maxLen; omega) (by have := hdk.out; omega) ?_; intro v8 w8 hown8 hg8 hat8))
              go_roundg (n - (k + 1))
              case rel => exact ⟨k + 1, ds ++ [z], z, t2, wantK k2 false 3, rfl, by omega, by go_num, rfl, by show _ = _; have := hdk.out; simp [this], (H7.out.more ((Bel.refl _).alloc _)).app hown8 hg8, HS⟩
              case measure => rw [Hgk.out]; omega
      · have d1 : (kk == 0) = false := by simpa using hk0
        have HN := Lib.hid (hI.out.bad hk0)
        have bR := H.out.R
        clear hk0 hI
        go_wp2_with (((with_reducible show wpList _ _ _ (⟨_, .store _ (.tmp 4) _, _, _, _, _⟩ :: _) _ _); refine wpList_store_blk rfl rowScn (.tmp 4) (.tmp 67) rfl (w.heap.size + 1) rfl bR rfl (scs s t kk) rfl rfl (scs_one _ _ _) ?_; intro w7 bC hg7))
        obtain ⟨A, c, rfl, _⟩ := own_slice H.out.own
        refine bodyPost_ret (results_blk rfl rowScn rfl bC rfl) rfl ?_
        rw [HN.out]
        refine ⟨H.out.bel.grownAt hg7 (by omega), t, A, c, ds, rfl, own_less (H.out.own.kept hg7 ?_) (by omega), fun ts l h => by cases h⟩
        exact own_apart H.out.own (by omega)
    · have bR := H.out.R
      obtain ⟨A, c, hv, _⟩ := own_slice H.out.own
      subst hv
      have HN : Hid (kk = prErr (tread most (s.drop t0)) ∧ ∀ ts l, tread most (s.drop t0) = .ok (ts, l) → ds = ts ∧ ∃ tn : Nat, t = tn ∧ tn ≤ s.length ∧ l = s.drop tn) := by
        show _ ∧ _
        by_cases hk0 : kk = 0
        · subst hk0
          obtain ⟨_, tn, rfl, htn, _, hE⟩ := hI.out.good
          have hE2 : tread most (s.drop t0) = .ok (ds, s.drop tn) := by rw [hE, show n - k = 0 by omega]; simp [treads, ahead]
          rw [hE2]
          refine ⟨rfl, fun ts l h => ?_⟩
          injection h with h
          injection h with h1 h2
          exact ⟨h1, tn, rfl, htn, h2.symm⟩
        · have hE2 := hI.out.bad hk0
          rw [hE2]
          exact ⟨rfl, fun ts l h => by cases h⟩
      clear hI
      go_wp2_with (((with_reducible show wpList _ _ _ (⟨_, .store _ (.tmp 4) _, _, _, _, _⟩ :: _) _ _); refine wpList_store_blk rfl rowScn (.tmp 4) (.tmp 67) rfl (w.heap.size + 1) rfl bR rfl (scs s t kk) rfl rfl (scs_one _ _ _) ?_; intro w7 bC hg7))
      refine bodyPost_ret (results_blk rfl rowScn rfl bC rfl) rfl ?_
      refine ⟨H.out.bel.grownAt hg7 (by omega), t, A, c, ds, by rw [← HN.out.1]; rfl, own_less (H.out.own.kept hg7 (own_apart H.out.own (by omega))) (by omega), HN.out.2⟩

theorem rtread_any (s : List UInt8) (most : Int) (w : World) (hs : s.length ≤ 1000001) (m0 : -9223372036854775808 ≤ most) (m1 : most ≤ 9223372036854775807) :
    Calls Try.prog 96 #[scn s 0 0, .int .i64 most] w (RdPost s (tread most s) w) := by
  have h := rtreadAt_any s 0 most w hs (by omega) m0 m1
  rw [List.drop_zero] at h
  exact h

set_option maxRecDepth 100000 in
set_option maxHeartbeats 1000000 in
theorem rtread_bad (s : List UInt8) (t k most : Int) (hk : k ≠ 0) (w : World) :
    Calls Try.prog 96 #[scn s t k, .int .i64 most] w fun e w' => e = .returned (.tuple #[scn s t k, .slice none 0 0]) ∧ Bel w w' := by
  have HK := Lib.hid hk
  clear hk
  go_enter Try.func96, Try.ntmps96
  go_wp2_with fail
  have bA := (Blk.new w 47 (scs s t k)).alloc (.cells #[.string ⟨#[]⟩, .int .i64 0, .int .i64 0] 47)
  have bB := Blk.new (w.alloc (.cells (scs s t k) 47)) 47 #[.string ⟨#[]⟩, .int .i64 0, .int .i64 0]
  have hW := ((Bel.refl w).alloc (.cells (scs s t k) 47)).alloc (.cells #[.string ⟨#[]⟩, .int .i64 0, .int .i64 0] 47)
  rw [World.size_alloc] at bB
  refine (rnum_bad s t k most HK.out _).mono ?_; rintro e w1 ⟨rfl, hb1⟩
  have H1 : RdW w s t k (.slice none 0 0) [] w1 := ⟨hW.trans hb1, bA.bel hb1, bB.bel hb1, ⟨rfl, .inl ⟨rfl, rfl⟩⟩⟩
  have bA1 := H1.A
  have HW1 := Lib.hid H1
  clear bA bB hW hb1 H1
  go_wp2_with (((with_reducible show wpList _ _ _ (⟨_, .store _ (.tmp 2) _, _, _, _, _⟩ :: _) _ _); refine wpList_store_blk rfl rowScn (.tmp 2) (.tmp 17) rfl w.heap.size rfl bA1 rfl (scs s t k) rfl rfl (scs_one _ _ _) ?_; intro w2 bA2 hg2; have HW2 := Lib.hid (HW1.out.setA hg2 bA2); clear bA1 bA2 hg2 HW1))
  go_loopg [7, 9] 0 (fun g o i wr => o = .slice none 0 0 ∧ i = .int .i64 0 ∧ wr = w2)
  case atStart => exact ⟨rfl, rfl, rfl⟩
  case round =>
    obtain ⟨rfl, rfl, rfl⟩ := hrel
    obtain ⟨a0, a1, a2, f0, f1, f2⟩ := HW2.out.A.three
    have bR := HW2.out.R
    go_wp2_with (((with_reducible show wpList _ _ _ (⟨_, .store _ (.tmp 4) _, _, _, _, _⟩ :: _) _ _); refine wpList_store_blk rfl rowScn (.tmp 4) (.tmp 67) rfl (w.heap.size + 1) rfl bR rfl (scs s t k) rfl rfl (scs_one _ _ _) ?_; intro w7 bC hg7))
    refine bodyPost_ret (results_blk rfl rowScn rfl bC rfl) rfl ?_
    exact ⟨rfl, HW2.out.bel.grownAt hg7 (by omega)⟩

end Go.Proofs.Ytnjpoamebkehbaa
