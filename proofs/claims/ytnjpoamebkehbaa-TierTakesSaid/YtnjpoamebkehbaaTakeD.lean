/- The document's reader (pitheadref04). -/
import Derived.Test.YtnjpoamebkehbaaTakeB
import Derived.Test.YtnjpoamebkehbaaNumRT
namespace Go.Proofs.Ytnjpoamebkehbaa
open Go.RowKit
set_option linter.unusedVariables false

/-- The document's scan: bytes, how many were read, and the number of the first error. -/
abbrev scn (s : List UInt8) (t k : Int) : Value := .agg #[.string ⟨s.toArray⟩, .int .i64 t, .int .i64 k]
abbrev scs (s : List UInt8) (t k : Int) : Array Value := #[.string ⟨s.toArray⟩, .int .i64 t, .int .i64 k]

theorem Blk.three {w : World} {g : Nat} {t : TypeId} {a b c : Value} (h : Blk w g t #[a, b, c]) : w.cell? ⟨g, 0, none⟩ = some a ∧ w.cell? ⟨g, 1, none⟩ = some b ∧ w.cell? ⟨g, 2, none⟩ = some c ∧ w.frozen? ⟨g, 0, none⟩ = false ∧ w.frozen? ⟨g, 1, none⟩ = false ∧ w.frozen? ⟨g, 2, none⟩ = false :=
  ⟨h.cell 0, h.cell 1, h.cell 2, h.frozen 0, h.frozen 1, h.frozen 2⟩

theorem rowScn : RowTy Try.prog 47 3 := ⟨⟨_, Try.underlying47, rfl⟩, by kernel_rfl⟩
theorem scs_one (s : List UInt8) (t k : Int) : (scs s t k).all (·.oneCell') = true := by simp [Value.oneCell']
theorem pnum_ok {most : Int} {l r : List UInt8} {n : Nat} (h : pnum most l = .ok (n, r)) : 0 ≤ most ∧ (n : Int) ≤ most ∧ r.length ≤ l.length := by
  rcases pnum_cases (most := most) (l := l) with ⟨e, _⟩ | ⟨n', z, _, hz, _, ⟨e, _⟩ | ⟨e, h2, h3⟩⟩
  · rw [h] at e; cases e
  · rw [h] at e; cases e
  · rw [h] at e
    injection e with e
    injection e with e1 e2
    subst e1
    subst e2
    exact ⟨h2, h3, by rw [List.length_drop]; omega⟩
theorem pnum_err {most k : Int} {l : List UInt8} (h : pnum most l = .error k) : k = 3 ∨ k = 5 := by
  rcases pnum_cases (most := most) (l := l) with ⟨e, _⟩ | ⟨n', z, _, hz, _, ⟨e, _⟩ | ⟨e, h2, h3⟩⟩
  · rw [h] at e; injection e with e; exact .inl e
  · rw [h] at e; injection e with e; exact .inr e
  · rw [h] at e; cases e
theorem rtake_val {l : List UInt8} {n z : Nat} {ok : Bool} (h : ntake l = (n, z, ok)) (w : World) (hl : l.length ≤ 1000001) :
    Calls Try.prog 161 #[.string ⟨l.toArray⟩] w fun e w' => e = .returned (.tuple #[.int .u64 (n : Nat), .int .i64 (z : Nat), .bool ok]) ∧ Bel w w' := by
  have q := rtake_any l w hl
  rw [h] at q
  exact q

/-- The document's reading: the value and what is left, or an error. -/
def SPost {α : Type} (s : List UInt8) (o : PR α) (V : α → Value) (z : Value) (w : World) (e : Ending) (w' : World) : Prop :=
  Bel w w' ∧ match o with
    | .error k => ∃ t : Int, e = .returned (.tuple #[scn s t k, z])
    | .ok (x, l) => ∃ t : Nat, t ≤ s.length ∧ l = s.drop t ∧ e = .returned (.tuple #[scn s t 0, V x])

set_option maxRecDepth 100000 in
theorem rnumber_bad (s : List UInt8) (t k : Int) (hk : k ≠ 0) (w : World) :
    Calls Try.prog 140 #[scn s t k] w fun e w' => e = .returned (.tuple #[scn s t k, .int .u64 0]) ∧ Bel w w' := by
  have d : (k != 0) = true := by simpa using hk
  clear hk
  go_enter Try.func140, Try.ntmps140
  go_wp2
  refine bodyPost_ret (v := .tuple #[scn s t k, .int .u64 0]) (by simp [results, Try.results140, go_sem]) rfl ⟨rfl, ?_⟩
  exact ((Bel.refl w).alloc _).alloc _

set_option maxRecDepth 100000 in
theorem rfix_bad (s : List UInt8) (t k : Int) (n : Int) (hk : k ≠ 0) (w : World) :
    Calls Try.prog 139 #[scn s t k, .int .i64 n] w fun e w' => e = .returned (.tuple #[scn s t k, .string ⟨#[]⟩]) ∧ Bel w w' := by
  have d : (k != 0) = true := by simpa using hk
  clear hk
  go_enter Try.func139, Try.ntmps139
  go_wp2
  refine bodyPost_ret (v := .tuple #[scn s t k, .string ⟨#[]⟩]) (by simp [results, Try.results139, go_sem]) rfl ⟨rfl, ?_⟩
  exact ((Bel.refl w).alloc _).alloc _

set_option maxRecDepth 100000 in
theorem rnumber_any (s : List UInt8) (t : Nat) (hs : s.length ≤ 1000001) (ht : t ≤ s.length) (w : World) :
    Calls Try.prog 140 #[scn s t 0] w (SPost s (pnumber (s.drop t)) (fun n => .int .u64 (n : Nat)) (.int .u64 0) w) := by
  have k1 : (0 : Int) ≤ t := by omega
  have k2 : (t : Int) ≤ s.length := by omega
  go_enter Try.func140, Try.ntmps140
  go_wp2_with fail
  rw [str_from]
  have bA := (Blk.new w 47 (scs s t 0)).alloc (.cells #[.string ⟨#[]⟩, .int .i64 0, .int .i64 0] 47)
  have bB := Blk.new (w.alloc (.cells (scs s t 0) 47)) 47 #[.string ⟨#[]⟩, .int .i64 0, .int .i64 0]
  have hW := ((Bel.refl w).alloc (.cells (scs s t 0) 47)).alloc (.cells #[.string ⟨#[]⟩, .int .i64 0, .int .i64 0] 47)
  rw [World.size_alloc] at bB
  rcases pnumber_cases (l := s.drop t) with ⟨hp, hn⟩ | ⟨n, z, hn, hz, hlt, hp⟩
  · refine (rtake_val (ntake_false hn) _ (by simp; omega)).mono ?_; rintro e w1 ⟨rfl, hb1⟩
    have Hp := Lib.hid hp
    clear hp hn
    obtain ⟨a0, a1, a2, f0, f1, f2⟩ := (bA.bel hb1).three
    obtain ⟨b0, b1, b2, g0, g1, g2⟩ := (bB.bel hb1).three
    have HW := Lib.hid (hW.trans hb1)
    clear bA bB hW hb1
    go_wp2
    refine bodyPost_ret (v := .tuple #[scn s t 3, .int .u64 0]) (by simp [results, Try.results140, go_sem, b0, b1, b2]) rfl ⟨?_, ?_⟩
    · repeat (with_reducible first | exact HW.out | refine Bel.setCell ?_ (by simp) _ | refine Bel.alloc ?_ _)
    · rw [Hp.out]
      exact ⟨t, rfl⟩
  · refine (rtake_val hn _ (by simp; omega)).mono ?_; rintro e w1 ⟨rfl, hb1⟩
    have Hp := Lib.hid hp
    rw [List.length_drop] at hz
    clear hp hn
    obtain ⟨a0, a1, a2, f0, f1, f2⟩ := (bA.bel hb1).three
    obtain ⟨b0, b1, b2, g0, g1, g2⟩ := (bB.bel hb1).three
    have HW := Lib.hid (hW.trans hb1)
    clear bA bB hW hb1
    go_wp2
    refine bodyPost_ret (v := .tuple #[scn s (t + z : Nat) 0, .int .u64 n]) (by simp [results, Try.results140, go_sem, b0, b1, b2]) rfl ⟨?_, ?_⟩
    · repeat (with_reducible first | exact HW.out | refine Bel.setCell ?_ (by simp) _ | refine Bel.alloc ?_ _)
    · rw [Hp.out]
      exact ⟨t + z, by omega, by rw [List.drop_drop], rfl⟩

set_option maxRecDepth 100000 in
theorem rnum_bad (s : List UInt8) (t k : Int) (most : Int) (hk : k ≠ 0) (w : World) :
    Calls Try.prog 97 #[scn s t k, .int .i64 most] w fun e w' => e = .returned (.tuple #[scn s t k, .int .i64 0]) ∧ Bel w w' := by
  have HK := Lib.hid hk
  have d : (k != 0) = true := by simpa using hk
  have d2 : (k == 0) = false := by simpa using hk
  clear hk
  go_enter Try.func97, Try.ntmps97
  go_wp2_with fail
  have bA := (Blk.new w 47 (scs s t k)).alloc (.cells #[.string ⟨#[]⟩, .int .i64 0, .int .i64 0] 47)
  have bB := Blk.new (w.alloc (.cells (scs s t k) 47)) 47 #[.string ⟨#[]⟩, .int .i64 0, .int .i64 0]
  have hW := ((Bel.refl w).alloc (.cells (scs s t k) 47)).alloc (.cells #[.string ⟨#[]⟩, .int .i64 0, .int .i64 0] 47)
  rw [World.size_alloc] at bB
  refine (rnumber_bad s t k HK.out _).mono ?_; rintro e w1 ⟨rfl, hb1⟩
  have bA1 := bA.bel hb1
  have bB1 := bB.bel hb1
  have hW1 := Lib.hid (hW.trans hb1)
  clear bA bB hW hb1
  go_wp2_with (((with_reducible show wpList _ _ _ (⟨_, .store _ (.tmp 2) _, _, _, _, _⟩ :: _) _ _); refine wpList_store_blk rfl rowScn (.tmp 2) (.tmp 10) rfl w.heap.size rfl bA1 rfl (scs s t k) rfl rfl (scs_one _ _ _) ?_; intro w2 bA2 hg2; have bB2 := bB1.grown hg2 (by simp); obtain ⟨a0, a1, a2, f0, f1, f2⟩ := bA2.three; obtain ⟨b0, b1, b2, g0, g1, g2⟩ := bB2.three; have BA := Lib.hid bA2; have BB := Lib.hid bB2; have HW := Lib.hid (hW1.out.grownAt hg2 (Nat.le_refl _)); clear bA1 bB1 hW1 bA2 bB2 hg2))
  refine bodyPost_ret (v := .tuple #[scn s t k, .int .i64 0]) (by simp [results, Try.results97, go_sem, b0, b1, b2]) rfl ⟨rfl, ?_⟩
  repeat (with_reducible first | exact HW.out | refine Bel.setCell ?_ (by simp) _ | refine Bel.alloc ?_ _)

set_option maxRecDepth 100000 in
theorem rint_bad (s : List UInt8) (t k : Int) (hk : k ≠ 0) (w : World) :
    Calls Try.prog 115 #[scn s t k] w fun e w' => e = .returned (.tuple #[scn s t k, .int .i64 0]) ∧ Bel w w' := by
  have HK := Lib.hid hk
  have d : (k != 0) = true := by simpa using hk
  clear hk
  go_enter Try.func115, Try.ntmps115
  go_wp2_with fail
  have bA := (Blk.new w 47 (scs s t k)).alloc (.cells #[.string ⟨#[]⟩, .int .i64 0, .int .i64 0] 47)
  have bB := Blk.new (w.alloc (.cells (scs s t k) 47)) 47 #[.string ⟨#[]⟩, .int .i64 0, .int .i64 0]
  have hW := ((Bel.refl w).alloc (.cells (scs s t k) 47)).alloc (.cells #[.string ⟨#[]⟩, .int .i64 0, .int .i64 0] 47)
  rw [World.size_alloc] at bB
  refine (rnumber_bad s t k HK.out _).mono ?_; rintro e w1 ⟨rfl, hb1⟩
  have bA1 := bA.bel hb1
  have bB1 := bB.bel hb1
  have hW1 := Lib.hid (hW.trans hb1)
  clear bA bB hW hb1
  go_wp2_with (((with_reducible show wpList _ _ _ (⟨_, .store _ (.tmp 1) _, _, _, _, _⟩ :: _) _ _); refine wpList_store_blk rfl rowScn (.tmp 1) (.tmp 8) rfl w.heap.size rfl bA1 rfl (scs s t k) rfl rfl (scs_one _ _ _) ?_; intro w2 bA2 hg2; have bB2 := bB1.grown hg2 (by simp); obtain ⟨a0, a1, a2, f0, f1, f2⟩ := bA2.three; obtain ⟨b0, b1, b2, g0, g1, g2⟩ := bB2.three; have BA := Lib.hid bA2; have BB := Lib.hid bB2; have HW := Lib.hid (hW1.out.grownAt hg2 (Nat.le_refl _)); clear bA1 bB1 hW1 bA2 bB2 hg2))
  refine bodyPost_ret (v := .tuple #[scn s t k, .int .i64 0]) (by simp [results, Try.results115, go_sem, b0, b1, b2]) rfl ⟨rfl, ?_⟩
  repeat (with_reducible first | exact HW.out | refine Bel.setCell ?_ (by simp) _ | refine Bel.alloc ?_ _)

set_option maxRecDepth 100000 in
set_option maxHeartbeats 1000000 in
theorem rnum_any (s : List UInt8) (t : Nat) (most : Int) (hs : s.length ≤ 1000001) (ht : t ≤ s.length) (h0 : -9223372036854775808 ≤ most) (h1 : most ≤ 9223372036854775807) (w : World) :
    Calls Try.prog 97 #[scn s t 0, .int .i64 most] w (SPost s (pnum most (s.drop t)) (fun n => .int .i64 (n : Nat)) (.int .i64 0) w) := by
  go_enter Try.func97, Try.ntmps97
  go_wp2_with fail
  have bA := (Blk.new w 47 (scs s t 0)).alloc (.cells #[.string ⟨#[]⟩, .int .i64 0, .int .i64 0] 47)
  have bB := Blk.new (w.alloc (.cells (scs s t 0) 47)) 47 #[.string ⟨#[]⟩, .int .i64 0, .int .i64 0]
  have hW := ((Bel.refl w).alloc (.cells (scs s t 0) 47)).alloc (.cells #[.string ⟨#[]⟩, .int .i64 0, .int .i64 0] 47)
  rw [World.size_alloc] at bB
  have HP := Lib.hid (rnumber_any s t hs ht)
  rcases pnum_cases (most := most) (l := s.drop t) with ⟨hp, hn⟩ | ⟨n, z, hn, hz, hlt, hp⟩
  · have e1 : pnumber (s.drop t) = .error 3 := by unfold pnumber; rw [ntake_false hn]; rfl
    rw [e1] at HP
    refine (HP.out _).mono ?_; rintro e w1 ⟨hb1, t', rfl⟩
    have Hp := Lib.hid hp
    clear hp hn e1
    have bA1 := bA.bel hb1
    have bB1 := bB.bel hb1
    have hW1 := Lib.hid (hW.trans hb1)
    clear bA bB hW hb1
    go_wp2_with (((with_reducible show wpList _ _ _ (⟨_, .store _ (.tmp 2) _, _, _, _, _⟩ :: _) _ _); refine wpList_store_blk rfl rowScn (.tmp 2) (.tmp 10) rfl w.heap.size rfl bA1 rfl (scs s t' 3) rfl rfl (scs_one _ _ _) ?_; intro w2 bA2 hg2; have bB2 := bB1.grown hg2 (by simp); obtain ⟨a0, a1, a2, f0, f1, f2⟩ := bA2.three; obtain ⟨b0, b1, b2, g0, g1, g2⟩ := bB2.three; have BA := Lib.hid bA2; have BB := Lib.hid bB2; have HW := Lib.hid (hW1.out.grownAt hg2 (Nat.le_refl _)); clear bA1 bB1 hW1 bA2 bB2 hg2))
    refine bodyPost_ret (v := .tuple #[scn s t' 3, .int .i64 0]) (by simp [results, Try.results97, go_sem, b0, b1, b2]) rfl ⟨?_, ?_⟩
    · repeat (with_reducible first | exact HW.out | refine Bel.setCell ?_ (by simp) _ | refine Bel.alloc ?_ _)
    · rw [Hp.out]
      exact ⟨t', rfl⟩
  · have e1 : pnumber (s.drop t) = .ok (n, (s.drop t).drop z) := by unfold pnumber; rw [hn]; rfl
    rw [e1] at HP
    refine (HP.out _).mono ?_; rintro e w1 ⟨hb1, t', ht', he, rfl⟩
    have He := Lib.hid he
    have Hp := Lib.hid hp
    clear hp hn e1 he
    have bA1 := bA.bel hb1
    have bB1 := bB.bel hb1
    have hW1 := Lib.hid (hW.trans hb1)
    clear bA bB hW hb1
    by_cases hm : most < 0
    · have d : decide (most < 0) = true := by simp; omega
      go_wp2_with (((with_reducible show wpList _ _ _ (⟨_, .store _ (.tmp 2) _, _, _, _, _⟩ :: _) _ _); refine wpList_store_blk rfl rowScn (.tmp 2) (.tmp 10) rfl w.heap.size rfl bA1 rfl (scs s t' 0) rfl rfl (scs_one _ _ _) ?_; intro w2 bA2 hg2; have bB2 := bB1.grown hg2 (by simp); obtain ⟨a0, a1, a2, f0, f1, f2⟩ := bA2.three; obtain ⟨b0, b1, b2, g0, g1, g2⟩ := bB2.three; have BA := Lib.hid bA2; have BB := Lib.hid bB2; have HW := Lib.hid (hW1.out.grownAt hg2 (Nat.le_refl _)); clear bA1 bB1 hW1 bA2 bB2 hg2))
      refine bodyPost_ret (v := .tuple #[scn s t' 5, .int .i64 0]) (by simp [results, Try.results97, go_sem, b0, b1, b2]) rfl ⟨?_, ?_⟩
      · repeat (with_reducible first | exact HW.out | refine Bel.setCell ?_ (by simp) _ | refine Bel.alloc ?_ _)
      · rcases Hp.out with ⟨hp, _⟩ | ⟨hp, hq, _⟩
        · rw [hp]; exact ⟨t', rfl⟩
        · omega
    · have d : decide (most < 0) = false := by simp; omega
      have hw : IntKind.u64.wrap most = most := IntWalk.u64_in _ (by omega)
      by_cases hq : most < n
      · have d2 : decide (most < n) = true := by simp; omega
        go_wp2_with (((with_reducible show wpList _ _ _ (⟨_, .store _ (.tmp 2) _, _, _, _, _⟩ :: _) _ _); refine wpList_store_blk rfl rowScn (.tmp 2) (.tmp 10) rfl w.heap.size rfl bA1 rfl (scs s t' 0) rfl rfl (scs_one _ _ _) ?_; intro w2 bA2 hg2; have bB2 := bB1.grown hg2 (by simp); obtain ⟨a0, a1, a2, f0, f1, f2⟩ := bA2.three; obtain ⟨b0, b1, b2, g0, g1, g2⟩ := bB2.three; have BA := Lib.hid bA2; have BB := Lib.hid bB2; have HW := Lib.hid (hW1.out.grownAt hg2 (Nat.le_refl _)); clear bA1 bB1 hW1 bA2 bB2 hg2))
        refine bodyPost_ret (v := .tuple #[scn s t' 5, .int .i64 0]) (by simp [results, Try.results97, go_sem, b0, b1, b2]) rfl ⟨?_, ?_⟩
        · repeat (with_reducible first | exact HW.out | refine Bel.setCell ?_ (by simp) _ | refine Bel.alloc ?_ _)
        · rcases Hp.out with ⟨hp, _⟩ | ⟨hp, _, hq'⟩
          · rw [hp]; exact ⟨t', rfl⟩
          · omega
      · have d2 : decide (most < n) = false := by simp; omega
        go_wp2_with (((with_reducible show wpList _ _ _ (⟨_, .store _ (.tmp 2) _, _, _, _, _⟩ :: _) _ _); refine wpList_store_blk rfl rowScn (.tmp 2) (.tmp 10) rfl w.heap.size rfl bA1 rfl (scs s t' 0) rfl rfl (scs_one _ _ _) ?_; intro w2 bA2 hg2; have bB2 := bB1.grown hg2 (by simp); obtain ⟨a0, a1, a2, f0, f1, f2⟩ := bA2.three; obtain ⟨b0, b1, b2, g0, g1, g2⟩ := bB2.three; have BA := Lib.hid bA2; have BB := Lib.hid bB2; have HW := Lib.hid (hW1.out.grownAt hg2 (Nat.le_refl _)); clear bA1 bB1 hW1 bA2 bB2 hg2))
        refine bodyPost_ret (v := .tuple #[scn s t' 0, .int .i64 n]) (by simp [results, Try.results97, go_sem, b0, b1, b2]) rfl ⟨?_, ?_⟩
        · repeat (with_reducible first | exact HW.out | refine Bel.setCell ?_ (by simp) _ | refine Bel.alloc ?_ _)
        · rcases Hp.out with ⟨hp, hx⟩ | ⟨hp, _⟩
          · omega
          · rw [hp]; exact ⟨t', ht', He.out, rfl⟩

set_option maxRecDepth 100000 in
set_option maxHeartbeats 1000000 in
theorem rint_any (s : List UInt8) (t : Nat) (hs : s.length ≤ 1000001) (ht : t ≤ s.length) (w : World) :
    Calls Try.prog 115 #[scn s t 0] w (SPost s (pint (s.drop t)) (fun n => .int .i64 n) (.int .i64 0) w) := by
  go_enter Try.func115, Try.ntmps115
  go_wp2_with fail
  have bA := (Blk.new w 47 (scs s t 0)).alloc (.cells #[.string ⟨#[]⟩, .int .i64 0, .int .i64 0] 47)
  have bB := Blk.new (w.alloc (.cells (scs s t 0) 47)) 47 #[.string ⟨#[]⟩, .int .i64 0, .int .i64 0]
  have hW := ((Bel.refl w).alloc (.cells (scs s t 0) 47)).alloc (.cells #[.string ⟨#[]⟩, .int .i64 0, .int .i64 0] 47)
  rw [World.size_alloc] at bB
  have HP := Lib.hid (rnumber_any s t hs ht)
  rcases pnumber_cases (l := s.drop t) with ⟨hp, hn⟩ | ⟨n, z, hn, hz, hlt, hp⟩
  · rw [hp] at HP
    refine (HP.out _).mono ?_; rintro e w1 ⟨hb1, t', rfl⟩
    have Hp := Lib.hid hp
    clear hp hn
    have bA1 := bA.bel hb1
    have bB1 := bB.bel hb1
    have hW1 := Lib.hid (hW.trans hb1)
    clear bA bB hW hb1
    go_wp2_with (((with_reducible show wpList _ _ _ (⟨_, .store _ (.tmp 1) _, _, _, _, _⟩ :: _) _ _); refine wpList_store_blk rfl rowScn (.tmp 1) (.tmp 8) rfl w.heap.size rfl bA1 rfl (scs s t' 3) rfl rfl (scs_one _ _ _) ?_; intro w2 bA2 hg2; have bB2 := bB1.grown hg2 (by simp); obtain ⟨a0, a1, a2, f0, f1, f2⟩ := bA2.three; obtain ⟨b0, b1, b2, g0, g1, g2⟩ := bB2.three; have BA := Lib.hid bA2; have BB := Lib.hid bB2; have HW := Lib.hid (hW1.out.grownAt hg2 (Nat.le_refl _)); clear bA1 bB1 hW1 bA2 bB2 hg2))
    refine bodyPost_ret (v := .tuple #[scn s t' 3, .int .i64 0]) (by simp [results, Try.results115, go_sem, b0, b1, b2]) rfl ⟨?_, ?_⟩
    · repeat (with_reducible first | exact HW.out | refine Bel.setCell ?_ (by simp) _ | refine Bel.alloc ?_ _)
    · unfold pint
      rw [Hp.out]
      exact ⟨t', rfl⟩
  · rw [hp] at HP
    refine (HP.out _).mono ?_; rintro e w1 ⟨hb1, t', ht', he, rfl⟩
    have He := Lib.hid he
    have Hp := Lib.hid hp
    clear hp hn he
    have bA1 := bA.bel hb1
    have bB1 := bB.bel hb1
    have hW1 := Lib.hid (hW.trans hb1)
    clear bA bB hW hb1
    go_wp2_with (((with_reducible show wpList _ _ _ (⟨_, .store _ (.tmp 1) _, _, _, _, _⟩ :: _) _ _); refine wpList_store_blk rfl rowScn (.tmp 1) (.tmp 8) rfl w.heap.size rfl bA1 rfl (scs s t' 0) rfl rfl (scs_one _ _ _) ?_; intro w2 bA2 hg2; have bB2 := bB1.grown hg2 (by simp); obtain ⟨a0, a1, a2, f0, f1, f2⟩ := bA2.three; obtain ⟨b0, b1, b2, g0, g1, g2⟩ := bB2.three; have BA := Lib.hid bA2; have BB := Lib.hid bB2; have HW := Lib.hid (hW1.out.grownAt hg2 (Nat.le_refl _)); clear bA1 bB1 hW1 bA2 bB2 hg2))
    go_region_with ((go_at_call 143; refine (runfold_any n _ (by omega) (by omega)).mono ?_; rintro e w3 ⟨rfl, rfl⟩; rw [Int.toNat_natCast]))
    all_goals
      go_wp2
      refine bodyPost_ret (v := .tuple #[scn s t' 0, .int .i64 (nunfold n)]) (by simp [results, Try.results115, go_sem, b0, b1, b2]) rfl ⟨?_, ?_⟩
      · repeat (with_reducible first | exact HW.out | exact HW.out.drew | refine Bel.setCell ?_ (by simp) _ | refine Bel.alloc ?_ _ | refine Bel.drew ?_)
      · unfold pint
        rw [Hp.out]
        exact ⟨t', ht', He.out, rfl⟩

set_option maxRecDepth 100000 in
theorem rfix_any (s : List UInt8) (t : Nat) (n : Int) (hs : s.length ≤ 1000001) (ht : t ≤ s.length) (h0 : -9223372036854775808 ≤ n) (h1 : n ≤ 9223372036854775807) (w : World) :
    Calls Try.prog 139 #[scn s t 0, .int .i64 n] w (SPost s (pfix n (s.drop t)) (fun x => .string ⟨x.toArray⟩) (.string ⟨#[]⟩) w) := by
  have k1 : (0 : Int) ≤ t := by omega
  have k2 : (t : Int) ≤ s.length := by omega
  by_cases hm : n < 0
  · have Hp : Hid (pfix n (s.drop t) = .error 3) := by show _ = _; unfold pfix; rw [if_pos (.inl hm)]
    have d : decide (n < 0) = true := by simp; omega
    go_enter Try.func139, Try.ntmps139
    go_wp2
    refine bodyPost_ret (v := .tuple #[scn s t 3, .string ⟨#[]⟩]) (by simp [results, Try.results139, go_sem]) rfl ⟨?_, ?_⟩
    · exact ((Bel.refl w).alloc _).alloc _
    · rw [Hp.out]; exact ⟨t, rfl⟩
  · obtain ⟨m, rfl⟩ := Int.eq_ofNat_of_zero_le (show 0 ≤ n by omega)
    have d : decide ((m : Int) < 0) = false := by simp
    by_cases hq : s.length < t + m
    · have Hp : Hid (pfix m (s.drop t) = .error 3) := by show _ = _; unfold pfix; rw [if_pos (.inr (by rw [List.length_drop]; omega))]
      have d2 : decide ((s.length : Int) - t < m) = true := by simp; omega
      go_enter Try.func139, Try.ntmps139
      go_wp2
      refine bodyPost_ret (v := .tuple #[scn s t 3, .string ⟨#[]⟩]) (by simp [results, Try.results139, go_sem]) rfl ⟨?_, ?_⟩
      · exact ((Bel.refl w).alloc _).alloc _
      · rw [Hp.out]; exact ⟨t, rfl⟩
    · have Hp : Hid (pfix m (s.drop t) = .ok ((s.drop t).take m, (s.drop t).drop m)) := by show _ = _; unfold pfix; rw [if_neg (by rw [List.length_drop]; omega), Int.toNat_natCast]
      have d2 : decide ((s.length : Int) - t < m) = false := by simp; omega
      have e2 : Hid ((⟨s.toArray⟩ : ByteArray).extract t (t + m) = ⟨((s.drop t).take m).toArray⟩) := by show _ = _; rw [str_extract]; simp
      have k3 : (t : Int) ≤ (t : Int) + m := by omega
      have k4 : (t : Int) + m ≤ s.length := by omega
      go_enter Try.func139, Try.ntmps139
      go_wp2
      refine bodyPost_ret (v := .tuple #[scn s (t + m : Nat) 0, .string ((⟨s.toArray⟩ : ByteArray).extract t (t + m))]) (by simp [results, Try.results139, go_sem]) rfl ⟨?_, ?_⟩
      · exact ((Bel.refl w).alloc _).alloc _
      · rw [Hp.out, e2.out]; exact ⟨t + m, by omega, by rw [List.drop_drop], rfl⟩

set_option maxRecDepth 100000 in
set_option maxHeartbeats 1000000 in
theorem rtext_bad (s : List UInt8) (t k : Int) (most : Int) (hk : k ≠ 0) (w : World) :
    Calls Try.prog 95 #[scn s t k, .int .i64 most] w fun e w' => e = .returned (.tuple #[scn s t k, .string ⟨#[]⟩]) ∧ Bel w w' := by
  have HK := Lib.hid hk
  clear hk
  go_enter Try.func95, Try.ntmps95
  go_wp2_with fail
  have bA := (Blk.new w 47 (scs s t k)).alloc (.cells #[.string ⟨#[]⟩, .int .i64 0, .int .i64 0] 47)
  have bB := Blk.new (w.alloc (.cells (scs s t k) 47)) 47 #[.string ⟨#[]⟩, .int .i64 0, .int .i64 0]
  have hW := ((Bel.refl w).alloc (.cells (scs s t k) 47)).alloc (.cells #[.string ⟨#[]⟩, .int .i64 0, .int .i64 0] 47)
  rw [World.size_alloc] at bB
  refine (rnum_bad s t k most HK.out _).mono ?_; rintro e w1 ⟨rfl, hb1⟩
  have bA1 := bA.bel hb1
  have bB1 := bB.bel hb1
  have hW1 := Lib.hid (hW.trans hb1)
  clear bA bB hW hb1
  go_wp2_with (((with_reducible show wpList _ _ _ (⟨_, .store _ (.tmp 2) _, _, _, _, _⟩ :: _) _ _); refine wpList_store_blk rfl rowScn (.tmp 2) (.tmp 11) rfl w.heap.size rfl bA1 rfl (scs s t k) rfl rfl (scs_one _ _ _) ?_; intro w2 bA2 hg2; have bB2 := bB1.grown hg2 (by simp); obtain ⟨a0, a1, a2, f0, f1, f2⟩ := bA2.three; obtain ⟨b0, b1, b2, g0, g1, g2⟩ := bB2.three; have BA := Lib.hid bA2; have BB := Lib.hid bB2; have HW := Lib.hid (hW1.out.grownAt hg2 (Nat.le_refl _)); clear bA1 bB1 hW1 bA2 bB2 hg2))
  refine (rfix_bad s t k 0 HK.out _).mono ?_; rintro e w3 ⟨rfl, hb3⟩
  have bB3 := BB.out.bel hb3
  have HW3 := Lib.hid (HW.out.trans hb3)
  clear hb3
  go_wp2_with (((with_reducible show wpList _ _ _ (⟨_, .store _ (.tmp 4) _, _, _, _, _⟩ :: _) _ _); refine wpList_store_blk rfl rowScn (.tmp 4) (.tmp 16) rfl (w.heap.size + 1) rfl bB3 rfl (scs s t k) rfl rfl (scs_one _ _ _) ?_; intro w4 bC hg4))
  refine bodyPost_ret (results_blk rfl rowScn rfl bC rfl) rfl ?_
  exact ⟨rfl, HW3.out.grownAt hg4 (by omega)⟩

set_option maxRecDepth 100000 in
set_option maxHeartbeats 1000000 in
theorem rtext_any (s : List UInt8) (t : Nat) (most : Int) (hs : s.length ≤ 1000001) (ht : t ≤ s.length) (h0 : -9223372036854775808 ≤ most) (h1 : most ≤ 9223372036854775807) (w : World) :
    Calls Try.prog 95 #[scn s t 0, .int .i64 most] w (SPost s (ptxt most (s.drop t)) (fun x => .string ⟨x.toArray⟩) (.string ⟨#[]⟩) w) := by
  go_enter Try.func95, Try.ntmps95
  go_wp2_with fail
  have bA := (Blk.new w 47 (scs s t 0)).alloc (.cells #[.string ⟨#[]⟩, .int .i64 0, .int .i64 0] 47)
  have bB := Blk.new (w.alloc (.cells (scs s t 0) 47)) 47 #[.string ⟨#[]⟩, .int .i64 0, .int .i64 0]
  have hW := ((Bel.refl w).alloc (.cells (scs s t 0) 47)).alloc (.cells #[.string ⟨#[]⟩, .int .i64 0, .int .i64 0] 47)
  rw [World.size_alloc] at bB
  have HP := Lib.hid (rnum_any s t most hs ht h0 h1)
  cases hp : pnum most (s.drop t) with
  | error k =>
    have hk : k ≠ 0 := by have := pnum_err hp; omega
    have Hq : Hid (ptxt most (s.drop t) = .error k) := by show _ = _; unfold ptxt; rw [hp]
    rw [hp] at HP
    refine (HP.out _).mono ?_; rintro e w1 ⟨hb1, t', rfl⟩
    have HK := Lib.hid hk
    clear hp hk
    have bA1 := bA.bel hb1
    have bB1 := bB.bel hb1
    have hW1 := Lib.hid (hW.trans hb1)
    clear bA bB hW hb1
    go_wp2_with (((with_reducible show wpList _ _ _ (⟨_, .store _ (.tmp 2) _, _, _, _, _⟩ :: _) _ _); refine wpList_store_blk rfl rowScn (.tmp 2) (.tmp 11) rfl w.heap.size rfl bA1 rfl (scs s t' k) rfl rfl (scs_one _ _ _) ?_; intro w2 bA2 hg2; have bB2 := bB1.grown hg2 (by simp); obtain ⟨a0, a1, a2, f0, f1, f2⟩ := bA2.three; obtain ⟨b0, b1, b2, g0, g1, g2⟩ := bB2.three; have BA := Lib.hid bA2; have BB := Lib.hid bB2; have HW := Lib.hid (hW1.out.grownAt hg2 (Nat.le_refl _)); clear bA1 bB1 hW1 bA2 bB2 hg2))
    refine (rfix_bad s t' k 0 HK.out _).mono ?_; rintro e w3 ⟨rfl, hb3⟩
    have bB3 := BB.out.bel hb3
    have HW3 := Lib.hid (HW.out.trans hb3)
    clear hb3
    go_wp2_with (((with_reducible show wpList _ _ _ (⟨_, .store _ (.tmp 4) _, _, _, _, _⟩ :: _) _ _); refine wpList_store_blk rfl rowScn (.tmp 4) (.tmp 16) rfl (w.heap.size + 1) rfl bB3 rfl (scs s t' k) rfl rfl (scs_one _ _ _) ?_; intro w4 bC hg4))
    refine bodyPost_ret (results_blk rfl rowScn rfl bC rfl) rfl ?_
    refine ⟨HW3.out.grownAt hg4 (by omega), ?_⟩
    rw [Hq.out]
    exact ⟨t', rfl⟩
  | ok q =>
    obtain ⟨n, l⟩ := q
    have Hq : Hid (ptxt most (s.drop t) = pfix n l) := by show _ = _; unfold ptxt; rw [hp]
    have hn := (pnum_ok hp).2.1
    rw [hp] at HP
    refine (HP.out _).mono ?_; rintro e w1 ⟨hb1, t', ht', rfl, rfl⟩
    clear hp
    have bA1 := bA.bel hb1
    have bB1 := bB.bel hb1
    have hW1 := Lib.hid (hW.trans hb1)
    clear bA bB hW hb1
    have HF := Lib.hid (rfix_any s t' (n : Int) hs ht' (by omega) (by omega))
    go_wp2_with (((with_reducible show wpList _ _ _ (⟨_, .store _ (.tmp 2) _, _, _, _, _⟩ :: _) _ _); refine wpList_store_blk rfl rowScn (.tmp 2) (.tmp 11) rfl w.heap.size rfl bA1 rfl (scs s t' 0) rfl rfl (scs_one _ _ _) ?_; intro w2 bA2 hg2; have bB2 := bB1.grown hg2 (by simp); obtain ⟨a0, a1, a2, f0, f1, f2⟩ := bA2.three; obtain ⟨b0, b1, b2, g0, g1, g2⟩ := bB2.three; have BA := Lib.hid bA2; have BB := Lib.hid bB2; have HW := Lib.hid (hW1.out.grownAt hg2 (Nat.le_refl _)); clear bA1 bB1 hW1 bA2 bB2 hg2))
    cases hf : pfix (n : Int) (s.drop t') with
    | error k =>
      have Hf := Lib.hid hf
      rw [hf] at HF
      refine (HF.out _).mono ?_; rintro e w3 ⟨hb3, t2, rfl⟩
      have bB3 := BB.out.bel hb3
      have HW3 := Lib.hid (HW.out.trans hb3)
      clear hb3 hf
      go_wp2_with (((with_reducible show wpList _ _ _ (⟨_, .store _ (.tmp 4) _, _, _, _, _⟩ :: _) _ _); refine wpList_store_blk rfl rowScn (.tmp 4) (.tmp 16) rfl (w.heap.size + 1) rfl bB3 rfl (scs s t2 k) rfl rfl (scs_one _ _ _) ?_; intro w4 bC hg4))
      refine bodyPost_ret (results_blk rfl rowScn rfl bC rfl) rfl ?_
      refine ⟨HW3.out.grownAt hg4 (by omega), ?_⟩
      rw [Hq.out, Hf.out]
      exact ⟨t2, rfl⟩
    | ok q =>
      obtain ⟨x, r⟩ := q
      have Hf := Lib.hid hf
      rw [hf] at HF
      refine (HF.out _).mono ?_; rintro e w3 ⟨hb3, t2, ht2, he2, rfl⟩
      have He2 := Lib.hid he2
      have bB3 := BB.out.bel hb3
      have HW3 := Lib.hid (HW.out.trans hb3)
      clear hb3 hf he2
      go_wp2_with (((with_reducible show wpList _ _ _ (⟨_, .store _ (.tmp 4) _, _, _, _, _⟩ :: _) _ _); refine wpList_store_blk rfl rowScn (.tmp 4) (.tmp 16) rfl (w.heap.size + 1) rfl bB3 rfl (scs s t2 0) rfl rfl (scs_one _ _ _) ?_; intro w4 bC hg4))
      refine bodyPost_ret (results_blk rfl rowScn rfl bC rfl) rfl ?_
      refine ⟨HW3.out.grownAt hg4 (by omega), ?_⟩
      rw [Hq.out, Hf.out]
      exact ⟨t2, ht2, He2.out, rfl⟩

end Go.Proofs.Ytnjpoamebkehbaa
