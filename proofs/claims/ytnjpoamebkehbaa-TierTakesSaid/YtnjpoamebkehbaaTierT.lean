/- tier.Take: a tier of bytes; the law's reading of one with which bytes begin. -/
import Derived.Test.YtnjpoamebkehbaaTierR
import Derived.Test.YtnjpoamebkehbaaTermU
namespace Go.Proofs.Ytnjpoamebkehbaa
open Go.RowKit
set_option linter.unusedVariables false
set_option linter.unusedSimpArgs false

theorem ptier_err {above k : Int} {l : List UInt8} (h : ptier above l = .error k) : k ≠ 0 := by
  unfold ptier at h
  split at h
  · rename_i h1
    injection h with h
    subst h
    unfold ptxt at h1
    split at h1
    · rename_i h2
      injection h1 with h1
      subst h1
      have := pnum_err h2
      omega
    · have := (pfix_err h1).1
      omega
  · split at h
    · rename_i h1
      injection h with h
      subst h
      have := tread_err h1
      omega
    · split at h
      · rename_i h1
        injection h with h
        subst h
        unfold pups at h1
        split at h1
        · have := pnums_err h1
          omega
        · cases h1
      · unfold ptierC at h
        split at h
        · cases h
        · rename_i h1
          injection h with h
          subst h
          exact h1

/-- A tier read is laid in a block of the reading function's own. -/
def RTr (w0 : World) (B g : Nat) (o : PR TC) (K : PR TC → Int) (k : Int) (w' : World) : Prop :=
  Bel w0 w' ∧ k = K o ∧ ∃ T : Tir, Blk w' g 30 T.cs ∧ ∀ t l, o = .ok (t, l) → T.con = t ∧ TirOwn (B + 3) T w'
theorem TirOwn.but2 {B base : Nat} {T : Tir} {w w' : World} (h : TirOwn base T w) (hb : But2 B w w') (hB : B + 2 ≤ base) : TirOwn base T w' :=
  ⟨own_but2 h.ts hb hB, own_but2 h.up hb hB, h.nm, h.tl, h.ul, h.tn, h.un⟩
abbrev Tir.nil : Tir := ⟨[], ⟨none, 0, 0, []⟩, ⟨none, 0, 0, []⟩⟩
abbrev TC.nil : TC := ⟨[], [], []⟩
theorem tir_nil_rd (w : World) : Tir.nil.rd w := ⟨by simp, Row.nil_rd w, Row.nil_rd w⟩

set_option maxRecDepth 100000 in
set_option maxHeartbeats 1000000 in
theorem trtake1_any (w0 : World) (B g gm : Nat) (s : List UInt8) (above : Int) (w : World) (ha : I64 above) (hI : InAll w0 B s s w) (hg0 : w0.heap.size ≤ g) (hgB : g < B)
    (hmc : w.cell? ⟨gm, 0, none⟩ = some (.int .i64 above)) (X : Tir) (hb : Blk w g 30 X.cs) :
    Calls Try.prog 91 #[.pointer (some ⟨B + 1, 0, none⟩), .pointer (some ⟨gm, 0, none⟩), .pointer (some ⟨g, 0, none⟩)] w (AllPost B s (RTr w0 B g (ptier above s) endErr)) := by
  have HI := Lib.hid hI
  have Hb := Lib.hid hb
  have HT := Lib.hid (trread_any (B + 1) s s above w hI.r ha)
  have hlt : B + 2 < w.heap.size := hI.p.lt
  clear hI hb
  go_enter Try.func91, Try.ntmps91
  go_wp2_with fail
  cases ho : ptier above s with
  | error k =>
    have Ho := Lib.hid ho
    rw [ho] at HT
    refine HT.out.mono ?_; rintro e w1 ⟨rfl, hg, l1, hr⟩
    clear ho
    go_wp2_with fail
    refine ⟨rfl, ?_⟩
    refine (HI.out.read hg hr).err ⟨(HI.out.read hg hr).bel, rfl, X, Hb.out.grown hg (by intro e; injection e with e; omega), fun _ _ h => by cases h⟩
  | ok q =>
    obtain ⟨t, l1⟩ := q
    have Ho := Lib.hid ho
    rw [ho] at HT
    refine HT.out.mono ?_; rintro e w1 ⟨T, rfl, rfl, hg, hr, hown⟩
    have b1 := Hb.out.grown hg (by intro e; injection e with e; omega)
    have I1 := Lib.hid (HI.out.read hg hr)
    have HO := Lib.hid hown
    clear hg hr ho hown
    go_wp2_with ((with_reducible show wpList _ _ _ (⟨_, .store _ (.tmp 2) _, _, _, _, _⟩ :: _) _ _); refine wpList_store_blk rfl rowTir (.tmp 2) (.tmp 6) rfl g rfl b1 rfl T.cs rfl rfl (tir_one T) ?_; intro w2 b2 hg2)
    go_end0
    have I2 := I1.out.kept hg2 hg0 (by omega) (by omega) (by omega)
    refine I2.ok ⟨I2.bel, by rw [Ho.out]; rfl, T, b2, ?_⟩
    intro t' l' h
    rw [Ho.out] at h
    injection h with h
    injection h with h1 h2
    exact ⟨h1, (HO.out.kept hg2 (by omega)).less (by omega)⟩

set_option maxRecDepth 100000 in
set_option maxHeartbeats 1000000 in
theorem trl1_any (w0 : World) (B g gm : Nat) (s : List UInt8) (above : Int) (w : World) (ha : I64 above) (hI : InAll w0 B s s w) (hg0 : w0.heap.size ≤ g) (hgB : g < B)
    (hmc : w.cell? ⟨gm, 0, none⟩ = some (.int .i64 above)) (X : Tir) (hb : Blk w g 30 X.cs) :
    Calls Try.prog 31 #[.pointer (some ⟨B + 1, 0, none⟩), .pointer (some ⟨gm, 0, none⟩), .pointer (some ⟨g, 0, none⟩)] w (AllPost B s (RTr w0 B g (ptier above s) prErr)) := by
  have HI := Lib.hid hI
  have Hb := Lib.hid hb
  have HT := Lib.hid (trread_any (B + 1) s s above w hI.r ha)
  have hlt : B + 2 < w.heap.size := hI.p.lt
  clear hI hb
  go_enter Try.func31, Try.ntmps31
  go_wp2_with fail
  cases ho : ptier above s with
  | error k =>
    have Ho := Lib.hid ho
    rw [ho] at HT
    refine HT.out.mono ?_; rintro e w1 ⟨rfl, hg, l1, hr⟩
    clear ho
    go_wp2_with fail
    refine ⟨rfl, ?_⟩
    refine (HI.out.read hg hr).err ⟨(HI.out.read hg hr).bel, rfl, X, Hb.out.grown hg (by intro e; injection e with e; omega), fun _ _ h => by cases h⟩
  | ok q =>
    obtain ⟨t, l1⟩ := q
    have Ho := Lib.hid ho
    rw [ho] at HT
    refine HT.out.mono ?_; rintro e w1 ⟨T, rfl, rfl, hg, hr, hown⟩
    have b1 := Hb.out.grown hg (by intro e; injection e with e; omega)
    have I1 := Lib.hid (HI.out.read hg hr)
    have HO := Lib.hid hown
    clear hg hr ho hown
    go_wp2_with ((with_reducible show wpList _ _ _ (⟨_, .store _ (.tmp 2) _, _, _, _, _⟩ :: _) _ _); refine wpList_store_blk rfl rowTir (.tmp 2) (.tmp 6) rfl g rfl b1 rfl T.cs rfl rfl (tir_one T) ?_; intro w2 b2 hg2)
    have I2 := Lib.hid (I1.out.kept hg2 hg0 (by omega) (by omega) (by omega))
    have O2 := Lib.hid (HO.out.kept hg2 (by omega))
    have hl1 := I2.out.r.len
    refine (left_any (B + 1) s l1 _ I2.out.r).mono ?_; rintro e w3 ⟨rfl, hb3⟩
    have I3 := Lib.hid (I2.out.more hb3)
    have B3 := Lib.hid (b2.bel hb3)
    have O3 := Lib.hid (O2.out.bel hb3)
    clear b2 hg2 hb3 I1 I2 b1 O2 HO
    go_wp2_with fail
    have HF := Lib.hid (fix_any (B + 1) s l1 (l1.length : Int) _ I3.out.r (by omega) (by omega))
    rw [show pfix (l1.length : Int) l1 = .ok (l1, []) by unfold pfix; rw [if_neg (by omega), Int.toNat_natCast, List.take_length, List.drop_length]] at HF
    refine HF.out.mono ?_; rintro e w5 ⟨rfl, hg5, hr5⟩
    go_wp2_with fail
    go_end0
    have I5 := I3.out.read hg5 hr5
    refine I5.ok ⟨I5.bel, by rw [Ho.out]; rfl, T, B3.out.grown hg5 (by intro e; injection e with e; omega), ?_⟩
    intro t' l' h
    rw [Ho.out] at h
    injection h with h
    injection h with h1 h2
    exact ⟨h1, (O3.out.kept hg5 (by omega)).less (by omega)⟩

/-- What tier.Take answers. -/
def trtake (above : Int) (s : List UInt8) : TC × Int :=
  match ptier above s with
  | .error k => (.nil, k)
  | .ok (t, l) => if l = [] then (t, 0) else (.nil, 3)
def TkPost (r : TC × Int) (w : World) (e : Ending) (w' : World) : Prop := ∃ T : Tir, e = .returned (.tuple #[.agg T.cs, .int .i64 r.2]) ∧ T.con = r.1 ∧ T.rd w' ∧ T.up.n ≤ 200 ∧ Bel w w'

set_option maxRecDepth 100000 in
set_option maxHeartbeats 1000000 in
theorem trtake_any (s : List UInt8) (above : Int) (w : World) (ha : I64 above) (hs : s.length ≤ 1000001) :
    Calls Try.prog 25 #[.string ⟨s.toArray⟩, .int .i64 above] w (TkPost (trtake above s) w) := by
  have hmf : ∀ (fn : Fn) (first cap : Array Value) (w : World), (Instr.makeFunc fn first cap).run Try.prog w = .ok (.func fn first cap) w := fun _ _ _ _ => rfl
  have hV : Bel w ((w.alloc (.cells #[Value.int .i64 above] 3)).alloc (.cells #[.string ⟨#[]⟩, .slice none 0 0, .slice none 0 0] 30)) := ((Bel.refl w).alloc _).alloc _
  have a0 := (Blk.new w 3 #[.int .i64 above]).alloc (.cells #[.string ⟨#[]⟩, .slice none 0 0, .slice none 0 0] 30)
  have a1 := Blk.new (w.alloc (.cells #[.int .i64 above] 3)) 30 #[.string ⟨#[]⟩, .slice none 0 0, .slice none 0 0]
  have hVz : ((w.alloc (.cells #[Value.int .i64 above] 3)).alloc (.cells #[.string ⟨#[]⟩, .slice none 0 0, .slice none 0 0] 30)).heap.size = w.heap.size + 2 := by simp
  simp only [World.size_alloc] at a1
  go_enter Try.func25, Try.ntmps25
  go_wp2_with fail
  generalize ((w.alloc (.cells #[Value.int .i64 above] 3)).alloc (.cells #[.string ⟨#[]⟩, .slice none 0 0, .slice none 0 0] 30)) = V at *
  have hW := (Bel.refl V).alloc (.cells #[.string ⟨#[]⟩, .slice none 0 0, .slice none 0 0] 30)
  have a2 := Blk.new V 30 #[.string ⟨#[]⟩, .slice none 0 0, .slice none 0 0]
  have hsz : (V.alloc (.cells #[.string ⟨#[]⟩, .slice none 0 0, .slice none 0 0] 30)).heap.size = V.heap.size + 1 := by simp
  rw [hVz] at a2
  generalize V.alloc (.cells #[.string ⟨#[]⟩, .slice none 0 0, .slice none 0 0] 30) = W at *
  have HV := Lib.hid hV
  refine (all_any 91 #[.pointer (some ⟨w.heap.size, 0, none⟩), .pointer (some ⟨w.heap.size + 2, 0, none⟩)] s W hs (RTr V W.heap.size (w.heap.size + 2) (ptier above s) endErr) (cf_any Try.func91 (by kernel_rfl) (by kernel_rfl)) (fun w4 h1 h2 h3 h4 h5 => trtake1_any V W.heap.size (w.heap.size + 2) w.heap.size s above w4 ha (.begin hW h1 h3 h4 h5) (by omega) (by omega) ((a0.bel (hW.trans h1)).cell 0) .nil (a2.bel h1))).mono ?_
  rintro e w5 ⟨k, w4, rfl, ⟨hb4, hk, T, hx, hxa⟩, hbut, _⟩
  have hb5 := hb4.but2 (by omega) hbut
  have B5 := Lib.hid (HV.out.trans hb5)
  have z5 := a1.bel hb5
  have x5 := hx.but2 hbut (by omega) (by omega)
  have HBut := Lib.hid hbut
  have hgW : w.heap.size + 1 < W.heap.size := by omega
  clear hbut hb4 hb5 hW hsz a0 a1 a2 hx HV hVz hV
  cases hT : ptier above s with
  | error k' =>
    have HT : Hid (trtake above s = (.nil, k')) := by show _ = _; unfold trtake; rw [hT]
    have hk' := ptier_err hT
    rw [hT] at hk
    have hk2 : k = k' := hk
    subst hk2
    have dk : (k == 0) = false := by simpa using hk'
    have dk2 : (k != 0) = true := by simpa using hk'
    clear hT hk hk' hxa x5
    go_wp2_with ((with_reducible show wpList _ _ _ (⟨_, .store _ (.tmp 4) _, _, _, _, _⟩ :: _) _ _); refine wpList_store_blk rfl rowTir (.tmp 4) (.tmp 13) rfl (w.heap.size + 1) rfl z5 rfl #[.string ⟨#[]⟩, .slice none 0 0, .slice none 0 0] rfl rfl (by simp [Value.oneCell']) ?_; intro w7 bC hg7)
    refine bodyPost_ret (results_blk rfl rowTir rfl bC rfl) rfl ?_
    rw [HT.out]
    exact ⟨.nil, rfl, rfl, tir_nil_rd _, by show (0 : Nat) ≤ 200; omega, B5.out.grownAt hg7 (by omega)⟩
  | ok q =>
    obtain ⟨t, l⟩ := q
    rw [hT] at hk
    obtain ⟨rfl, hown⟩ := hxa _ _ hT
    by_cases hl : l = []
    · have HT : Hid (trtake above s = (T.con, 0)) := by show _ = _; unfold trtake; rw [hT]; simp [hl]
      have hk2 : k = 0 := by rw [hk]; show (if l = [] then (0 : Int) else 3) = 0; rw [if_pos hl]
      subst hk2
      have HO := Lib.hid (hown.but2 HBut.out (by omega))
      clear hT hk hl hxa hown
      go_wp2_with (first | ((with_reducible show wpList _ _ _ (⟨some 15, _, _, _, _, _⟩ :: _) _ _); refine wpList_load_blk rfl rowTir (.tmp 6) rfl (w.heap.size + 2) rfl x5 rfl ?_) | ((with_reducible show wpList _ _ _ (⟨_, .store _ (.tmp 4) _, _, _, _, _⟩ :: _) _ _); refine wpList_store_blk rfl rowTir (.tmp 4) (.tmp 15) rfl (w.heap.size + 1) rfl z5 rfl T.cs rfl rfl (tir_one T) ?_; intro w7 bC hg7))
      refine bodyPost_ret (results_blk rfl rowTir rfl bC rfl) rfl ?_
      rw [HT.out]
      exact ⟨T, rfl, rfl, (HO.out.kept hg7 (by omega)).rd, HO.out.un, B5.out.grownAt hg7 (by omega)⟩
    · have HT : Hid (trtake above s = (.nil, 3)) := by show _ = _; unfold trtake; rw [hT]; simp [hl]
      have hk2 : k = 3 := by rw [hk]; show (if l = [] then (0 : Int) else 3) = 3; rw [if_neg hl]
      subst hk2
      clear hT hk hl hxa x5 hown
      go_wp2_with ((with_reducible show wpList _ _ _ (⟨_, .store _ (.tmp 4) _, _, _, _, _⟩ :: _) _ _); refine wpList_store_blk rfl rowTir (.tmp 4) (.tmp 13) rfl (w.heap.size + 1) rfl z5 rfl #[.string ⟨#[]⟩, .slice none 0 0, .slice none 0 0] rfl rfl (by simp [Value.oneCell']) ?_; intro w7 bC hg7)
      refine bodyPost_ret (results_blk rfl rowTir rfl bC rfl) rfl ?_
      rw [HT.out]
      exact ⟨.nil, rfl, rfl, tir_nil_rd _, by show (0 : Nat) ≤ 200; omega, B5.out.grownAt hg7 (by omega)⟩

end Go.Proofs.Ytnjpoamebkehbaa
