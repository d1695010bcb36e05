/- agg.Take: an aggregate of bytes; the law's reading of one with which bytes begin. -/
import Derived.Test.YtllgcehgdpgnnaaAggU
import Derived.Test.YtllgcehgdpgnnaaTermU
import Derived.Test.YtllgcehgdpgnnaaTermX
namespace Go.Proofs.Ytllgcehgdpgnnaa
open Go.RowKit
set_option linter.unusedVariables false
set_option linter.unusedSimpArgs false

/-- An aggregate read is laid in a block of the reading function's own. -/
def RA (w0 : World) (g : Nat) (o : PR Ag) (K : PR Ag → Int) (k : Int) (w' : World) : Prop :=
  Bel w0 w' ∧ k = K o ∧ ∃ x : Ag, Blk w' g 92 x.cs ∧ ∀ a l, o = .ok (a, l) → x = a

set_option maxRecDepth 100000 in
set_option maxHeartbeats 1000000 in
theorem atake1_any (w0 : World) (B g gm : Nat) (s : List UInt8) (m : Int) (w : World) (hm : I64 m) (hI : InAll w0 B s s w) (hg0 : w0.heap.size ≤ g) (hgB : g < B)
    (hmc : w.cell? ⟨gm, 0, none⟩ = some (.int .i64 m)) (x0 : Ag) (hb : Blk w g 92 x0.cs) :
    Calls Try.prog 125 #[.pointer (some ⟨B + 1, 0, none⟩), .pointer (some ⟨gm, 0, none⟩), .pointer (some ⟨g, 0, none⟩)] w (AllPost B s (RA w0 g (pag m s) endErr)) := by
  have HI := Lib.hid hI
  have Hb := Lib.hid hb
  have HT := Lib.hid (aread_any (B + 1) s s m w hI.r hm)
  clear hI hb
  go_enter Try.func125, Try.ntmps125
  go_wp2_with fail
  cases ho : pag m s with
  | error k =>
    have Ho := Lib.hid ho
    rw [ho] at HT
    refine HT.out.mono ?_; rintro e w1 ⟨rfl, hg, l1, hr⟩
    clear ho
    go_wp2_with fail
    refine ⟨rfl, ?_⟩
    refine (HI.out.read hg hr).err ⟨(HI.out.read hg hr).bel, rfl, x0, Hb.out.grown hg (by simp; omega), fun _ _ h => by cases h⟩
  | ok q =>
    obtain ⟨a, l1⟩ := q
    have Ho := Lib.hid ho
    rw [ho] at HT
    refine HT.out.mono ?_; rintro e w1 ⟨rfl, hg, hr⟩
    have b1 := Hb.out.grown hg (by simp; omega)
    have I1 := Lib.hid (HI.out.read hg hr)
    clear hg hr ho
    go_wp2_with (((with_reducible show wpList _ _ _ (⟨_, .store _ (.tmp 2) _, _, _, _, _⟩ :: _) _ _); refine wpList_store_blk rfl rowAg (.tmp 2) (.tmp 6) rfl g rfl b1 rfl a.cs rfl rfl (ag_one a) ?_; intro w2 b2 hg2))
    go_end0
    have I2 := I1.out.kept hg2 hg0 (by omega) (by omega) (by omega)
    refine I2.ok ⟨I2.bel, by rw [Ho.out]; rfl, a, b2, ?_⟩
    intro a' l' h
    rw [Ho.out] at h
    injection h with h
    injection h with h1 h2

/-- What agg.Take answers. -/
def atake (m : Int) (s : List UInt8) : Ag × Int :=
  match pag m s with
  | .error k => (.zero, k)
  | .ok (a, l) => if l = [] then (a, 0) else (.zero, 3)

set_option maxRecDepth 100000 in
set_option maxHeartbeats 1000000 in
theorem atake_any (s : List UInt8) (m : Int) (w : World) (hm : I64 m) (hs : s.length ≤ 1000001) :
    Calls Try.prog 63 #[.string ⟨s.toArray⟩, .int .i64 m] w fun e w' => e = .returned (.tuple #[.agg (atake m s).1.cs, .int .i64 (atake m s).2]) ∧ Bel w w' := by
  have hmf : ∀ (fn : Fn) (first cap : Array Value) (w : World), (Instr.makeFunc fn first cap).run Try.prog w = .ok (.func fn first cap) w := fun _ _ _ _ => rfl
  have ez : Ag.zero.cs = #[.int .i64 0, .int .i64 0, .int .i64 0, .int .i64 0, .int .i64 0, .int .i64 0, .int .i64 0, .int .i64 0, .int .i64 0, .int .i64 0] := rfl
  have hV : Bel w ((w.alloc (.cells #[Value.int .i64 m] 3)).alloc (.cells Ag.zero.cs 92)) := ((Bel.refl w).alloc _).alloc _
  have a0 := (Blk.new w 3 #[.int .i64 m]).alloc (.cells Ag.zero.cs 92)
  have a1 := Blk.new (w.alloc (.cells #[.int .i64 m] 3)) 92 Ag.zero.cs
  have hVz : ((w.alloc (.cells #[Value.int .i64 m] 3)).alloc (.cells Ag.zero.cs 92)).heap.size = w.heap.size + 2 := by simp
  simp only [World.size_alloc] at a1
  go_enter Try.func63, Try.ntmps63
  go_wp2_with fail
  rw [← ez]
  generalize ((w.alloc (.cells #[Value.int .i64 m] 3)).alloc (.cells Ag.zero.cs 92)) = V at *
  have hW := (Bel.refl V).alloc (.cells Ag.zero.cs 92)
  have a2 := Blk.new V 92 Ag.zero.cs
  have hsz : (V.alloc (.cells Ag.zero.cs 92)).heap.size = V.heap.size + 1 := by simp
  rw [hVz] at a2
  generalize V.alloc (.cells Ag.zero.cs 92) = W at *
  have HV := Lib.hid hV
  refine (all_any 125 #[.pointer (some ⟨w.heap.size, 0, none⟩), .pointer (some ⟨w.heap.size + 2, 0, none⟩)] s W hs (RA V (w.heap.size + 2) (pag m s) endErr) (cf_any Try.func125 (by kernel_rfl) (by kernel_rfl)) (fun w4 h1 h2 h3 h4 h5 => atake1_any V W.heap.size (w.heap.size + 2) w.heap.size s m w4 hm (.begin hW h1 h3 h4 h5) (by omega) (by omega) ((a0.bel (hW.trans h1)).cell 0) .zero (a2.bel h1))).mono ?_
  rintro e w5 ⟨k, w4, rfl, ⟨hb4, hk, x, hx, hxa⟩, hbut, _⟩
  have hb5 := hb4.but2 (by omega) hbut
  have B5 := Lib.hid (HV.out.trans hb5)
  have z5 := a1.bel hb5
  have x5 := hx.but2 hbut (by omega) (by omega)
  have EZ := Lib.hid ez
  clear hbut hb4 hb5 hW hsz a0 a1 a2 hx HV hVz hV ez
  cases hT : pag m s with
  | error k' =>
    have HT : Hid (atake m s = (.zero, k')) := by show _ = _; unfold atake; rw [hT]
    have hk' := pag_err hT
    rw [hT] at hk
    have hk2 : k = k' := hk
    subst hk2
    have dk : (k == 0) = false := by subst hk'; rfl
    clear hT hk hk' hxa x5
    go_wp2_with (((with_reducible show wpList _ _ _ (⟨_, .store _ (.tmp 4) _, _, _, _, _⟩ :: _) _ _); refine wpList_store_blk rfl rowAg (.tmp 4) (.tmp 13) rfl (w.heap.size + 1) rfl z5 rfl Ag.zero.cs rfl (by rw [EZ.out]; rfl) (ag_one _) ?_; intro w7 bC hg7))
    refine bodyPost_ret (results_blk rfl rowAg rfl bC rfl) rfl ?_
    rw [HT.out]
    exact ⟨rfl, B5.out.grownAt hg7 (by omega)⟩
  | ok q =>
    obtain ⟨a, l⟩ := q
    rw [hT] at hk
    obtain rfl := hxa _ _ hT
    by_cases hl : l = []
    · have HT : Hid (atake m s = (x, 0)) := by show _ = _; unfold atake; rw [hT]; simp [hl]
      have hk2 : k = 0 := by rw [hk]; show (if l = [] then (0 : Int) else 3) = 0; rw [if_pos hl]
      subst hk2
      clear hT hk hl hxa
      go_wp2_with (first | ((with_reducible show wpList _ _ _ (⟨some 15, _, _, _, _, _⟩ :: _) _ _); refine wpList_load_blk rfl rowAg (.tmp 6) rfl (w.heap.size + 2) rfl x5 rfl ?_) | ((with_reducible show wpList _ _ _ (⟨_, .store _ (.tmp 4) _, _, _, _, _⟩ :: _) _ _); refine wpList_store_blk rfl rowAg (.tmp 4) (.tmp 15) rfl (w.heap.size + 1) rfl z5 rfl x.cs rfl rfl (ag_one _) ?_; intro w7 bC hg7))
      refine bodyPost_ret (results_blk rfl rowAg rfl bC rfl) rfl ?_
      rw [HT.out]
      exact ⟨rfl, B5.out.grownAt hg7 (by omega)⟩
    · have HT : Hid (atake m s = (.zero, 3)) := by show _ = _; unfold atake; rw [hT]; simp [hl]
      have hk2 : k = 3 := by rw [hk]; show (if l = [] then (0 : Int) else 3) = 3; rw [if_neg hl]
      subst hk2
      clear hT hk hl hxa x5
      go_wp2_with (((with_reducible show wpList _ _ _ (⟨_, .store _ (.tmp 4) _, _, _, _, _⟩ :: _) _ _); refine wpList_store_blk rfl rowAg (.tmp 4) (.tmp 13) rfl (w.heap.size + 1) rfl z5 rfl Ag.zero.cs rfl (by rw [EZ.out]; rfl) (ag_one _) ?_; intro w7 bC hg7))
      refine bodyPost_ret (results_blk rfl rowAg rfl bC rfl) rfl ?_
      rw [HT.out]
      exact ⟨rfl, B5.out.grownAt hg7 (by omega)⟩

set_option maxRecDepth 100000 in
set_option maxHeartbeats 1000000 in
theorem at1_any (w0 : World) (B g gm : Nat) (s : List UInt8) (m : Int) (w : World) (hm : I64 m) (hI : InAll w0 B s s w) (hg0 : w0.heap.size ≤ g) (hgB : g < B)
    (hmc : w.cell? ⟨gm, 0, none⟩ = some (.int .i64 m)) (x0 : Ag) (hb : Blk w g 92 x0.cs) :
    Calls Try.prog 73 #[.pointer (some ⟨B + 1, 0, none⟩), .pointer (some ⟨gm, 0, none⟩), .pointer (some ⟨g, 0, none⟩)] w (AllPost B s (RA w0 g (pag m s) prErr)) := by
  have HI := Lib.hid hI
  have Hb := Lib.hid hb
  have HT := Lib.hid (aread_any (B + 1) s s m w hI.r hm)
  clear hI hb
  go_enter Try.func73, Try.ntmps73
  go_wp2_with fail
  cases ho : pag m s with
  | error k =>
    have Ho := Lib.hid ho
    rw [ho] at HT
    refine HT.out.mono ?_; rintro e w1 ⟨rfl, hg, l1, hr⟩
    clear ho
    go_wp2_with fail
    refine ⟨rfl, ?_⟩
    refine (HI.out.read hg hr).err ⟨(HI.out.read hg hr).bel, rfl, x0, Hb.out.grown hg (by simp; omega), fun _ _ h => by cases h⟩
  | ok q =>
    obtain ⟨a, l1⟩ := q
    have Ho := Lib.hid ho
    rw [ho] at HT
    refine HT.out.mono ?_; rintro e w1 ⟨rfl, hg, hr⟩
    have b1 := Hb.out.grown hg (by simp; omega)
    have I1 := Lib.hid (HI.out.read hg hr)
    clear hg hr ho
    go_wp2_with (((with_reducible show wpList _ _ _ (⟨_, .store _ (.tmp 2) _, _, _, _, _⟩ :: _) _ _); refine wpList_store_blk rfl rowAg (.tmp 2) (.tmp 6) rfl g rfl b1 rfl a.cs rfl rfl (ag_one a) ?_; intro w2 b2 hg2))
    have I2 := Lib.hid (I1.out.kept hg2 hg0 (by omega) (by omega) (by omega))
    have hl1 := I2.out.r.len
    refine (left_any (B + 1) s l1 _ I2.out.r).mono ?_; rintro e w3 ⟨rfl, hb3⟩
    have I3 := Lib.hid (I2.out.more hb3)
    have B3 := Lib.hid (b2.bel hb3)
    clear b2 hg2 hb3 I1 I2 b1
    go_wp2_with fail
    have HF := Lib.hid (fix_any (B + 1) s l1 (l1.length : Int) _ I3.out.r (by omega) (by omega))
    rw [show pfix (l1.length : Int) l1 = .ok (l1, []) by unfold pfix; rw [if_neg (by omega), Int.toNat_natCast, List.take_length, List.drop_length]] at HF
    refine HF.out.mono ?_; rintro e w5 ⟨rfl, hg5, hr5⟩
    go_wp2_with fail
    go_end0
    have I5 := I3.out.read hg5 hr5
    refine I5.ok ⟨I5.bel, by rw [Ho.out]; rfl, a, B3.out.grown hg5 (by simp; omega), ?_⟩
    intro a' l' h
    rw [Ho.out] at h
    injection h with h
    injection h with h1 h2

end Go.Proofs.Ytllgcehgdpgnnaa
