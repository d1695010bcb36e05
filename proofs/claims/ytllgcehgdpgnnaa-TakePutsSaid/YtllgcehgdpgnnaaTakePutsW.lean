/- The walk of the law TakePuts. -/
import Derived.Test.YtllgcehgdpgnnaaTakeF
import Derived.Test.YtllgcehgdpgnnaaTail
import Derived.Deep.DeepCutAuto
import Derived.ProofKit
import Derived.OpenShut
namespace Go.Proofs.Ytllgcehgdpgnnaa
open Go.RowKit
set_option linter.unusedVariables false

/-- What is put is read back. -/
theorem pnumber_nput {n : Nat} (hn : n < 18446744073709551616) (t : List UInt8) : pnumber (nput n ++ t) = .ok (n, t) := by
  unfold pnumber
  rw [ntake_nput hn]
  simp only [if_true]
  rw [List.drop_append_of_le_length (by rw [nput_length]; exact Nat.le_refl _), List.drop_of_length_le (by rw [nput_length]; exact Nat.le_refl _)]
  rfl
theorem pnum_nput {n : Nat} {most : Int} (hn : n < 18446744073709551616) (hm : (n : Int) ≤ most) (t : List UInt8) : pnum most (nput n ++ t) = .ok (n, t) := by
  unfold pnum
  rw [pnumber_nput hn]
  simp only
  rw [if_neg (by omega)]
theorem pint_nput {i : Int} (h0 : -9223372036854775808 ≤ i) (h1 : i ≤ 9223372036854775807) (t : List UInt8) : pint (nput (nfold i) ++ t) = .ok (i, t) := by
  unfold pint
  rw [pnumber_nput (nfold_lt h0 h1)]
  simp only [nunfold_nfold]
theorem ptxt_ptext {l : List UInt8} {most : Int} (hl : (l.length : Int) ≤ most) (h2 : l.length < 18446744073709551616) (t : List UInt8) : ptxt most (ptext l ++ t) = .ok (l, t) := by
  unfold ptxt
  have e : ptext l ++ t = nput l.length ++ (l ++ t) := by unfold ptext; rw [List.append_assoc]
  rw [e, pnum_nput h2 hl]
  simp only
  unfold pfix
  rw [if_neg (by rw [List.length_append]; omega), Int.toNat_natCast, List.take_left, List.drop_left]

/-- The three blocks that the reading function fills, and the two that it reads. -/
structure PutB (w : World) (g : Nat) (n i : Int) (l : List UInt8) (a b : Int) (c : List UInt8) : Prop where
  n : Blk w g 3 #[.int .i64 n]
  s : Blk w (g + 1) 9 #[.string ⟨l.toArray⟩]
  a : Blk w (g + 2) 3 #[.int .i64 a]
  b : Blk w (g + 3) 2 #[.int .i64 b]
  c : Blk w (g + 4) 9 #[.string ⟨c.toArray⟩]
theorem PutB.grown {w w' : World} {g : Nat} {n i : Int} {l : List UInt8} {a b : Int} {c : List UInt8} (h : PutB w g n i l a b c) {B : Nat} (hg : w.grownBy w' (some B)) (hB : g + 4 < B) : PutB w' g n i l a b c :=
  ⟨h.n.grown hg (by simp; omega), h.s.grown hg (by simp; omega), h.a.grown hg (by simp; omega), h.b.grown hg (by simp; omega), h.c.grown hg (by simp; omega)⟩
theorem PutB.bel {w w' : World} {g : Nat} {n i : Int} {l : List UInt8} {a b : Int} {c : List UInt8} (h : PutB w g n i l a b c) (hb : Bel w w') : PutB w' g n i l a b c :=
  ⟨h.n.bel hb, h.s.bel hb, h.a.bel hb, h.b.bel hb, h.c.bel hb⟩
theorem PutB.but2 {w w' : World} {g : Nat} {n i : Int} {l : List UInt8} {a b : Int} {c : List UInt8} (h : PutB w g n i l a b c) {B : Nat} (hb : But2 B w w') (hB : g + 4 < B) : PutB w' g n i l a b c :=
  ⟨h.n.but2 hb (by omega) (by omega), h.s.but2 hb (by omega) (by omega), h.a.but2 hb (by omega) (by omega), h.b.but2 hb (by omega) (by omega), h.c.but2 hb (by omega) (by omega)⟩

def RPut (w0 : World) (n i : Int) (l : List UInt8) (k : Int) (w : World) : Prop := k = 0 ∧ Bel w0 w ∧ PutB w w0.heap.size n i l (max n 0) i l

set_option maxRecDepth 100000 in
set_option maxHeartbeats 1000000 in
theorem puts1_any (w0 : World) (B : Nat) (n i : Int) (l s : List UInt8) (w : World) (hs : s = nput n.toNat ++ (nput (nfold i) ++ ptext l)) (hI : InAll w0 B s s w) (hB : w0.heap.size + 4 < B) (hP : PutB w w0.heap.size n i l 0 0 [])
    (n0 : -9223372036854775808 ≤ n) (n1 : n ≤ 9223372036854775807) (i0 : -9223372036854775808 ≤ i) (i1 : i ≤ 9223372036854775807) (hl : l.length ≤ 1000) :
    Calls Try.prog 36 #[.pointer (some ⟨B + 1, 0, none⟩), .pointer (some ⟨w0.heap.size, 0, none⟩), .pointer (some ⟨w0.heap.size + 1, 0, none⟩), .pointer (some ⟨w0.heap.size + 2, 0, none⟩), .pointer (some ⟨w0.heap.size + 3, 0, none⟩), .pointer (some ⟨w0.heap.size + 4, 0, none⟩)] w (AllPost B s (RPut w0 n i l)) := by
  have H1 := Lib.hid (fun w (hr : Rdr w (B + 1) s s) => num_any (B + 1) s s (max n 0) w hr (by omega) (by omega))
  have H2 := Lib.hid (fun w (hr : Rdr w (B + 1) s (nput (nfold i) ++ ptext l)) => int_any (B + 1) s _ w hr)
  have H3 := Lib.hid (fun w (hr : Rdr w (B + 1) s (ptext l)) => text_any (B + 1) s _ (l.length : Int) w hr (by omega) (by omega))
  have e1 : pnum (max n 0) s = .ok (n.toNat, nput (nfold i) ++ ptext l) := by rw [hs]; exact pnum_nput (by omega) (by omega) _
  have e2 : pint (nput (nfold i) ++ ptext l) = .ok (i, ptext l) := pint_nput i0 i1 _
  have e3 : ptxt l.length (ptext l) = .ok (l, []) := by have := ptxt_ptext (l := l) (most := l.length) (Int.le_refl _) (by omega) []; rwa [List.append_nil] at this
  rw [e1] at H1
  rw [e2] at H2
  rw [e3] at H3
  have HI := Lib.hid hI
  have HP := Lib.hid hP
  have c0 := hP.n.cell 0
  have c1 := hP.s.cell 0
  simp only [List.getElem?_toArray, List.getElem?_cons_zero] at c0 c1
  clear e1 e2 e3 hI hs hP
  go_enter Try.func36, Try.ntmps36
  go_region_held3 (fun w' => w'.cell? ⟨w0.heap.size, 0, none⟩ = some (.int .i64 n) ∧ w'.cell? ⟨w0.heap.size + 1, 0, none⟩ = some (.string ⟨l.toArray⟩)) (first | exact ⟨c0, c1⟩ | exact HQ1.out | exact HQ2.out | exact HQ3.out | go_keep) (first
    | (go_at_call 37; refine (H1.out _ (HI.out.more (Bel.refl w).drew).r).mono ?_; rintro e w1 ⟨rfl, hg1, hr1⟩; have I1 := Lib.hid ((HI.out.more (Bel.refl w).drew).read hg1 hr1); have P1 := Lib.hid ((HP.out.bel (Bel.refl w).drew).grown hg1 (by omega)); have HQ1 : Hid (w1.cell? ⟨w0.heap.size, 0, none⟩ = some (.int .i64 n) ∧ w1.cell? ⟨w0.heap.size + 1, 0, none⟩ = some (.string ⟨l.toArray⟩)) := ⟨P1.out.n.cell 0, P1.out.s.cell 0⟩; clear hg1 hr1)
    | (go_at_call 38; refine (H2.out _ I1.out.r).mono ?_; rintro e w2 ⟨rfl, hg2, hr2⟩; have I2 := Lib.hid (I1.out.read hg2 hr2); have P2 := Lib.hid (P1.out.grown hg2 (by omega)); have HQ2 : Hid (w2.cell? ⟨w0.heap.size, 0, none⟩ = some (.int .i64 n) ∧ w2.cell? ⟨w0.heap.size + 1, 0, none⟩ = some (.string ⟨l.toArray⟩)) := ⟨P2.out.n.cell 0, P2.out.s.cell 0⟩; clear hg2 hr2)
    | (go_at_call 39; refine (H3.out _ I2.out.r).mono ?_; rintro e w3 ⟨rfl, hg3, hr3⟩; have I3 := Lib.hid (I2.out.read hg3 hr3); have P3 := Lib.hid (P2.out.grown hg3 (by omega)); have HQ3 : Hid (w3.cell? ⟨w0.heap.size, 0, none⟩ = some (.int .i64 n) ∧ w3.cell? ⟨w0.heap.size + 1, 0, none⟩ = some (.string ⟨l.toArray⟩)) := ⟨P3.out.n.cell 0, P3.out.s.cell 0⟩; obtain ⟨x2, x3, x4, y2, y3, y4⟩ : w3.cell? ⟨w0.heap.size + 2, 0, none⟩ = some (.int .i64 0) ∧ w3.cell? ⟨w0.heap.size + 3, 0, none⟩ = some (.int .i64 0) ∧ w3.cell? ⟨w0.heap.size + 4, 0, none⟩ = some (.string ⟨#[]⟩) ∧ w3.frozen? ⟨w0.heap.size + 2, 0, none⟩ = false ∧ w3.frozen? ⟨w0.heap.size + 3, 0, none⟩ = false ∧ w3.frozen? ⟨w0.heap.size + 4, 0, none⟩ = false := ⟨P3.out.a.cell 0, P3.out.b.cell 0, P3.out.c.cell 0, P3.out.a.frozen 0, P3.out.b.frozen 0, P3.out.c.frozen 0⟩; obtain ⟨z0, z1⟩ := HQ3.out; clear hg3 hr3))
  go_wp2_with fail
  go_end0
  have I4 := ((I3.out.kept (grownBy_setCell w3 (w0.heap.size + 2) 0 (.int .i64 (max n 0))) (by omega) (by omega) (by omega) (by omega)).kept (grownBy_setCell _ (w0.heap.size + 3) 0 (.int .i64 i)) (by omega) (by omega) (by omega) (by omega)).kept (grownBy_setCell _ (w0.heap.size + 4) 0 (.string ⟨l.toArray⟩)) (by omega) (by omega) (by omega) (by omega)
  refine I4.ok ⟨rfl, I4.bel, ?_⟩
  have pa := ((P3.out.a.set_ 0 (.int .i64 (max n 0))).far (p := ⟨w0.heap.size + 3, 0, none⟩) (by simp) (.int .i64 i)).far (p := ⟨w0.heap.size + 4, 0, none⟩) (by simp) (.string ⟨l.toArray⟩)
  have pb := ((P3.out.b.far (p := ⟨w0.heap.size + 2, 0, none⟩) (by simp) (.int .i64 (max n 0))).set_ 0 (.int .i64 i)).far (p := ⟨w0.heap.size + 4, 0, none⟩) (by simp) (.string ⟨l.toArray⟩)
  have pc := ((P3.out.c.far (p := ⟨w0.heap.size + 2, 0, none⟩) (by simp) (.int .i64 (max n 0))).far (p := ⟨w0.heap.size + 3, 0, none⟩) (by simp) (.int .i64 i)).set_ 0 (.string ⟨l.toArray⟩)
  refine ⟨((P3.out.n.far ?_ _).far ?_ _).far ?_ _, ((P3.out.s.far ?_ _).far ?_ _).far ?_ _, by simpa using pa, by simpa using pb, by simpa using pc⟩
  all_goals simp

theorem puts1_caps (w0 : World) (B : Nat) (n i : Int) (l s : List UInt8) (w : World) (hs : s = nput n.toNat ++ (nput (nfold i) ++ ptext l)) (hI : InAll w0 B s s w) (hB : w0.heap.size + 4 < B) (hP : PutB w w0.heap.size n i l 0 0 [])
    (n0 : -9223372036854775808 ≤ n) (n1 : n ≤ 9223372036854775807) (i0 : -9223372036854775808 ≤ i) (i1 : i ≤ 9223372036854775807) (hl : l.length ≤ 1000) :
    Calls Try.prog 36 (#[.pointer (some ⟨B + 1, 0, none⟩)] ++ #[.pointer (some ⟨w0.heap.size, 0, none⟩), .pointer (some ⟨w0.heap.size + 1, 0, none⟩), .pointer (some ⟨w0.heap.size + 1 + 1, 0, none⟩), .pointer (some ⟨w0.heap.size + 1 + 1 + 1, 0, none⟩), .pointer (some ⟨w0.heap.size + 1 + 1 + 1 + 1, 0, none⟩)]) w (AllPost B s (RPut w0 n i l)) := by
  simp only [List.append_toArray, List.cons_append, List.nil_append]
  exact puts1_any w0 B n i l s w hs hI hB hP n0 n1 i0 i1 hl

set_option maxRecDepth 100000 in
set_option maxHeartbeats 2000000 in
theorem takePuts_main (n i : Int) (l : List UInt8) (n0 : -9223372036854775808 ≤ n) (n1 : n ≤ 9223372036854775807) (i0 : -9223372036854775808 ≤ i) (i1 : i ≤ 9223372036854775807) (hl : l.length ≤ 1000) (w : World) :
    Calls Try.prog 7 #[.int .i64 n, .int .i64 i, .string ⟨l.toArray⟩] w fun e w' => e = .returned (.bool true) ∧ Bel w w' := by
  have hmf : ∀ (fn : Fn) (first cap : Array Value) (w : World), (Instr.makeFunc fn first cap).run Try.prog w = .ok (.func fn first cap) w := fun _ _ _ _ => rfl
  have d : decide ((1000 : Int) < l.length) = false := by simp; omega
  go_enter Try.func7, Try.ntmps7
  go_wp2_with fail
  have hP : PutB (((((w.alloc (Obj.cells #[Value.int IntKind.i64 n] 3)).alloc (Obj.cells #[Value.string { data := l.toArray }] 9)).alloc (Obj.cells #[Value.int IntKind.i64 0] 3)).alloc (Obj.cells #[Value.int IntKind.i64 0] 2)).alloc (Obj.cells #[Value.string { data := #[] }] 9)) w.heap.size n i l 0 0 [] := by
    have a0 := ((((Blk.new w 3 #[.int .i64 n]).alloc (.cells #[.string ⟨l.toArray⟩] 9)).alloc (.cells #[.int .i64 0] 3)).alloc (.cells #[.int .i64 0] 2)).alloc (.cells #[.string ⟨#[]⟩] 9)
    have a1 := (((Blk.new (w.alloc (.cells #[.int .i64 n] 3)) 9 #[.string ⟨l.toArray⟩]).alloc (.cells #[.int .i64 0] 3)).alloc (.cells #[.int .i64 0] 2)).alloc (.cells #[.string ⟨#[]⟩] 9)
    have a2 := ((Blk.new ((w.alloc (.cells #[.int .i64 n] 3)).alloc (.cells #[.string ⟨l.toArray⟩] 9)) 3 #[.int .i64 0]).alloc (.cells #[.int .i64 0] 2)).alloc (.cells #[.string ⟨#[]⟩] 9)
    have a3 := (Blk.new (((w.alloc (.cells #[.int .i64 n] 3)).alloc (.cells #[.string ⟨l.toArray⟩] 9)).alloc (.cells #[.int .i64 0] 3)) 2 #[.int .i64 0]).alloc (.cells #[.string ⟨#[]⟩] 9)
    have a4 := Blk.new ((((w.alloc (.cells #[.int .i64 n] 3)).alloc (.cells #[.string ⟨l.toArray⟩] 9)).alloc (.cells #[.int .i64 0] 3)).alloc (.cells #[.int .i64 0] 2)) 9 #[.string ⟨#[]⟩]
    simp only [World.size_alloc] at a1 a2 a3 a4
    exact ⟨a0, a1, a2, a3, a4⟩
  have hW : Bel w (((((w.alloc (Obj.cells #[Value.int IntKind.i64 n] 3)).alloc (Obj.cells #[Value.string { data := l.toArray }] 9)).alloc (Obj.cells #[Value.int IntKind.i64 0] 3)).alloc (Obj.cells #[Value.int IntKind.i64 0] 2)).alloc (Obj.cells #[Value.string { data := #[] }] 9)) := (((((Bel.refl w).alloc _).alloc _).alloc _).alloc _).alloc _
  have hsz : (((((w.alloc (Obj.cells #[Value.int IntKind.i64 n] 3)).alloc (Obj.cells #[Value.string { data := l.toArray }] 9)).alloc (Obj.cells #[Value.int IntKind.i64 0] 3)).alloc (Obj.cells #[Value.int IntKind.i64 0] 2)).alloc (Obj.cells #[Value.string { data := #[] }] 9)).heap.size = w.heap.size + 5 := by simp
  generalize (((((w.alloc (Obj.cells #[Value.int IntKind.i64 n] 3)).alloc (Obj.cells #[Value.string { data := l.toArray }] 9)).alloc (Obj.cells #[Value.int IntKind.i64 0] 3)).alloc (Obj.cells #[Value.int IntKind.i64 0] 2)).alloc (Obj.cells #[Value.string { data := #[] }] 9)) = W at *
  have HP := Lib.hid hP
  have HW := Lib.hid hW
  have Hsz := Lib.hid hsz
  have c0 := hP.n.cell 0
  have c1 := hP.s.cell 0
  simp only [List.getElem?_toArray, List.getElem?_cons_zero] at c0 c1
  have hn9 : (nput n.toNat).length ≤ 9 := by rw [nput_length]; exact nsize_le _
  have hi9 : (nput (nfold i)).length ≤ 9 := by rw [nput_length]; exact nsize_le _
  have hl9 : (ptext l).length ≤ 1009 := by unfold ptext; rw [List.length_append]; have : (nput l.length).length ≤ 9 := by { rw [nput_length]; exact nsize_le _ }; omega
  have q1 : (nput n.toNat).length + (nput (nfold i)).length ≤ 9223372036854775807 := by omega
  have q2 : (nput n.toNat).length + (nput (nfold i)).length + (ptext l).length ≤ 9223372036854775807 := by omega
  clear hP hW hsz
  go_upto_region 4 with fail
  go_cut [10] (fun s10 wx => s10 = .int .i64 0 ∧ Bel w wx ∧ PutB wx w.heap.size n i l (max n 0) i l)
  case first =>
    have d0 := fun u : Over W => Over.cell c0 u
    have d1 := fun u : Over W => Over.cell c1 u
    clear c0 c1
    refine wp_region_over_tail 9 (by kernel_rfl) (by kernel_rfl) ?_
    simp only [List.take_succ_cons, List.take_zero, List.drop_succ_cons, List.drop_zero]
    repeat (go_big_quiet_step (first | (go_at_call 33; exact calls_over (putNum_any n _ n0 n1)) | (go_at_call 34; exact calls_over (pputInt_any i _ i0 i1)) | (go_at_call 35; exact calls_over (putText_any l _ (by omega)))))
    refine wpQuiet_nil ?_
    rintro ⟨w3, hb3⟩
    clear d0 d1
    have P3 := Lib.hid (HP.out.bel hb3)
    have B3 := Lib.hid (HW.out.trans hb3)
    have hz3 := P3.out.c.lt
    dsimp only
    clear hb3
    go_wp2_with fail
    rw [str_append, str_append]
    refine (all_any 36 #[.pointer (some ⟨w.heap.size, 0, none⟩), .pointer (some ⟨w.heap.size + 1, 0, none⟩), .pointer (some ⟨w.heap.size + 1 + 1, 0, none⟩), .pointer (some ⟨w.heap.size + 1 + 1 + 1, 0, none⟩), .pointer (some ⟨w.heap.size + 1 + 1 + 1 + 1, 0, none⟩)] _ w3 (by simp only [List.length_append]; omega) (RPut w n i l) (cf_any Try.func36 (by kernel_rfl) (by kernel_rfl)) (fun w4 h1 h2 h3 h4 h5 => puts1_caps w _ n i l _ w4 (by rw [List.append_assoc]) (.begin B3.out h1 h3 h4 h5) (by omega) (P3.out.bel h1) n0 n1 i0 i1 hl)).mono ?_
    rintro e w5 ⟨k, w4, rfl, ⟨rfl, hb4, hp4⟩, hbut, _⟩
    have P4 := Lib.hid (hp4.but2 hbut (by omega))
    have B4 := Lib.hid (hb4.but2 (by omega) hbut)
    clear hb4 hp4 hbut
    go_wp2_with fail
    go_meet
    exact ⟨rfl, B4.out, P4.out⟩
  case rest =>
    obtain ⟨rfl, hB, hP⟩ := hcut
    have HB := Lib.hid hB
    have d0 := fun u => Over.cell (v := .int .i64 n) (hP.n.cell 0) u
    have d1 := fun u => Over.cell (v := .string ⟨l.toArray⟩) (hP.s.cell 0) u
    have d2 := fun u => Over.cell (v := .int .i64 (max n 0)) (hP.a.cell 0) u
    have d3 := fun u => Over.cell (v := .int .i64 i) (hP.b.cell 0) u
    have d4 := fun u => Over.cell (v := .string ⟨l.toArray⟩) (hP.c.cell 0) u
    clear c0 c1 hP hB
    go_wp2_with fail
    refine wp_region_over (by kernel_rfl) (by kernel_rfl) ?_
    repeat (go_big_quiet_step (first | (go_at_call 33; exact calls_over (putNum_any n _ n0 n1)) | (go_at_call 40; exact calls_over (rputNum_any n _ n0 n1)) | (go_at_call 34; exact calls_over (pputInt_any i _ i0 i1)) | (go_at_call 41; exact calls_over (rputInt_any i _ i0 i1)) | (go_at_call 35; exact calls_over (putText_any l _ (by omega))) | (go_at_call 42; exact calls_over (rputText_any l _ (by omega))) | (go_at_call 26; exact calls_over (awake04_any _))))
    refine wpQuiet_nil ?_
    rintro _ ⟨⟨w5, hb5⟩, rfl⟩
    clear d0 d1 d2 d3 d4
    go_wp2_with fail
    go_ret
    exact ⟨rfl, HB.out.trans hb5⟩

theorem walk_takePuts (n : Int) (wn : (Lit.int .i64 n).wf = true) (i : Int) (wi : (Lit.int .i64 i).wf = true) (b : ByteArray) (hb : b.size ≤ 9223372036854775807) (w : World) :
    Calls Try.prog 7 #[.int .i64 n, .int .i64 i, .string b] w fun e w' => e = .returned (.bool true) ∧ Bel w w' := by
  obtain ⟨⟨l⟩⟩ := b
  obtain ⟨n0, n1⟩ := bounds_i64 wn
  obtain ⟨i0, i1⟩ := bounds_i64 wi
  by_cases hl : l.length ≤ 1000
  · exact takePuts_main n i l n0 n1 i0 i1 hl w
  · have d : decide ((1000 : Int) < l.length) = true := by simp; omega
    clear wn wi
    go_enter Try.func7, Try.ntmps7
    go_wp2_with fail
    refine (awake04_any _).mono ?_; rintro e w5 ⟨rfl, hb5⟩
    go_wp2
    go_ret
    exact ⟨rfl, (((Bel.refl w).alloc _).alloc _).trans hb5⟩

end Go.Proofs.Ytllgcehgdpgnnaa
