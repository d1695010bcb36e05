/- The heap of runs: its methods. -/
import Derived.Test.YtnekknemjhlgdaaKmP
import Derived.Handy
import Derived.Test.YtnekknemjhlgdaaFactF
import Derived.Test.YtnekknemjhlgdaaFactC
import Derived.Test.YtnekknemjhlgdaaSep
import Derived.Test.YtnekknemjhlgdaaOwnSet
import Derived.Test.YtnekknemjhlgdaaBb
namespace Go.Proofs.Ytnekknemjhlgdaa
open Go.RowKit
set_option linter.unusedVariables false
set_option linter.unusedSimpArgs false


set_option maxRecDepth 100000 in
theorem recv_heads (s : String) (g : Nat) (w : World) : (receiverAt 183 (.val (.pointer (some ⟨g, 0, none⟩))) false (some s)).run Try.prog w = (loadVar 185 ⟨g, 0, none⟩).run Try.prog w := by kernel_rfl
set_option maxRecDepth 100000 in
theorem load_heads (g : Nat) {v : Value} {w : World} (h : w.cell? ⟨g, 0, none⟩ = some v) : (loadVar 185 ⟨g, 0, none⟩).run Try.prog w = .ok v w := by
  simp [loadVar, go_sem, h]
set_option maxRecDepth 100000 in
theorem meth_Len0 (n : Nat) (v : Value) (w : World) : (Go.method (n + 1) 183 v "Len").run Try.prog w = ((receiverAt 183 (.val v) false (some ((("Len" : String).splitOn ".").getLastD "Len"))) >>= fun r => pure (114, r)).run Try.prog w := by kernel_rfl
theorem meth_Len (n g : Nat) {v : Value} {w : World} (h : w.cell? ⟨g, 0, none⟩ = some v) : (Go.method (n + 1) 183 (.pointer (some ⟨g, 0, none⟩)) "Len").run Try.prog w = .ok (114, v) w := by
  rw [meth_Len0, Sem.run_bind, recv_heads, load_heads g h]
  rfl
set_option maxRecDepth 100000 in
theorem meth_Less0 (n : Nat) (v : Value) (w : World) : (Go.method (n + 1) 183 v "Less").run Try.prog w = ((receiverAt 183 (.val v) false (some ((("Less" : String).splitOn ".").getLastD "Less"))) >>= fun r => pure (257, r)).run Try.prog w := by kernel_rfl
theorem meth_Less (n g : Nat) {v : Value} {w : World} (h : w.cell? ⟨g, 0, none⟩ = some v) : (Go.method (n + 1) 183 (.pointer (some ⟨g, 0, none⟩)) "Less").run Try.prog w = .ok (257, v) w := by
  rw [meth_Less0, Sem.run_bind, recv_heads, load_heads g h]
  rfl
set_option maxRecDepth 100000 in
theorem meth_Swap0 (n : Nat) (v : Value) (w : World) : (Go.method (n + 1) 183 v "Swap").run Try.prog w = ((receiverAt 183 (.val v) false (some ((("Swap" : String).splitOn ".").getLastD "Swap"))) >>= fun r => pure (260, r)).run Try.prog w := by kernel_rfl
theorem meth_Swap (n g : Nat) {v : Value} {w : World} (h : w.cell? ⟨g, 0, none⟩ = some v) : (Go.method (n + 1) 183 (.pointer (some ⟨g, 0, none⟩)) "Swap").run Try.prog w = .ok (260, v) w := by
  rw [meth_Swap0, Sem.run_bind, recv_heads, load_heads g h]
  rfl
set_option maxRecDepth 100000 in
theorem meth_Push (n : Nat) (v : Value) (w : World) : (Go.method (n + 1) 183 v "Push").run Try.prog w = .ok (259, v) w := by kernel_rfl
set_option maxRecDepth 100000 in
theorem meth_Pop (n : Nat) (v : Value) (w : World) : (Go.method (n + 1) 183 v "Pop").run Try.prog w = .ok (258, v) w := by kernel_rfl

/-- What is left of a run, and which one it is. -/
structure HdR where
  left : Row Fct
  no : Nat
abbrev HdR.cs (h : HdR) : Array Value := #[.slice h.left.A h.left.n h.left.c, .int .i64 h.no]
structure HdR.ok (w : World) (h : HdR) : Prop where
  left : h.left.ok w
  n1 : 1 ≤ h.left.n
  no : h.no ≤ 1000000
theorem HdR.ok.mono {w w' : World} {h : HdR} (k : h.ok w) (hb : Bel w w') : h.ok w' := ⟨k.left.mono hb, k.n1, k.no⟩
theorem hdr_one (h : HdR) : h.cs.all (·.oneCell') = true := by simp [Value.oneCell']
instance instCelHdR : Cel HdR where
  size := 2
  bytes := 32
  cells h := h.cs.toList
  ok w h := h.ok w
  len _ := rfl
  pos := by omega
  mono hb h := h.mono hb
abbrev HdR.con (h : HdR) : Hd := (cons h.left.l, h.no)
theorem rowHdR : RowTy Try.prog 188 2 := ⟨⟨_, Try.underlying188, rfl⟩, by kernel_rfl⟩
theorem E_hdr : ElemInfo Try.prog 185 188 2 32 := ElemInfo.mk' (z := .agg #[.slice none 0 0, .int .i64 0]) Try.underlying185 (by kernel_rfl) rfl (by omega)
/-- The heap of a call's own: its variable and its row. -/
abbrev rHeap (g : Nat) (A : Option Addr) (n c : Nat) (L : List HdR) (rest : List Res) : List Res := rBlk g 185 #[.slice A n c] :: rRow 188 2 (.slice A n c) n (L.flatMap Cel.cells) :: rest
theorem SL.tl {S : Nat → Prop} {w0 w : World} {r : Res} {l : List Res} (h : SL S w0 w (r :: l)) : SL S w0 w l := h.pick l (· + 1) (fun i q hq => by simpa using hq) (fun i j _ _ e => by omega)
theorem own_blk0 {w : World} {e : TypeId} {size n c : Nat} {A : Option Addr} {xs : List Value} (h : w.ownsRow 0 e size (.slice A n c) n xs) (hn : 0 < n) : ∃ g, A = some ⟨g, 0, none⟩ := by
  rcases h.2 with ⟨h0, h1⟩ | ⟨g', cap, cur, hv, _⟩
  · omega
  · injection hv with hv1 _ _
    exact ⟨g', hv1⟩
/-- An element of the row. -/
theorem heads_at {w : World} {A : Option Addr} {n c k : Nat} {L : List HdR} (h : w.ownsRow 0 188 2 (.slice A n c) n (L.flatMap Cel.cells)) (hk : k < n) :
    ∃ b a, A = some ⟨b, 0, none⟩ ∧ b < w.heap.size ∧ L[k]? = some a ∧ w.rangeAt b (k * 2) a.cs.toList ∧ w.cell? ⟨b, k * 2, none⟩ = some (.slice a.left.A a.left.n a.left.c) ∧ w.cell? ⟨b, k * 2 + 1, none⟩ = some (.int .i64 a.no) := by
  obtain ⟨g, rfl⟩ := own_blk0 h (by omega)
  have hl : L.length = n := rd_len (Rd.of_own h)
  have ha := List.getElem?_eq_getElem (show k < L.length by omega)
  obtain ⟨h1, h2⟩ := own_range h ha
  exact ⟨g, _, rfl, h2, ha, h1, h1 0 _ rfl, h1 1 _ rfl⟩
theorem cons_cons {l : List Fct} {f : Fct} (h : l[0]? = some f) : ∃ t, cons l = f.con :: t := by
  cases l with
  | nil => simp at h
  | cons a l => injection h with h; subst h; exact ⟨_, rfl⟩
theorem lessH_of {a b : HdR} {f g : Fct} (hf : a.left.l[0]? = some f) (hg : b.left.l[0]? = some g) : lessH a.con b.con = (decide (cmpK f.ks.l g.ks.l = -1) || (decide (cmpK f.ks.l g.ks.l = 0) && decide (a.no < b.no))) := by
  obtain ⟨s, hs⟩ := cons_cons hf
  obtain ⟨t, ht⟩ := cons_cons hg
  simp only [lessH, HdR.con, hs, ht]
  rfl
set_option maxRecDepth 100000 in
theorem hlen_any (A : Option Addr) (n c : Nat) (w : World) : Calls Try.prog 114 #[.slice A n c] w fun e w' => e = .returned (.int .i64 n) ∧ w = w' := by
  go_enter Try.func114, Try.ntmps114
  go_wp2
  go_ret
  exact ⟨rfl, rfl⟩

set_option maxRecDepth 100000 in
set_option maxHeartbeats 2000000 in
theorem hless_any (A : Option Addr) (n c i k : Nat) (L : List HdR) (a b : HdR) (w : World) (h : w.ownsRow 0 188 2 (.slice A n c) n (L.flatMap Cel.cells)) (hn : n ≤ 1000000) (ha : L[i]? = some a) (hb : L[k]? = some b) (oa : a.ok w) (ob : b.ok w) :
    Calls Try.prog 257 #[.slice A n c, .int .i64 i, .int .i64 k] w fun e w' => e = .returned (.bool (lessH a.con b.con)) ∧ Bel w w' := by
  have hl : L.length = n := rd_len (Rd.of_own h)
  have hi := (List.getElem?_eq_some_iff.1 ha).1
  have hk := (List.getElem?_eq_some_iff.1 hb).1
  obtain ⟨g, a', rfl, hg, ha', _, ca0, ca1⟩ := heads_at h (k := i) (by omega)
  rw [ha] at ha'; injection ha' with ha'; subst ha'
  obtain ⟨g', b', e, _, hb', _, cb0, cb1⟩ := heads_at h (k := k) (by omega)
  rw [hb] at hb'; injection hb' with hb'; subst hb'
  injection e with e; injection e with e; subst e
  obtain ⟨ba, oo, f, hA, hba, hf0, hf, _, hrf, _⟩ := oa.left.fct oa.n1
  obtain ⟨bb, pp, f2, hB, hbb, hf2, hf2k, _, hrf2, _⟩ := ob.left.fct ob.n1
  have HL : Hid (lessH a.con b.con = (decide (cmpK f.ks.l f2.ks.l = -1) || (decide (cmpK f.ks.l f2.ks.l = 0) && decide (a.no < b.no)))) := lessH_of hf0 hf2
  have HC := Lib.hid (fun w' (hb : Bel w w') => fcompare_any f f2 w' ⟨hf.ks.mono hb, hf.ag⟩ ⟨hf2k.ks.mono hb, hf2k.ag⟩)
  have HR1 := Lib.hid hrf
  have HR2 := Lib.hid hrf2
  have H := Lib.hid (SL.start No w)
  have HCR := Lib.hid (cmpK_range f.ks.l f2.ks.l)
  have n1a := oa.n1
  have n1b := ob.n1
  have ga := oa.no
  have gb := ob.no
  obtain ⟨⟨LA, ln, lc, ll⟩, no⟩ := a
  obtain ⟨⟨MA, mn, mc, ml⟩, no2⟩ := b
  simp only at *
  subst hA hB
  clear hf0 hf hrf hf2 hf2k hrf2 h ha hb oa ob
  have i0 : (0 : Int) ≤ i := by omega
  have i1 : (i : Int) < n := by omega
  have k0 : (0 : Int) ≤ k := by omega
  have k1 : (k : Int) < n := by omega
  have l1 : (0 : Int) < ln := by omega
  have m1 : (0 : Int) < mn := by omega
  go_enter Try.func257, Try.ntmps257
  generalize cmpK f.ks.l f2.ks.l = C at *
  go_upto_region 1 with fail
  have f_ca0 := fun u : Over w => Over.cell ca0 u
  have f_cb0 := fun u : Over w => Over.cell cb0 u
  refine wp_region_over (by kernel_rfl) (by kernel_rfl) ?_
  (try simp only [Act.put, List.setIfInBounds_toArray, List.set_cons_zero, List.set_cons_succ])
  repeat (first
    | ((with_reducible show wpQuiet _ _ _ _ (⟨some 14, _, _, _, _, _⟩ :: _) _); refine wpQuiet_load_row (by first | rfl | go_simp) rowFct (.tmp 13) rfl ba (oo) rfl _ rfl hba HR1.out ?_; simp only [Act.put, List.setIfInBounds_toArray, List.set_cons_zero, List.set_cons_succ])
    | ((with_reducible show wpQuiet _ _ _ _ (⟨some 21, _, _, _, _, _⟩ :: _) _); refine wpQuiet_load_row (by first | rfl | go_simp) rowFct (.tmp 20) rfl bb (pp) rfl _ rfl hbb HR2.out ?_; simp only [Act.put, List.setIfInBounds_toArray, List.set_cons_zero, List.set_cons_succ])
    | go_big_quiet_step (((go_at_call 109; rename_i u; exact calls_over (HC.out _ u.bel)))))
  refine wpQuiet_nil ?_
  rintro w5 ⟨⟨_, hw5⟩, rfl⟩
  (try dsimp only)
  replace H := Lib.hid (H.out.bel hw5); (try simp only [List.set_cons_zero, List.set_cons_succ, List.cons_append, List.nil_append, List.eraseIdx_cons_zero, List.eraseIdx_cons_succ, List.setIfInBounds_toArray, World.size_alloc, selR, List.getD_cons_zero, List.getD_cons_succ] at H)
  clear f_ca0 f_cb0 ca0 cb0
  have da1 : w5.cell? ⟨g, i * 2 + 1, none⟩ = some (.int .i64 no) := by rw [World.cell?_of_block (hw5.block g hg)]; exact ca1
  have db1 : w5.cell? ⟨g, k * 2 + 1, none⟩ = some (.int .i64 no2) := by rw [World.cell?_of_block (hw5.block g hg)]; exact cb1
  clear ca1 cb1 hw5
  rcases HCR.out with rfl | rfl | rfl
  · replace HL : Hid (_ = true) := HL
    go_upto_region 2 with fail
    have f_da1 := fun u : Over w5 => Over.cell da1 u
    have f_db1 := fun u : Over w5 => Over.cell db1 u
    refine wp_region_over (by kernel_rfl) (by kernel_rfl) ?_
    (try simp only [Act.put, List.setIfInBounds_toArray, List.set_cons_zero, List.set_cons_succ])
    repeat (go_big_quiet_step (fail))
    refine wpQuiet_nil ?_
    rintro w5 ⟨⟨_, hw5⟩, rfl⟩
    (try dsimp only)
    replace H := Lib.hid (H.out.bel hw5); (try simp only [List.set_cons_zero, List.set_cons_succ, List.cons_append, List.nil_append, List.eraseIdx_cons_zero, List.eraseIdx_cons_succ, List.setIfInBounds_toArray, World.size_alloc, selR, List.getD_cons_zero, List.getD_cons_succ] at H)
    clear f_da1 f_db1 da1 db1
    go_wp2
    go_ret
    rw [HL.out]
    exact ⟨by first | rfl | (simp; done), H.out.to⟩
  · by_cases hq : no < no2
    · replace HL := Lib.hid (HL.out.trans (show _ = true by simp [hq]))
      have q1 : (no : Int) < no2 := by omega
      go_upto_region 2 with fail
      have f_da1 := fun u : Over w5 => Over.cell da1 u
      have f_db1 := fun u : Over w5 => Over.cell db1 u
      refine wp_region_over (by kernel_rfl) (by kernel_rfl) ?_
      (try simp only [Act.put, List.setIfInBounds_toArray, List.set_cons_zero, List.set_cons_succ])
      repeat (go_big_quiet_step (fail))
      refine wpQuiet_nil ?_
      rintro w5 ⟨⟨_, hw5⟩, rfl⟩
      (try dsimp only)
      replace H := Lib.hid (H.out.bel hw5); (try simp only [List.set_cons_zero, List.set_cons_succ, List.cons_append, List.nil_append, List.eraseIdx_cons_zero, List.eraseIdx_cons_succ, List.setIfInBounds_toArray, World.size_alloc, selR, List.getD_cons_zero, List.getD_cons_succ] at H)
      clear f_da1 f_db1 da1 db1
      go_wp2
      go_ret
      rw [HL.out]
      exact ⟨by first | rfl | (simp; done), H.out.to⟩
    · replace HL := Lib.hid (HL.out.trans (show _ = false by simp [hq]))
      have q1 : ¬ (no : Int) < no2 := by omega
      go_upto_region 2 with fail
      have f_da1 := fun u : Over w5 => Over.cell da1 u
      have f_db1 := fun u : Over w5 => Over.cell db1 u
      refine wp_region_over (by kernel_rfl) (by kernel_rfl) ?_
      (try simp only [Act.put, List.setIfInBounds_toArray, List.set_cons_zero, List.set_cons_succ])
      repeat (go_big_quiet_step (fail))
      refine wpQuiet_nil ?_
      rintro w5 ⟨⟨_, hw5⟩, rfl⟩
      (try dsimp only)
      replace H := Lib.hid (H.out.bel hw5); (try simp only [List.set_cons_zero, List.set_cons_succ, List.cons_append, List.nil_append, List.eraseIdx_cons_zero, List.eraseIdx_cons_succ, List.setIfInBounds_toArray, World.size_alloc, selR, List.getD_cons_zero, List.getD_cons_succ] at H)
      clear f_da1 f_db1 da1 db1
      go_wp2
      go_ret
      rw [HL.out]
      exact ⟨by first | rfl | (simp; done), H.out.to⟩
  · replace HL : Hid (_ = false) := HL
    go_upto_region 2 with fail
    have f_da1 := fun u : Over w5 => Over.cell da1 u
    have f_db1 := fun u : Over w5 => Over.cell db1 u
    refine wp_region_over (by kernel_rfl) (by kernel_rfl) ?_
    (try simp only [Act.put, List.setIfInBounds_toArray, List.set_cons_zero, List.set_cons_succ])
    repeat (go_big_quiet_step (fail))
    refine wpQuiet_nil ?_
    rintro w5 ⟨⟨_, hw5⟩, rfl⟩
    (try dsimp only)
    replace H := Lib.hid (H.out.bel hw5); (try simp only [List.set_cons_zero, List.set_cons_succ, List.cons_append, List.nil_append, List.eraseIdx_cons_zero, List.eraseIdx_cons_succ, List.setIfInBounds_toArray, World.size_alloc, selR, List.getD_cons_zero, List.getD_cons_succ] at H)
    clear f_da1 f_db1 da1 db1
    go_wp2
    go_ret
    rw [HL.out]
    exact ⟨by first | rfl | (simp; done), H.out.to⟩

end Go.Proofs.Ytnekknemjhlgdaa
