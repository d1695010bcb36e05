/- Texts laid together: XKmA XKmB XKmC XKmD XKmE XKmF XKmG XKmH. -/
import Derived.Test.YtelnhhbefdfeoaaBm
import Derived.Handy
import Derived.Test.YtelnhhbefdfeoaaBl
import Derived.Test.YtelnhhbefdfeoaaSep
import Derived.Test.YtelnhhbefdfeoaaBb
import Derived.Test.YtelnhhbefdfeoaaBq

namespace Go.Proofs.Ytelnhhbefdfeoaa
open Go.RowKit
set_option linter.unusedVariables false
set_option linter.unusedSimpArgs false


set_option maxRecDepth 100000 in
theorem recv_heads (s : String) (g : Nat) (w : World) : (receiverAt 115 (.val (.pointer (some ⟨g, 0, none⟩))) false (some s)).run Try.prog w = (loadVar 117 ⟨g, 0, none⟩).run Try.prog w := by kernel_rfl
set_option maxRecDepth 100000 in
theorem load_heads (g : Nat) {v : Value} {w : World} (h : w.cell? ⟨g, 0, none⟩ = some v) : (loadVar 117 ⟨g, 0, none⟩).run Try.prog w = .ok v w := by
  simp [loadVar, go_sem, h]
set_option maxRecDepth 100000 in
theorem meth_Len0 (n : Nat) (v : Value) (w : World) : (Go.method (n + 1) 115 v "Len").run Try.prog w = ((receiverAt 115 (.val v) false (some ((("Len" : String).splitOn ".").getLastD "Len"))) >>= fun r => pure (59, r)).run Try.prog w := by kernel_rfl
theorem meth_Len (n g : Nat) {v : Value} {w : World} (h : w.cell? ⟨g, 0, none⟩ = some v) : (Go.method (n + 1) 115 (.pointer (some ⟨g, 0, none⟩)) "Len").run Try.prog w = .ok (59, v) w := by
  rw [meth_Len0, Sem.run_bind, recv_heads, load_heads g h]
  rfl
set_option maxRecDepth 100000 in
theorem meth_Less0 (n : Nat) (v : Value) (w : World) : (Go.method (n + 1) 115 v "Less").run Try.prog w = ((receiverAt 115 (.val v) false (some ((("Less" : String).splitOn ".").getLastD "Less"))) >>= fun r => pure (132, r)).run Try.prog w := by kernel_rfl
theorem meth_Less (n g : Nat) {v : Value} {w : World} (h : w.cell? ⟨g, 0, none⟩ = some v) : (Go.method (n + 1) 115 (.pointer (some ⟨g, 0, none⟩)) "Less").run Try.prog w = .ok (132, v) w := by
  rw [meth_Less0, Sem.run_bind, recv_heads, load_heads g h]
  rfl
set_option maxRecDepth 100000 in
theorem meth_Swap0 (n : Nat) (v : Value) (w : World) : (Go.method (n + 1) 115 v "Swap").run Try.prog w = ((receiverAt 115 (.val v) false (some ((("Swap" : String).splitOn ".").getLastD "Swap"))) >>= fun r => pure (135, r)).run Try.prog w := by kernel_rfl
theorem meth_Swap (n g : Nat) {v : Value} {w : World} (h : w.cell? ⟨g, 0, none⟩ = some v) : (Go.method (n + 1) 115 (.pointer (some ⟨g, 0, none⟩)) "Swap").run Try.prog w = .ok (135, v) w := by
  rw [meth_Swap0, Sem.run_bind, recv_heads, load_heads g h]
  rfl
set_option maxRecDepth 100000 in
theorem meth_Push (n : Nat) (v : Value) (w : World) : (Go.method (n + 1) 115 v "Push").run Try.prog w = .ok (134, v) w := by kernel_rfl
set_option maxRecDepth 100000 in
theorem meth_Pop (n : Nat) (v : Value) (w : World) : (Go.method (n + 1) 115 v "Pop").run Try.prog w = .ok (133, v) w := by kernel_rfl

/-- What is left of a run, and which one it is. -/
structure HdR where
  left : Row Fct
  no : Nat
abbrev HdR.cs (h : HdR) : Array Value := #[.slice h.left.A h.left.n h.left.c, .int .i64 h.no]
structure HdR.ok (w : World) (h : HdR) : Prop where
  left : h.left.ok w
  n1 : 1 ≤ h.left.n
  no : h.no ≤ 1000000
theorem HdR.ok.mono {w w' : World} {h : HdR} (k : h.ok w) (hb : Bel w w') : h.ok w' := ⟨k.left.mono hb, k.n1, k.no⟩
theorem hdr_one (h : HdR) : h.cs.all (·.oneCell') = true := by simp [Value.oneCell']
instance instCelHdR : Cel HdR where
  size := 2
  bytes := 32
  cells h := h.cs.toList
  ok w h := h.ok w
  len _ := rfl
  pos := by omega
  mono hb h := h.mono hb
abbrev HdR.con (h : HdR) : Hd := (cons h.left.l, h.no)
theorem rowHdR : RowTy Try.prog 120 2 := ⟨⟨_, Try.underlying120, rfl⟩, by kernel_rfl⟩
theorem E_hdr : ElemInfo Try.prog 117 120 2 32 := ElemInfo.mk' (z := .agg #[.slice none 0 0, .int .i64 0]) Try.underlying117 (by kernel_rfl) rfl (by omega)
/-- The heap of a call's own: its variable and its row. -/
abbrev rHeap (g : Nat) (A : Option Addr) (n c : Nat) (L : List HdR) (rest : List Res) : List Res := rBlk g 117 #[.slice A n c] :: rRow 120 2 (.slice A n c) n (L.flatMap Cel.cells) :: rest
theorem SL.tl {S : Nat → Prop} {w0 w : World} {r : Res} {l : List Res} (h : SL S w0 w (r :: l)) : SL S w0 w l := h.pick l (· + 1) (fun i q hq => by simpa using hq) (fun i j _ _ e => by omega)
theorem own_blk0 {w : World} {e : TypeId} {size n c : Nat} {A : Option Addr} {xs : List Value} (h : w.ownsRow 0 e size (.slice A n c) n xs) (hn : 0 < n) : ∃ g, A = some ⟨g, 0, none⟩ := by
  rcases h.2 with ⟨h0, h1⟩ | ⟨g', cap, cur, hv, _⟩
  · omega
  · injection hv with hv1 _ _
    exact ⟨g', hv1⟩
/-- An element of the row. -/
theorem heads_at {w : World} {A : Option Addr} {n c k : Nat} {L : List HdR} (h : w.ownsRow 0 120 2 (.slice A n c) n (L.flatMap Cel.cells)) (hk : k < n) :
    ∃ b a, A = some ⟨b, 0, none⟩ ∧ b < w.heap.size ∧ L[k]? = some a ∧ w.rangeAt b (k * 2) a.cs.toList ∧ w.cell? ⟨b, k * 2, none⟩ = some (.slice a.left.A a.left.n a.left.c) ∧ w.cell? ⟨b, k * 2 + 1, none⟩ = some (.int .i64 a.no) := by
  obtain ⟨g, rfl⟩ := own_blk0 h (by omega)
  have hl : L.length = n := rd_len (Rd.of_own h)
  have ha := List.getElem?_eq_getElem (show k < L.length by omega)
  obtain ⟨h1, h2⟩ := own_range h ha
  exact ⟨g, _, rfl, h2, ha, h1, h1 0 _ rfl, h1 1 _ rfl⟩
theorem cons_cons {l : List Fct} {f : Fct} (h : l[0]? = some f) : ∃ t, cons l = f.con :: t := by
  cases l with
  | nil => simp at h
  | cons a l => injection h with h; subst h; exact ⟨_, rfl⟩
theorem lessH_of {a b : HdR} {f g : Fct} (hf : a.left.l[0]? = some f) (hg : b.left.l[0]? = some g) : lessH a.con b.con = (decide (cmpK f.ks.l g.ks.l = -1) || (decide (cmpK f.ks.l g.ks.l = 0) && decide (a.no < b.no))) := by
  obtain ⟨s, hs⟩ := cons_cons hf
  obtain ⟨t, ht⟩ := cons_cons hg
  simp only [lessH, HdR.con, hs, ht]
  rfl
set_option maxRecDepth 100000 in
theorem hlen_any (A : Option Addr) (n c : Nat) (w : World) : Calls Try.prog 59 #[.slice A n c] w fun e w' => e = .returned (.int .i64 n) ∧ w = w' := by
  go_enter Try.func59, Try.ntmps59
  go_wp2
  go_ret
  exact ⟨rfl, rfl⟩

set_option maxRecDepth 100000 in
set_option maxHeartbeats 2000000 in
theorem hless_any (A : Option Addr) (n c i k : Nat) (L : List HdR) (a b : HdR) (w : World) (h : w.ownsRow 0 120 2 (.slice A n c) n (L.flatMap Cel.cells)) (hn : n ≤ 1000000) (ha : L[i]? = some a) (hb : L[k]? = some b) (oa : a.ok w) (ob : b.ok w) :
    Calls Try.prog 132 #[.slice A n c, .int .i64 i, .int .i64 k] w fun e w' => e = .returned (.bool (lessH a.con b.con)) ∧ Bel w w' := by
  have hl : L.length = n := rd_len (Rd.of_own h)
  have hi := (List.getElem?_eq_some_iff.1 ha).1
  have hk := (List.getElem?_eq_some_iff.1 hb).1
  obtain ⟨g, a', rfl, hg, ha', _, ca0, ca1⟩ := heads_at h (k := i) (by omega)
  rw [ha] at ha'; injection ha' with ha'; subst ha'
  obtain ⟨g', b', e, _, hb', _, cb0, cb1⟩ := heads_at h (k := k) (by omega)
  rw [hb] at hb'; injection hb' with hb'; subst hb'
  injection e with e; injection e with e; subst e
  obtain ⟨ba, oo, f, hA, hba, hf0, hf, _, hrf, _⟩ := oa.left.fct oa.n1
  obtain ⟨bb, pp, f2, hB, hbb, hf2, hf2k, _, hrf2, _⟩ := ob.left.fct ob.n1
  have HL : Hid (lessH a.con b.con = (decide (cmpK f.ks.l f2.ks.l = -1) || (decide (cmpK f.ks.l f2.ks.l = 0) && decide (a.no < b.no)))) := lessH_of hf0 hf2
  have HC := Lib.hid (fun w' (hb : Bel w w') => fcompare_any f f2 w' ⟨hf.ks.mono hb, hf.ag⟩ ⟨hf2k.ks.mono hb, hf2k.ag⟩)
  have HR1 := Lib.hid hrf
  have HR2 := Lib.hid hrf2
  have H := Lib.hid (SL.start No w)
  have HCR := Lib.hid (cmpK_range f.ks.l f2.ks.l)
  have n1a := oa.n1
  have n1b := ob.n1
  have ga := oa.no
  have gb := ob.no
  obtain ⟨⟨LA, ln, lc, ll⟩, no⟩ := a
  obtain ⟨⟨MA, mn, mc, ml⟩, no2⟩ := b
  simp only at *
  subst hA hB
  clear hf0 hf hrf hf2 hf2k hrf2 h ha hb oa ob
  have i0 : (0 : Int) ≤ i := by omega
  have i1 : (i : Int) < n := by omega
  have k0 : (0 : Int) ≤ k := by omega
  have k1 : (k : Int) < n := by omega
  have l1 : (0 : Int) < ln := by omega
  have m1 : (0 : Int) < mn := by omega
  go_enter Try.func132, Try.ntmps132
  generalize cmpK f.ks.l f2.ks.l = C at *
  go_upto_region 1 with fail
  have f_ca0 := fun u : Over w => Over.cell ca0 u
  have f_cb0 := fun u : Over w => Over.cell cb0 u
  refine wp_region_over (by kernel_rfl) (by kernel_rfl) ?_
  (try simp only [Act.put, List.setIfInBounds_toArray, List.set_cons_zero, List.set_cons_succ])
  repeat (first
    | ((with_reducible show wpQuiet _ _ _ _ (⟨some 14, _, _, _, _, _⟩ :: _) _); refine wpQuiet_load_row (by first | rfl | go_simp) rowFct (.tmp 13) rfl ba (oo) rfl _ rfl hba HR1.out ?_; simp only [Act.put, List.setIfInBounds_toArray, List.set_cons_zero, List.set_cons_succ])
    | ((with_reducible show wpQuiet _ _ _ _ (⟨some 21, _, _, _, _, _⟩ :: _) _); refine wpQuiet_load_row (by first | rfl | go_simp) rowFct (.tmp 20) rfl bb (pp) rfl _ rfl hbb HR2.out ?_; simp only [Act.put, List.setIfInBounds_toArray, List.set_cons_zero, List.set_cons_succ])
    | go_big_quiet_step (((go_at_call 40; rename_i u; exact calls_over (HC.out _ u.bel)))))
  refine wpQuiet_nil ?_
  rintro w5 ⟨⟨_, hw5⟩, rfl⟩
  (try dsimp only)
  replace H := Lib.hid (H.out.bel hw5); (try simp only [List.set_cons_zero, List.set_cons_succ, List.cons_append, List.nil_append, List.eraseIdx_cons_zero, List.eraseIdx_cons_succ, List.setIfInBounds_toArray, World.size_alloc, selR, List.getD_cons_zero, List.getD_cons_succ] at H)
  clear f_ca0 f_cb0 ca0 cb0
  have da1 : w5.cell? ⟨g, i * 2 + 1, none⟩ = some (.int .i64 no) := by rw [World.cell?_of_block (hw5.block g hg)]; exact ca1
  have db1 : w5.cell? ⟨g, k * 2 + 1, none⟩ = some (.int .i64 no2) := by rw [World.cell?_of_block (hw5.block g hg)]; exact cb1
  clear ca1 cb1 hw5
  rcases HCR.out with rfl | rfl | rfl
  · replace HL : Hid (_ = true) := HL
    go_upto_region 2 with fail
    have f_da1 := fun u : Over w5 => Over.cell da1 u
    have f_db1 := fun u : Over w5 => Over.cell db1 u
    refine wp_region_over (by kernel_rfl) (by kernel_rfl) ?_
    (try simp only [Act.put, List.setIfInBounds_toArray, List.set_cons_zero, List.set_cons_succ])
    repeat (go_big_quiet_step (fail))
    refine wpQuiet_nil ?_
    rintro w5 ⟨⟨_, hw5⟩, rfl⟩
    (try dsimp only)
    replace H := Lib.hid (H.out.bel hw5); (try simp only [List.set_cons_zero, List.set_cons_succ, List.cons_append, List.nil_append, List.eraseIdx_cons_zero, List.eraseIdx_cons_succ, List.setIfInBounds_toArray, World.size_alloc, selR, List.getD_cons_zero, List.getD_cons_succ] at H)
    clear f_da1 f_db1 da1 db1
    go_wp2
    go_ret
    rw [HL.out]
    exact ⟨by first | rfl | (simp; done), H.out.to⟩
  · by_cases hq : no < no2
    · replace HL := Lib.hid (HL.out.trans (show _ = true by simp [hq]))
      have q1 : (no : Int) < no2 := by omega
      go_upto_region 2 with fail
      have f_da1 := fun u : Over w5 => Over.cell da1 u
      have f_db1 := fun u : Over w5 => Over.cell db1 u
      refine wp_region_over (by kernel_rfl) (by kernel_rfl) ?_
      (try simp only [Act.put, List.setIfInBounds_toArray, List.set_cons_zero, List.set_cons_succ])
      repeat (go_big_quiet_step (fail))
      refine wpQuiet_nil ?_
      rintro w5 ⟨⟨_, hw5⟩, rfl⟩
      (try dsimp only)
      replace H := Lib.hid (H.out.bel hw5); (try simp only [List.set_cons_zero, List.set_cons_succ, List.cons_append, List.nil_append, List.eraseIdx_cons_zero, List.eraseIdx_cons_succ, List.setIfInBounds_toArray, World.size_alloc, selR, List.getD_cons_zero, List.getD_cons_succ] at H)
      clear f_da1 f_db1 da1 db1
      go_wp2
      go_ret
      rw [HL.out]
      exact ⟨by first | rfl | (simp; done), H.out.to⟩
    · replace HL := Lib.hid (HL.out.trans (show _ = false by simp [hq]))
      have q1 : ¬ (no : Int) < no2 := by omega
      go_upto_region 2 with fail
      have f_da1 := fun u : Over w5 => Over.cell da1 u
      have f_db1 := fun u : Over w5 => Over.cell db1 u
      refine wp_region_over (by kernel_rfl) (by kernel_rfl) ?_
      (try simp only [Act.put, List.setIfInBounds_toArray, List.set_cons_zero, List.set_cons_succ])
      repeat (go_big_quiet_step (fail))
      refine wpQuiet_nil ?_
      rintro w5 ⟨⟨_, hw5⟩, rfl⟩
      (try dsimp only)
      replace H := Lib.hid (H.out.bel hw5); (try simp only [List.set_cons_zero, List.set_cons_succ, List.cons_append, List.nil_append, List.eraseIdx_cons_zero, List.eraseIdx_cons_succ, List.setIfInBounds_toArray, World.size_alloc, selR, List.getD_cons_zero, List.getD_cons_succ] at H)
      clear f_da1 f_db1 da1 db1
      go_wp2
      go_ret
      rw [HL.out]
      exact ⟨by first | rfl | (simp; done), H.out.to⟩
  · replace HL : Hid (_ = false) := HL
    go_upto_region 2 with fail
    have f_da1 := fun u : Over w5 => Over.cell da1 u
    have f_db1 := fun u : Over w5 => Over.cell db1 u
    refine wp_region_over (by kernel_rfl) (by kernel_rfl) ?_
    (try simp only [Act.put, List.setIfInBounds_toArray, List.set_cons_zero, List.set_cons_succ])
    repeat (go_big_quiet_step (fail))
    refine wpQuiet_nil ?_
    rintro w5 ⟨⟨_, hw5⟩, rfl⟩
    (try dsimp only)
    replace H := Lib.hid (H.out.bel hw5); (try simp only [List.set_cons_zero, List.set_cons_succ, List.cons_append, List.nil_append, List.eraseIdx_cons_zero, List.eraseIdx_cons_succ, List.setIfInBounds_toArray, World.size_alloc, selR, List.getD_cons_zero, List.getD_cons_succ] at H)
    clear f_da1 f_db1 da1 db1
    go_wp2
    go_ret
    rw [HL.out]
    exact ⟨by first | rfl | (simp; done), H.out.to⟩

end Go.Proofs.Ytelnhhbefdfeoaa

namespace Go.Proofs.Ytelnhhbefdfeoaa
open Go.RowKit
set_option linter.unusedVariables false
set_option linter.unusedSimpArgs false


section
variable {P : Program} {w : World}
theorem step_loadK {ops : Array Oper} {o : Oper} {a : Act} {K : Act → World → Prop} {Q : Exit → Act → World → Prop} {X : Prop} (hgd : o.guard = none) {ty : TypeId} {n : Nat} (R : RowTy P ty n) (x : Operand) (ho : o.op = .load ty x)
    (b off : Nat) (hx : a.eval x = .pointer (some ⟨b, off, none⟩)) (cs : Array Value) (hr : w.rangeAt b off cs.toList) (hn : cs.size = n)
    (h : K (a.put o.dst (.agg cs)) w) : if Region.wanted o (yielded ops a.tmps) = true then Oper.wp P o a w K Q else X := by
  have hw : Region.wanted o (yielded ops a.tmps) = true := by simp [Region.wanted, hgd]
  rw [if_pos hw]
  obtain ⟨d, hu, hd⟩ := R.hu
  exact wp_load_mid ty x ho b off hx cs.toList d hr hu hd (by rw [R.hi]; simp [hn]) (by simpa using h)
theorem step_store_own {α : Type} [Cel α] {base : Nat} {e : TypeId} {g n c : Nat} {l : List α} {ops : Array Oper} {o : Oper} {a : Act} {K : Act → World → Prop} {Q : Exit → Act → World → Prop} {X : Prop} (hgd : o.guard = none) {ty : TypeId} {size : Nat} (R : RowTy P ty size) (x y : Operand) (ho : o.op = .store ty x y) (hsz : size = Cel.size α)
    (k : Nat) (hx : a.eval x = .pointer (some ⟨g, k * Cel.size α, none⟩)) (h : w.ownsRow base e (Cel.size α) (.slice (some ⟨g, 0, none⟩) n c) n (l.flatMap Cel.cells)) (hk : k < n) (f : α) (cs : Array Value) (hcs : cs.toList = Cel.cells f) (hy : a.eval y = .agg cs) (h1 : cs.all (·.oneCell') = true)
    (hn : ∀ w', w'.ownsRow base e (Cel.size α) (.slice (some ⟨g, 0, none⟩) n c) n ((l.set k f).flatMap Cel.cells) → w.grownBy w' (some g) → K (a.put o.dst undef) w') : if Region.wanted o (yielded ops a.tmps) = true then Oper.wp P o a w K Q else X := by
  have hw : Region.wanted o (yielded ops a.tmps) = true := by simp [Region.wanted, hgd]
  have hss : cs.size = Cel.size α := by have := congrArg List.length hcs; rw [Array.length_toList, Cel.len] at this; exact this
  rw [if_pos hw]
  refine wp_store_mid ty x y ho g (k * Cel.size α) cs hx hy (by rw [hss]; exact own_there h hk) (by rw [R.hi, hss, hsz]) h1 ?_
  rw [hcs]
  exact hn _ (own_setRow h hk f) (setCells_grown w g _ _)
end
set_option maxRecDepth 100000 in
set_option maxHeartbeats 2000000 in
theorem hswap_any (w0 w : World) (g : Nat) (A : Option Addr) (n c i k : Nat) (L : List HdR) (rest : List Res) (x y : HdR) (h : SL No w0 w (rHeap g A n c L rest)) (hn : n ≤ 1000000) (ha : L[i]? = some x) (hb : L[k]? = some y) :
    Calls Try.prog 135 #[.slice A n c, .int .i64 i, .int .i64 k] w fun e w' => e = .returned (.tuple #[]) ∧ SL No w0 w' (rHeap g A n c ((L.set i y).set k x) rest) := by
  have hl : L.length = n := rd_len (Rd.of_own (h.row 1 rfl))
  have hi := (List.getElem?_eq_some_iff.1 ha).1
  have hk := (List.getElem?_eq_some_iff.1 hb).1
  obtain ⟨b, rfl⟩ := own_blk0 (h.row 1 rfl) (by omega)
  have H := Lib.hid h
  clear h
  have i0 : (0 : Int) ≤ i := by omega
  have i1 : (i : Int) < n := by omega
  have k0 : (0 : Int) ≤ k := by omega
  have k1 : (k : Int) < n := by omega
  go_enter Try.func135, Try.ntmps135
  go_upto_region 0 with fail
  refine wp_region_held_drew (S := fun _ => True) (by kernel_rfl) trivial (fun hHeld => ?_)
  replace H := Lib.hid (H.out.drew); (try simp only [List.set_cons_zero, List.set_cons_succ, List.cons_append, List.nil_append, List.eraseIdx_cons_zero, List.eraseIdx_cons_succ, List.setIfInBounds_toArray, World.size_alloc, selR, List.getD_cons_zero, List.getD_cons_succ] at H)
  refine wpAnyH_take (i := 0) (v := ?vq1_0) (get_o0) (by kernel_rfl) (by kernel_rfl) (by kernel_rfl) (by exact fun _ _ _ h => h) (Or.inl ⟨by rfl, ?hyq1_0⟩) (by assumption) ?_
  case hyq1_0 => (intro w hSw; (try dsimp only at hSw); go_simp) <;> with_reducible rfl
  try simp only [Act.put, List.setIfInBounds_toArray, List.set_cons_zero, List.set_cons_succ]
  refine wpAnyH_take (i := 1) (v := ?vq1_1) (get_os (get_o0)) (by kernel_rfl) (by kernel_rfl) (by kernel_rfl) (by exact fun _ _ _ h => h) (Or.inl ⟨by rfl, ?hyq1_1⟩) (by assumption) ?_
  case hyq1_1 => (intro w hSw; (try dsimp only at hSw); go_simp) <;> with_reducible rfl
  try simp only [Act.put, List.setIfInBounds_toArray, List.set_cons_zero, List.set_cons_succ]
  refine wpAnyH_take (i := 2) (v := ?vq1_2) (get_os (get_os (get_o0))) (by kernel_rfl) (by kernel_rfl) (by kernel_rfl) (by exact fun _ _ _ h => h) (Or.inl ⟨by rfl, ?hyq1_2⟩) (by assumption) ?_
  case hyq1_2 => (intro w hSw; (try dsimp only at hSw); go_simp) <;> with_reducible rfl
  try simp only [Act.put, List.setIfInBounds_toArray, List.set_cons_zero, List.set_cons_succ]
  refine wpAnyH_take (i := 3) (v := ?vq1_3) (get_os (get_os (get_os (get_o0)))) (by kernel_rfl) (by kernel_rfl) (by kernel_rfl) (by exact fun _ _ _ h => h) (Or.inl ⟨by rfl, ?hyq1_3⟩) (by assumption) ?_
  case hyq1_3 => (intro w hSw; (try dsimp only at hSw); go_simp) <;> with_reducible rfl
  try simp only [Act.put, List.setIfInBounds_toArray, List.set_cons_zero, List.set_cons_succ]
  refine wpAnyH_take (i := 4) (v := ?vq1_4) (get_os (get_os (get_os (get_os (get_o0))))) (by kernel_rfl) (by kernel_rfl) (by kernel_rfl) (by exact fun _ _ _ h => h) (Or.inl ⟨by rfl, ?hyq1_4⟩) (by assumption) ?_
  case hyq1_4 => (intro w hSw; (try dsimp only at hSw); go_simp) <;> with_reducible rfl
  try simp only [Act.put, List.setIfInBounds_toArray, List.set_cons_zero, List.set_cons_succ]
  refine wpAnyH_take (i := 5) (v := ?vq1_5) (get_os (get_os (get_os (get_os (get_os (get_o0)))))) (by kernel_rfl) (by kernel_rfl) (by kernel_rfl) (by exact fun _ _ _ h => h) (Or.inl ⟨by rfl, ?hyq1_5⟩) (by assumption) ?_
  case hyq1_5 => (intro w hSw; (try dsimp only at hSw); go_simp) <;> with_reducible rfl
  try simp only [Act.put, List.setIfInBounds_toArray, List.set_cons_zero, List.set_cons_succ]
  refine wpAnyH_take (i := 6) (v := ?vq1_6) (get_os (get_os (get_os (get_os (get_os (get_os (get_o0))))))) (by kernel_rfl) (by kernel_rfl) (by kernel_rfl) (by exact fun _ _ _ h => h) (Or.inl ⟨by rfl, ?hyq1_6⟩) (by assumption) ?_
  case hyq1_6 => (intro w hSw; (try dsimp only at hSw); go_simp) <;> with_reducible rfl
  try simp only [Act.put, List.setIfInBounds_toArray, List.set_cons_zero, List.set_cons_succ]
  refine wpAnyH_take (i := 8) (v := ?vq1_8) (get_os (get_os (get_os (get_os (get_os (get_os (get_os (get_os (get_o0))))))))) (by kernel_rfl) (by kernel_rfl) (by kernel_rfl) (by exact fun _ _ _ h => h) (Or.inl ⟨by rfl, ?hyq1_8⟩) (by assumption) ?_
  case hyq1_8 => (intro w hSw; (try dsimp only at hSw); go_simp) <;> with_reducible rfl
  try simp only [Act.put, List.setIfInBounds_toArray, List.set_cons_zero, List.set_cons_succ]
  refine wpAnyH_take (i := 9) (v := ?vq1_9) (get_os (get_os (get_os (get_os (get_os (get_os (get_os (get_os (get_os (get_o0)))))))))) (by kernel_rfl) (by kernel_rfl) (by kernel_rfl) (by exact fun _ _ _ h => h) (Or.inl ⟨by rfl, ?hyq1_9⟩) (by assumption) ?_
  case hyq1_9 => (intro w hSw; (try dsimp only at hSw); go_simp) <;> with_reducible rfl
  try simp only [Act.put, List.setIfInBounds_toArray, List.set_cons_zero, List.set_cons_succ]
  refine wpAnyH_take (i := 10) (v := ?vq1_10) (get_ot (get_o0)) (by kernel_rfl) (by kernel_rfl) (by kernel_rfl) (by exact fun _ _ _ h => h) (Or.inl ⟨by rfl, ?hyq1_10⟩) (by assumption) ?_
  case hyq1_10 => (intro w hSw; (try dsimp only at hSw); go_simp) <;> with_reducible rfl
  try simp only [Act.put, List.setIfInBounds_toArray, List.set_cons_zero, List.set_cons_succ]
  refine wpAnyH_ready (rs := [7, 11]) (by kernel_rfl) (by simp) ?_
  refine (AllReadyH.cons (get_os (get_os (get_os (get_os (get_os (get_os (get_os (get_o0)))))))) (fun KK hKK => ?_) (AllReadyH.cons (get_ot (get_os (get_o0))) (fun KK hKK => ?_) AllReadyH.nil))
  · refine step_loadK rfl rowHdR (.tmp 12) (by first | rfl | go_simp) b (k * 2) (by first | rfl | go_simp) y.cs (own_range (H.out.row 1 rfl) (by assumption)).1 rfl ?_
    refine hKK.out _ _ trivial (fun hHeld => ?_)
    clear hKK KK
    try simp only [Act.put, List.setIfInBounds_toArray, List.set_cons_zero, List.set_cons_succ]
    refine wpAnyH_ready (rs := [11]) (by kernel_rfl) (by simp) ?_
    refine (AllReadyH.cons (get_ot (get_os (get_o0))) (fun KK hKK => ?_) AllReadyH.nil)
    refine step_loadK rfl rowHdR (.tmp 16) (by first | rfl | go_simp) b (i * 2) (by first | rfl | go_simp) x.cs (own_range (H.out.row 1 rfl) (by assumption)).1 rfl ?_
    refine hKK.out _ _ trivial (fun hHeld => ?_)
    clear hKK KK
    try simp only [Act.put, List.setIfInBounds_toArray, List.set_cons_zero, List.set_cons_succ]
    refine wpAnyH_ready (rs := [12]) (by kernel_rfl) (by simp) ?_
    refine (AllReadyH.cons (get_ot (get_os (get_os (get_o0)))) (fun KK hKK => ?_) AllReadyH.nil)
    go_simp
    refine hKK.out _ _ trivial (fun hHeld => ?_)
    clear hKK KK
    try simp only [Act.put, List.setIfInBounds_toArray, List.set_cons_zero, List.set_cons_succ]
    refine wpAnyH_ready (rs := [13]) (by kernel_rfl) (by simp) ?_
    refine (AllReadyH.cons (get_ot (get_os (get_os (get_os (get_o0))))) (fun KK hKK => ?_) AllReadyH.nil)
    refine step_store_own rfl rowHdR (.tmp 18) (.tmp 13) rfl rfl i (by first | rfl | go_simp) (H.out.row 1 rfl) (by omega) y y.cs rfl (by first | rfl | go_simp) (hdr_one _) ?_
    intro wq howq hgq
    replace H := Lib.hid (H.out.setRow 1 rfl hgq howq (.inl rfl)); (try simp only [List.set_cons_zero, List.set_cons_succ, List.cons_append, List.nil_append, List.eraseIdx_cons_zero, List.eraseIdx_cons_succ, List.setIfInBounds_toArray, World.size_alloc, selR, List.getD_cons_zero, List.getD_cons_succ] at H)
    clear howq hgq
    refine hKK.out _ _ trivial (fun hHeld => ?_)
    clear hKK KK
    try simp only [Act.put, List.setIfInBounds_toArray, List.set_cons_zero, List.set_cons_succ]
    refine wpAnyH_ready (rs := [14]) (by kernel_rfl) (by simp) ?_
    refine (AllReadyH.cons (get_ot (get_os (get_os (get_os (get_os (get_o0)))))) (fun KK hKK => ?_) AllReadyH.nil)
    go_simp
    refine hKK.out _ _ trivial (fun hHeld => ?_)
    clear hKK KK
    try simp only [Act.put, List.setIfInBounds_toArray, List.set_cons_zero, List.set_cons_succ]
    refine wpAnyH_ready (rs := [15]) (by kernel_rfl) (by simp) ?_
    refine (AllReadyH.cons (get_ot (get_os (get_os (get_os (get_os (get_os (get_o0))))))) (fun KK hKK => ?_) AllReadyH.nil)
    refine step_store_own rfl rowHdR (.tmp 19) (.tmp 17) rfl rfl k (by first | rfl | go_simp) (H.out.row 1 rfl) (by omega) x x.cs rfl (by first | rfl | go_simp) (hdr_one _) ?_
    intro wq howq hgq
    replace H := Lib.hid (H.out.setRow 1 rfl hgq howq (.inl rfl)); (try simp only [List.set_cons_zero, List.set_cons_succ, List.cons_append, List.nil_append, List.eraseIdx_cons_zero, List.eraseIdx_cons_succ, List.setIfInBounds_toArray, World.size_alloc, selR, List.getD_cons_zero, List.getD_cons_succ] at H)
    clear howq hgq
    refine hKK.out _ _ trivial (fun hHeld => ?_)
    clear hKK KK
    try simp only [Act.put, List.setIfInBounds_toArray, List.set_cons_zero, List.set_cons_succ]
    refine wpAnyH_done (by kernel_rfl) ?_ _
    clear hHeld
    go_wp2
    go_returns
    exact ⟨rfl, H.out⟩
  · refine step_loadK rfl rowHdR (.tmp 16) (by first | rfl | go_simp) b (i * 2) (by first | rfl | go_simp) x.cs (own_range (H.out.row 1 rfl) (by assumption)).1 rfl ?_
    refine hKK.out _ _ trivial (fun hHeld => ?_)
    clear hKK KK
    try simp only [Act.put, List.setIfInBounds_toArray, List.set_cons_zero, List.set_cons_succ]
    refine wpAnyH_ready (rs := [7]) (by kernel_rfl) (by simp) ?_
    refine (AllReadyH.cons (get_os (get_os (get_os (get_os (get_os (get_os (get_os (get_o0)))))))) (fun KK hKK => ?_) AllReadyH.nil)
    refine step_loadK rfl rowHdR (.tmp 12) (by first | rfl | go_simp) b (k * 2) (by first | rfl | go_simp) y.cs (own_range (H.out.row 1 rfl) (by assumption)).1 rfl ?_
    refine hKK.out _ _ trivial (fun hHeld => ?_)
    clear hKK KK
    try simp only [Act.put, List.setIfInBounds_toArray, List.set_cons_zero, List.set_cons_succ]
    refine wpAnyH_ready (rs := [12]) (by kernel_rfl) (by simp) ?_
    refine (AllReadyH.cons (get_ot (get_os (get_os (get_o0)))) (fun KK hKK => ?_) AllReadyH.nil)
    go_simp
    refine hKK.out _ _ trivial (fun hHeld => ?_)
    clear hKK KK
    try simp only [Act.put, List.setIfInBounds_toArray, List.set_cons_zero, List.set_cons_succ]
    refine wpAnyH_ready (rs := [13]) (by kernel_rfl) (by simp) ?_
    refine (AllReadyH.cons (get_ot (get_os (get_os (get_os (get_o0))))) (fun KK hKK => ?_) AllReadyH.nil)
    refine step_store_own rfl rowHdR (.tmp 18) (.tmp 13) rfl rfl i (by first | rfl | go_simp) (H.out.row 1 rfl) (by omega) y y.cs rfl (by first | rfl | go_simp) (hdr_one _) ?_
    intro wq howq hgq
    replace H := Lib.hid (H.out.setRow 1 rfl hgq howq (.inl rfl)); (try simp only [List.set_cons_zero, List.set_cons_succ, List.cons_append, List.nil_append, List.eraseIdx_cons_zero, List.eraseIdx_cons_succ, List.setIfInBounds_toArray, World.size_alloc, selR, List.getD_cons_zero, List.getD_cons_succ] at H)
    clear howq hgq
    refine hKK.out _ _ trivial (fun hHeld => ?_)
    clear hKK KK
    try simp only [Act.put, List.setIfInBounds_toArray, List.set_cons_zero, List.set_cons_succ]
    refine wpAnyH_ready (rs := [14]) (by kernel_rfl) (by simp) ?_
    refine (AllReadyH.cons (get_ot (get_os (get_os (get_os (get_os (get_o0)))))) (fun KK hKK => ?_) AllReadyH.nil)
    go_simp
    refine hKK.out _ _ trivial (fun hHeld => ?_)
    clear hKK KK
    try simp only [Act.put, List.setIfInBounds_toArray, List.set_cons_zero, List.set_cons_succ]
    refine wpAnyH_ready (rs := [15]) (by kernel_rfl) (by simp) ?_
    refine (AllReadyH.cons (get_ot (get_os (get_os (get_os (get_os (get_os (get_o0))))))) (fun KK hKK => ?_) AllReadyH.nil)
    refine step_store_own rfl rowHdR (.tmp 19) (.tmp 17) rfl rfl k (by first | rfl | go_simp) (H.out.row 1 rfl) (by omega) x x.cs rfl (by first | rfl | go_simp) (hdr_one _) ?_
    intro wq howq hgq
    replace H := Lib.hid (H.out.setRow 1 rfl hgq howq (.inl rfl)); (try simp only [List.set_cons_zero, List.set_cons_succ, List.cons_append, List.nil_append, List.eraseIdx_cons_zero, List.eraseIdx_cons_succ, List.setIfInBounds_toArray, World.size_alloc, selR, List.getD_cons_zero, List.getD_cons_succ] at H)
    clear howq hgq
    refine hKK.out _ _ trivial (fun hHeld => ?_)
    clear hKK KK
    try simp only [Act.put, List.setIfInBounds_toArray, List.set_cons_zero, List.set_cons_succ]
    refine wpAnyH_done (by kernel_rfl) ?_ _
    clear hHeld
    go_wp2
    go_returns
    exact ⟨rfl, H.out⟩


set_option maxRecDepth 100000 in
theorem assert_head (v : Value) (w : World) : (Instr.typeAssert (.iface 120 v) 20 120 true).run Try.prog w = .ok (.tuple #[v, .bool true]) w := by kernel_rfl
set_option maxRecDepth 100000 in
set_option maxHeartbeats 2000000 in
theorem hpush_any (w0 w : World) (g : Nat) (A : Option Addr) (n c : Nat) (L : List HdR) (rest : List Res) (h : HdR) (hh : SL No w0 w (rHeap g A n c L rest)) (hn : n ≤ 1000000) :
    Calls Try.prog 134 #[.pointer (some ⟨g, 0, none⟩), .iface 120 (.agg h.cs)] w fun e w' => e = .returned (.tuple #[]) ∧ ∃ (A' : Option Addr) (c' : Nat), SL No w0 w' (rHeap g A' (n + 1) c' (L ++ [h]) rest) := by
  have H := Lib.hid hh
  clear hh
  go_enter Try.func134, Try.ntmps134
  have hta : ∀ w, (Instr.typeAssert (.iface 120 (.agg h.cs)) 20 120 true).run Try.prog w = .ok (.tuple #[.agg h.cs, .bool true]) w := fun w => assert_head _ w
  go_upto_region 1 with ((with_reducible show wpList _ _ _ (⟨_, .store _ (.tmp 4) _, _, _, _, _⟩ :: _) _ _); refine wpList_store_new rfl rowHdR (.tmp 4) (.tmp 9) rfl rfl rfl h.cs rfl rfl (hdr_one _) ?_; replace H := Lib.hid ((H.out.alloc h.cs 120).rot); (try simp only [List.set_cons_zero, List.set_cons_succ, List.cons_append, List.nil_append, List.eraseIdx_cons_zero, List.eraseIdx_cons_succ, List.setIfInBounds_toArray, World.size_alloc, selR, List.getD_cons_zero, List.getD_cons_succ] at H))
  (try simp only [Act.put, List.setIfInBounds_toArray, List.set_cons_zero, List.set_cons_succ])
  generalize w.heap.size = x at *
  generalize World.alloc _ _ = w1 at *
  refine wp_region_held_drew (S := fun _ => True) (by kernel_rfl) trivial (fun hHeld => ?_)
  replace H := Lib.hid (H.out.drew); (try simp only [List.set_cons_zero, List.set_cons_succ, List.cons_append, List.nil_append, List.eraseIdx_cons_zero, List.eraseIdx_cons_succ, List.setIfInBounds_toArray, World.size_alloc, selR, List.getD_cons_zero, List.getD_cons_succ] at H)
  refine wpAnyH_take (i := 0) (v := ?vq2_0) (get_o0) (by kernel_rfl) (by kernel_rfl) (by kernel_rfl) (by exact fun _ _ _ h => h) (Or.inl ⟨by rfl, ?hyq2_0⟩) (by assumption) ?_
  case hyq2_0 => (intro w hSw; (try dsimp only at hSw); go_simp) <;> with_reducible rfl
  try simp only [Act.put, List.setIfInBounds_toArray, List.set_cons_zero, List.set_cons_succ]
  refine wpAnyH_take (i := 1) (v := ?vq2_1) (get_os (get_o0)) (by kernel_rfl) (by kernel_rfl) (by kernel_rfl) (by exact fun _ _ _ h => h) (Or.inl ⟨by rfl, ?hyq2_1⟩) (by assumption) ?_
  case hyq2_1 => (intro w hSw; (try dsimp only at hSw); go_simp) <;> with_reducible rfl
  try simp only [Act.put, List.setIfInBounds_toArray, List.set_cons_zero, List.set_cons_succ]
  refine wpAnyH_take (i := 2) (v := ?vq2_2) (get_os (get_os (get_o0))) (by kernel_rfl) (by kernel_rfl) (by kernel_rfl) (by exact fun _ _ _ h => h) (Or.inl ⟨by rfl, ?hyq2_2⟩) (by assumption) ?_
  case hyq2_2 => (intro w hSw; (try dsimp only at hSw); go_simp) <;> with_reducible rfl
  try simp only [Act.put, List.setIfInBounds_toArray, List.set_cons_zero, List.set_cons_succ]
  refine wpAnyH_ready (rs := [3, 4]) (by kernel_rfl) (by simp) ?_
  refine (AllReadyH.cons (get_os (get_os (get_os (get_o0)))) (fun KK hKK => ?_) (AllReadyH.cons (get_os (get_os (get_os (get_os (get_o0))))) (fun KK hKK => ?_) AllReadyH.nil))
  · have c3 := (H.out.blk 1 rfl).cell 0; simp only [List.getElem?_toArray, List.getElem?_cons_zero, List.getElem?_cons_succ] at c3
    go_simp
    clear c3
    refine hKK.out _ _ trivial (fun hHeld => ?_)
    clear hKK KK
    try simp only [Act.put, List.setIfInBounds_toArray, List.set_cons_zero, List.set_cons_succ]
    refine wpAnyH_ready (rs := [4]) (by kernel_rfl) (by simp) ?_
    refine (AllReadyH.cons (get_os (get_os (get_os (get_os (get_o0))))) (fun KK hKK => ?_) AllReadyH.nil)
    refine step_loadK rfl rowHdR (.tmp 4) (by first | rfl | go_simp) _ 0 (by first | rfl | go_simp) h.cs (H.out.blk 0 rfl).range rfl ?_
    refine hKK.out _ _ trivial (fun hHeld => ?_)
    clear hKK KK
    try simp only [Act.put, List.setIfInBounds_toArray, List.set_cons_zero, List.set_cons_succ]
    refine wpAnyH_ready (rs := [5]) (by kernel_rfl) (by simp) ?_
    refine (AllReadyH.cons (get_os (get_os (get_os (get_os (get_os (get_o0)))))) (fun KK hKK => ?_) AllReadyH.nil)
    refine step_buildSlice1 rfl E_hdr (.tmp 15) rfl (h.cs) (by first | rfl | go_simp) rfl (by omega) ?_
    replace H := Lib.hid ((H.out.alloc (h.cs) 120).rot); (try simp only [List.set_cons_zero, List.set_cons_succ, List.cons_append, List.nil_append, List.eraseIdx_cons_zero, List.eraseIdx_cons_succ, List.setIfInBounds_toArray, World.size_alloc, selR, List.getD_cons_zero, List.getD_cons_succ] at H)
    generalize World.alloc _ _ = w2 at *
    refine hKK.out _ _ trivial (fun hHeld => ?_)
    clear hKK KK
    try simp only [Act.put, List.setIfInBounds_toArray, List.set_cons_zero, List.set_cons_succ]
    refine wpAnyH_ready (rs := [6]) (by kernel_rfl) (by simp) ?_
    refine (AllReadyH.cons (get_os (get_os (get_os (get_os (get_os (get_os (get_o0))))))) (fun KK hKK => ?_) AllReadyH.nil)
    refine step_append0 rfl (.tmp 14) (.tmp 16) _ rfl E_hdr 0 (Nat.zero_le _) _ n _ rfl (H.out.row 3 rfl) _ 1 1 h.cs.toList rfl (reads_of_block (H.out.blk 0 rfl) rfl) (fun u hu => Array.all_eq_true_iff_forall_mem.1 (hdr_one h) u (by simpa using hu)) (by unfold maxLen; omega) (by omega) ?_
    intro vq wq howq hgq hatq
    replace H := Lib.hid (H.out.setRow 3 rfl hgq howq hatq); (try simp only [List.set_cons_zero, List.set_cons_succ, List.cons_append, List.nil_append, List.eraseIdx_cons_zero, List.eraseIdx_cons_succ, List.setIfInBounds_toArray, World.size_alloc, selR, List.getD_cons_zero, List.getD_cons_succ] at H)
    clear howq hgq hatq
    obtain ⟨A2, c2, rfl, _⟩ := own_slice (H.out.row 3 rfl)
    refine hKK.out _ _ trivial (fun hHeld => ?_)
    clear hKK KK
    try simp only [Act.put, List.setIfInBounds_toArray, List.set_cons_zero, List.set_cons_succ]
    refine wpAnyH_ready (rs := [7]) (by kernel_rfl) (by simp) ?_
    refine (AllReadyH.cons (get_os (get_os (get_os (get_os (get_os (get_os (get_os (get_o0)))))))) (fun KK hKK => ?_) AllReadyH.nil)
    go_simp
    refine hKK.out _ _ trivial (fun hHeld => ?_)
    clear hKK KK
    try simp only [Act.put, List.setIfInBounds_toArray, List.set_cons_zero, List.set_cons_succ]
    refine wpAnyH_ready (rs := [8]) (by kernel_rfl) (by simp) ?_
    refine (AllReadyH.cons (get_os (get_os (get_os (get_os (get_os (get_os (get_os (get_os (get_o0))))))))) (fun KK hKK => ?_) AllReadyH.nil)
    have c8 := (H.out.blk 2 rfl).cell 0; simp only [List.getElem?_toArray, List.getElem?_cons_zero, List.getElem?_cons_succ] at c8; have f8 := (H.out.blk 2 rfl).frozen 0
    go_simp
    replace H := Lib.hid (H.out.setCell 2 rfl 0 (.slice A2 (n + 1) c2)); (try simp only [List.set_cons_zero, List.set_cons_succ, List.cons_append, List.nil_append, List.eraseIdx_cons_zero, List.eraseIdx_cons_succ, List.setIfInBounds_toArray, World.size_alloc, selR, List.getD_cons_zero, List.getD_cons_succ] at H)
    clear c8 f8
    refine hKK.out _ _ trivial (fun hHeld => ?_)
    clear hKK KK
    try simp only [Act.put, List.setIfInBounds_toArray, List.set_cons_zero, List.set_cons_succ]
    refine wpAnyH_done (by kernel_rfl) ?_ _
    clear hHeld
    go_wp2
    go_returns
    refine ⟨rfl, A2, c2, ?_⟩
    have hf : L.flatMap Cel.cells ++ h.cs.toList = (L ++ [h]).flatMap Cel.cells := by simp [Cel.cells]
    have H2 := H.out.tl.tl
    rw [hf] at H2
    exact H2
  · refine step_loadK rfl rowHdR (.tmp 4) (by first | rfl | go_simp) _ 0 (by first | rfl | go_simp) h.cs (H.out.blk 0 rfl).range rfl ?_
    refine hKK.out _ _ trivial (fun hHeld => ?_)
    clear hKK KK
    try simp only [Act.put, List.setIfInBounds_toArray, List.set_cons_zero, List.set_cons_succ]
    refine wpAnyH_ready (rs := [3, 5]) (by kernel_rfl) (by simp) ?_
    refine (AllReadyH.cons (get_os (get_os (get_os (get_o0)))) (fun KK hKK => ?_) (AllReadyH.cons (get_os (get_os (get_os (get_os (get_os (get_o0)))))) (fun KK hKK => ?_) AllReadyH.nil))
    · have c3 := (H.out.blk 1 rfl).cell 0; simp only [List.getElem?_toArray, List.getElem?_cons_zero, List.getElem?_cons_succ] at c3
      go_simp
      clear c3
      refine hKK.out _ _ trivial (fun hHeld => ?_)
      clear hKK KK
      try simp only [Act.put, List.setIfInBounds_toArray, List.set_cons_zero, List.set_cons_succ]
      refine wpAnyH_ready (rs := [5]) (by kernel_rfl) (by simp) ?_
      refine (AllReadyH.cons (get_os (get_os (get_os (get_os (get_os (get_o0)))))) (fun KK hKK => ?_) AllReadyH.nil)
      refine step_buildSlice1 rfl E_hdr (.tmp 15) rfl (h.cs) (by first | rfl | go_simp) rfl (by omega) ?_
      replace H := Lib.hid ((H.out.alloc (h.cs) 120).rot); (try simp only [List.set_cons_zero, List.set_cons_succ, List.cons_append, List.nil_append, List.eraseIdx_cons_zero, List.eraseIdx_cons_succ, List.setIfInBounds_toArray, World.size_alloc, selR, List.getD_cons_zero, List.getD_cons_succ] at H)
      generalize World.alloc _ _ = w2 at *
      refine hKK.out _ _ trivial (fun hHeld => ?_)
      clear hKK KK
      try simp only [Act.put, List.setIfInBounds_toArray, List.set_cons_zero, List.set_cons_succ]
      refine wpAnyH_ready (rs := [6]) (by kernel_rfl) (by simp) ?_
      refine (AllReadyH.cons (get_os (get_os (get_os (get_os (get_os (get_os (get_o0))))))) (fun KK hKK => ?_) AllReadyH.nil)
      refine step_append0 rfl (.tmp 14) (.tmp 16) _ rfl E_hdr 0 (Nat.zero_le _) _ n _ rfl (H.out.row 3 rfl) _ 1 1 h.cs.toList rfl (reads_of_block (H.out.blk 0 rfl) rfl) (fun u hu => Array.all_eq_true_iff_forall_mem.1 (hdr_one h) u (by simpa using hu)) (by unfold maxLen; omega) (by omega) ?_
      intro vq wq howq hgq hatq
      replace H := Lib.hid (H.out.setRow 3 rfl hgq howq hatq); (try simp only [List.set_cons_zero, List.set_cons_succ, List.cons_append, List.nil_append, List.eraseIdx_cons_zero, List.eraseIdx_cons_succ, List.setIfInBounds_toArray, World.size_alloc, selR, List.getD_cons_zero, List.getD_cons_succ] at H)
      clear howq hgq hatq
      obtain ⟨A2, c2, rfl, _⟩ := own_slice (H.out.row 3 rfl)
      refine hKK.out _ _ trivial (fun hHeld => ?_)
      clear hKK KK
      try simp only [Act.put, List.setIfInBounds_toArray, List.set_cons_zero, List.set_cons_succ]
      refine wpAnyH_ready (rs := [7]) (by kernel_rfl) (by simp) ?_
      refine (AllReadyH.cons (get_os (get_os (get_os (get_os (get_os (get_os (get_os (get_o0)))))))) (fun KK hKK => ?_) AllReadyH.nil)
      go_simp
      refine hKK.out _ _ trivial (fun hHeld => ?_)
      clear hKK KK
      try simp only [Act.put, List.setIfInBounds_toArray, List.set_cons_zero, List.set_cons_succ]
      refine wpAnyH_ready (rs := [8]) (by kernel_rfl) (by simp) ?_
      refine (AllReadyH.cons (get_os (get_os (get_os (get_os (get_os (get_os (get_os (get_os (get_o0))))))))) (fun KK hKK => ?_) AllReadyH.nil)
      have c8 := (H.out.blk 2 rfl).cell 0; simp only [List.getElem?_toArray, List.getElem?_cons_zero, List.getElem?_cons_succ] at c8; have f8 := (H.out.blk 2 rfl).frozen 0
      go_simp
      replace H := Lib.hid (H.out.setCell 2 rfl 0 (.slice A2 (n + 1) c2)); (try simp only [List.set_cons_zero, List.set_cons_succ, List.cons_append, List.nil_append, List.eraseIdx_cons_zero, List.eraseIdx_cons_succ, List.setIfInBounds_toArray, World.size_alloc, selR, List.getD_cons_zero, List.getD_cons_succ] at H)
      clear c8 f8
      refine hKK.out _ _ trivial (fun hHeld => ?_)
      clear hKK KK
      try simp only [Act.put, List.setIfInBounds_toArray, List.set_cons_zero, List.set_cons_succ]
      refine wpAnyH_done (by kernel_rfl) ?_ _
      clear hHeld
      go_wp2
      go_returns
      refine ⟨rfl, A2, c2, ?_⟩
      have hf : L.flatMap Cel.cells ++ h.cs.toList = (L ++ [h]).flatMap Cel.cells := by simp [Cel.cells]
      have H2 := H.out.tl.tl
      rw [hf] at H2
      exact H2
    · refine step_buildSlice1 rfl E_hdr (.tmp 15) rfl (h.cs) (by first | rfl | go_simp) rfl (by omega) ?_
      replace H := Lib.hid ((H.out.alloc (h.cs) 120).rot); (try simp only [List.set_cons_zero, List.set_cons_succ, List.cons_append, List.nil_append, List.eraseIdx_cons_zero, List.eraseIdx_cons_succ, List.setIfInBounds_toArray, World.size_alloc, selR, List.getD_cons_zero, List.getD_cons_succ] at H)
      generalize World.alloc _ _ = w2 at *
      refine hKK.out _ _ trivial (fun hHeld => ?_)
      clear hKK KK
      try simp only [Act.put, List.setIfInBounds_toArray, List.set_cons_zero, List.set_cons_succ]
      refine wpAnyH_ready (rs := [3]) (by kernel_rfl) (by simp) ?_
      refine (AllReadyH.cons (get_os (get_os (get_os (get_o0)))) (fun KK hKK => ?_) AllReadyH.nil)
      have c3 := (H.out.blk 2 rfl).cell 0; simp only [List.getElem?_toArray, List.getElem?_cons_zero, List.getElem?_cons_succ] at c3
      go_simp
      clear c3
      refine hKK.out _ _ trivial (fun hHeld => ?_)
      clear hKK KK
      try simp only [Act.put, List.setIfInBounds_toArray, List.set_cons_zero, List.set_cons_succ]
      refine wpAnyH_ready (rs := [6]) (by kernel_rfl) (by simp) ?_
      refine (AllReadyH.cons (get_os (get_os (get_os (get_os (get_os (get_os (get_o0))))))) (fun KK hKK => ?_) AllReadyH.nil)
      refine step_append0 rfl (.tmp 14) (.tmp 16) _ rfl E_hdr 0 (Nat.zero_le _) _ n _ rfl (H.out.row 3 rfl) _ 1 1 h.cs.toList rfl (reads_of_block (H.out.blk 0 rfl) rfl) (fun u hu => Array.all_eq_true_iff_forall_mem.1 (hdr_one h) u (by simpa using hu)) (by unfold maxLen; omega) (by omega) ?_
      intro vq wq howq hgq hatq
      replace H := Lib.hid (H.out.setRow 3 rfl hgq howq hatq); (try simp only [List.set_cons_zero, List.set_cons_succ, List.cons_append, List.nil_append, List.eraseIdx_cons_zero, List.eraseIdx_cons_succ, List.setIfInBounds_toArray, World.size_alloc, selR, List.getD_cons_zero, List.getD_cons_succ] at H)
      clear howq hgq hatq
      obtain ⟨A2, c2, rfl, _⟩ := own_slice (H.out.row 3 rfl)
      refine hKK.out _ _ trivial (fun hHeld => ?_)
      clear hKK KK
      try simp only [Act.put, List.setIfInBounds_toArray, List.set_cons_zero, List.set_cons_succ]
      refine wpAnyH_ready (rs := [7]) (by kernel_rfl) (by simp) ?_
      refine (AllReadyH.cons (get_os (get_os (get_os (get_os (get_os (get_os (get_os (get_o0)))))))) (fun KK hKK => ?_) AllReadyH.nil)
      go_simp
      refine hKK.out _ _ trivial (fun hHeld => ?_)
      clear hKK KK
      try simp only [Act.put, List.setIfInBounds_toArray, List.set_cons_zero, List.set_cons_succ]
      refine wpAnyH_ready (rs := [8]) (by kernel_rfl) (by simp) ?_
      refine (AllReadyH.cons (get_os (get_os (get_os (get_os (get_os (get_os (get_os (get_os (get_o0))))))))) (fun KK hKK => ?_) AllReadyH.nil)
      have c8 := (H.out.blk 2 rfl).cell 0; simp only [List.getElem?_toArray, List.getElem?_cons_zero, List.getElem?_cons_succ] at c8; have f8 := (H.out.blk 2 rfl).frozen 0
      go_simp
      replace H := Lib.hid (H.out.setCell 2 rfl 0 (.slice A2 (n + 1) c2)); (try simp only [List.set_cons_zero, List.set_cons_succ, List.cons_append, List.nil_append, List.eraseIdx_cons_zero, List.eraseIdx_cons_succ, List.setIfInBounds_toArray, World.size_alloc, selR, List.getD_cons_zero, List.getD_cons_succ] at H)
      clear c8 f8
      refine hKK.out _ _ trivial (fun hHeld => ?_)
      clear hKK KK
      try simp only [Act.put, List.setIfInBounds_toArray, List.set_cons_zero, List.set_cons_succ]
      refine wpAnyH_done (by kernel_rfl) ?_ _
      clear hHeld
      go_wp2
      go_returns
      refine ⟨rfl, A2, c2, ?_⟩
      have hf : L.flatMap Cel.cells ++ h.cs.toList = (L ++ [h]).flatMap Cel.cells := by simp [Cel.cells]
      have H2 := H.out.tl.tl
      rw [hf] at H2
      exact H2


end Go.Proofs.Ytelnhhbefdfeoaa

namespace Go.Proofs.Ytelnhhbefdfeoaa
open Go.RowKit
set_option linter.unusedVariables false
set_option linter.unusedSimpArgs false


theorem own_take {w : World} {base : Nat} {e : TypeId} {size n c k : Nat} {A : Option Addr} {xs : List Value} (h : w.ownsRow base e size (.slice A n c) n xs) (hk : k ≤ n) : w.ownsRow base e size (.slice A k c) k (xs.take (k * size)) := by
  have hm : k * size ≤ n * size := Nat.mul_le_mul_right _ hk
  refine ⟨by rw [List.length_take, h.1]; omega, ?_⟩
  rcases h.2 with ⟨h0, h1⟩ | ⟨g, cap, cur, hv, hb, hh, hn, hx, hs, ht⟩
  · have hk0 : k = 0 := by omega
    subst hk0
    injection h0 with h2 _ h3
    subst h2 h3
    exact .inl ⟨rfl, rfl⟩
  · injection hv with h2 _ h3
    subst h2 h3
    refine .inr ⟨g, c, cur, rfl, hb, hh, by omega, hx, hs, ?_⟩
    rw [← ht, List.take_take, Nat.min_eq_left hm]
theorem flat_takeL (L : List HdR) (k : Nat) : (L.take k).flatMap Cel.cells = (L.flatMap Cel.cells).take (k * 2) := by
  induction L generalizing k with
  | nil => simp
  | cons a L ih =>
    cases k with
    | zero => simp
    | succ k =>
      have ha : (Cel.cells a).length = 2 := rfl
      rw [List.take_succ_cons, List.flatMap_cons, List.flatMap_cons, ih, show (k + 1) * 2 = (Cel.cells a).length + k * 2 by rw [ha]; omega, List.take_length_add_append]
set_option maxRecDepth 100000 in
set_option maxHeartbeats 2000000 in
theorem hpop_any (w0 w : World) (g : Nat) (A : Option Addr) (m c : Nat) (L : List HdR) (rest : List Res) (h : SL No w0 w (rHeap g A (m + 1) c L rest)) (hn : m ≤ 1000000) :
    Calls Try.prog 133 #[.pointer (some ⟨g, 0, none⟩)] w fun e w' => (∃ v, e = .returned v) ∧ SL No w0 w' (rHeap g A m c (L.take m) rest) := by
  have hc : m + 1 ≤ c := by
    rcases (h.row 1 rfl).2 with ⟨_, h1⟩ | ⟨_, cap, _, hv, _, _, h2, _⟩
    · omega
    · injection hv with _ _ h3; omega
  obtain ⟨b, a, rfl, hb, ha, hrg, _, _⟩ := heads_at (h.row 1 rfl) (k := m) (by omega)
  have HR := Lib.hid hrg
  have H := Lib.hid h
  clear h hrg ha
  have cg := (H.out.blk 0 rfl).cell 0; simp only [List.getElem?_toArray, List.getElem?_cons_zero, List.getElem?_cons_succ] at cg; have fg := (H.out.blk 0 rfl).frozen 0
  have i0 : (0 : Int) ≤ m := by omega
  have i1 : (m : Int) < (m + 1 : Nat) := by omega
  have e1 : ((m + 1 : Nat) : Int) - 1 = m := by omega
  go_enter Try.func133, Try.ntmps133
  go_upto_region 3 with (first | ((with_reducible show wpList _ _ _ (⟨some 13, _, _, _, _, _⟩ :: _) _ _); (refine wpList_load_row_at rfl rowHdR (.tmp 12) rfl b (m * 2) rfl a.cs rfl HR.out ?_)) | ((with_reducible show wpList _ _ _ (⟨_, .store _ (.tmp 4) _, _, _, _, _⟩ :: _) _ _); refine wpList_store_new rfl rowHdR (.tmp 4) (.tmp 13) rfl rfl rfl a.cs rfl rfl (hdr_one _) ?_; replace H := Lib.hid ((H.out.alloc a.cs 120).rot); (try simp only [List.set_cons_zero, List.set_cons_succ, List.cons_append, List.nil_append, List.eraseIdx_cons_zero, List.eraseIdx_cons_succ, List.setIfInBounds_toArray, World.size_alloc, selR, List.getD_cons_zero, List.getD_cons_succ] at H)))
  (try simp only [Act.put, List.setIfInBounds_toArray, List.set_cons_zero, List.set_cons_succ])
  clear cg fg
  generalize w.heap.size = x at *
  generalize World.alloc _ _ = w1 at *
  have cg := (H.out.blk 1 rfl).cell 0; simp only [List.getElem?_toArray, List.getElem?_cons_zero, List.getElem?_cons_succ] at cg; have fg := (H.out.blk 1 rfl).frozen 0
  go_upto_region 4 with fail
  replace H := Lib.hid (H.out.setCell 1 rfl 0 (.slice (some ⟨b, 0, none⟩) m c)); (try simp only [List.set_cons_zero, List.set_cons_succ, List.cons_append, List.nil_append, List.eraseIdx_cons_zero, List.eraseIdx_cons_succ, List.setIfInBounds_toArray, World.size_alloc, selR, List.getD_cons_zero, List.getD_cons_succ] at H)
  clear cg fg
  generalize World.setCell _ _ _ = w2 at *
  have H2 := Lib.hid (H.out.setRow (w' := w2) 2 rfl (e' := 120) (size' := 2) (n' := m) (v' := .slice (some ⟨b, 0, none⟩) m c) (xs' := ((L.take m).flatMap Cel.cells)) (Fr.grown (Fr.refl _ _)) (by rw [flat_takeL]; exact own_take (H.out.row 2 rfl) (by omega)) (.inl rfl))
  clear H
  go_wp2_with ((with_reducible show wpList _ _ _ (⟨some 21, _, _, _, _, _⟩ :: _) _ _); refine wpList_load_blk rfl rowHdR (.tmp 4) rfl _ rfl (H2.out.blk 0 rfl) rfl ?_)
  go_returns
  exact ⟨⟨_, rfl⟩, H2.out.tl⟩

end Go.Proofs.Ytelnhhbefdfeoaa

namespace Go.Proofs.Ytelnhhbefdfeoaa
open Go.RowKit
set_option linter.unusedVariables false
set_option linter.unusedSimpArgs false


theorem map_swap {L : List HdR} {i j : Nat} {a b : HdR} : ((L.set i a).set j b).map HdR.con = swapL (L.map HdR.con) i j b.con a.con := by rw [List.map_set, List.map_set]; rfl
theorem map_get {L : List HdR} {i : Nat} {a : HdR} (h : L[i]? = some a) : (L.map HdR.con)[i]? = some a.con := by rw [List.getElem?_map, h]; rfl
theorem con_ne {L : List HdR} {w : World} (h : ∀ x ∈ L, x.ok w) : ∀ x ∈ L.map HdR.con, x.1 ≠ [] := fun x hx e => by
  obtain ⟨y, hy, rfl⟩ := List.mem_map.1 hx
  have h1 := (h y hy).n1
  have h2 := (h y hy).left.len
  have h3 : (cons y.left.l).length = 0 := by rw [show cons y.left.l = [] from e]; rfl
  rw [cons_len] at h3
  omega
set_option maxRecDepth 100000 in
set_option maxHeartbeats 2000000 in
theorem up_any (w0 w : World) (g : Nat) (A : Option Addr) (n c j0 : Nat) (L0 : List HdR) (rest : List Res) (h : SL No w0 w (rHeap g A n c L0 rest)) (hn : n ≤ 1000000) (hok : ∀ x ∈ L0, x.ok w0) (hj : j0 < n) (hu : UpAt (L0.map HdR.con) j0) :
    Calls Try.prog 81 #[.iface 115 (.pointer (some ⟨g, 0, none⟩)), .int .i64 j0] w fun e w' => e = .returned (.tuple #[]) ∧ ∃ L, L.Perm L0 ∧ Heap (L.map HdR.con) n ∧ SL No w0 w' (rHeap g A n c L rest) := by
  have H := Lib.hid h
  have HOK := Lib.hid hok
  have hl0 : L0.length = n := rd_len (Rd.of_own (h.row 1 rfl))
  have HU := Lib.hid hu
  have HP : Hid (L0.Perm L0) := List.Perm.refl _
  have HL0 := Lib.hid hl0
  clear h hok hu hl0
  go_enter Try.func81, Try.ntmps81
  go_wp2_with fail
  go_loopg [1, 4] j0 (fun gg s1 s4 wr => ∃ (j : Nat) (L : List HdR), gg = j ∧ j < n ∧ s1 = .int .i64 j ∧ Hid (L.Perm L0) ∧ Hid (UpAt (L.map HdR.con) j) ∧ Hid (SL No w0 wr (rHeap g A n c L rest)))
  case atStart => exact ⟨j0, L0, rfl, hj, rfl, HP, HU, H⟩
  case round =>
    clear H HU HP hj
    obtain ⟨j, L, hgk, hj, rfl, HP, HU, H⟩ := hrel
    have Hgk := Lib.hid hgk
    clear hgk
    have HLn : Hid (L.length = n) := rd_len (Rd.of_own (H.out.row 1 rfl))
    by_cases hj0 : j = 0
    · subst hj0
      have HH : Hid (Heap (L.map HdR.con) n) := by have h := up_stop0 HU.out; rw [List.length_map, HLn.out] at h; exact h
      go_wp2_with fail
      go_returns
      exact ⟨rfl, L, HP.out, HH.out, H.out⟩
    · obtain ⟨k, rfl⟩ : ∃ k, j = k + 1 := ⟨j - 1, by omega⟩
      have e1 : ((k + 1 : Nat) : Int) - 1 = k := by omega
      have e2 : (k : Int).tdiv 2 = ((k / 2 : Nat) : Int) := rfl
      have e3 : ¬ ((k / 2 : Nat) : Int) = ((k + 1 : Nat) : Int) := by omega
      have e4 : ((((k / 2 : Nat) : Int)) == ((k + 1 : Nat) : Int)) = false := by simp <;> omega
      obtain ⟨x, hx⟩ : ∃ x, L[k + 1]? = some x := ⟨_, List.getElem?_eq_getElem (by rw [HLn.out]; exact hj)⟩
      obtain ⟨y, hy⟩ : ∃ y, L[k / 2]? = some y := ⟨_, List.getElem?_eq_getElem (by rw [HLn.out]; omega)⟩
      have HX := Lib.hid hx
      have HY := Lib.hid hy
      have HLs := Lib.hid (fun w' (hb : Bel w0 w') (ho : w'.ownsRow 0 120 2 (.slice A n c) n (L.flatMap Cel.cells)) => hless_any A n c (k + 1) (k / 2) L x y w' ho hn hx hy ((HOK.out x (HP.out.mem_iff.1 (List.mem_of_getElem? hx))).mono hb) ((HOK.out y (HP.out.mem_iff.1 (List.mem_of_getElem? hy))).mono hb))
      clear hx hy
      have cm := (H.out.blk 0 rfl).cell 0; simp only [List.getElem?_toArray, List.getElem?_cons_zero, List.getElem?_cons_succ] at cm
      have mm := fun k => meth_Less k g cm
      clear cm
      go_wp2_with fail
      clear mm
      refine (HLs.out _ H.out.to (H.out.row 1 rfl)).mono ?_; rintro e w2 ⟨rfl, hb2⟩
      replace H := Lib.hid (H.out.bel hb2); (try simp only [List.set_cons_zero, List.set_cons_succ, List.cons_append, List.nil_append, List.eraseIdx_cons_zero, List.eraseIdx_cons_succ, List.setIfInBounds_toArray, World.size_alloc, selR, List.getD_cons_zero, List.getD_cons_succ] at H)
      clear hb2 HLs
      cases hL : lessH x.con y.con with
      | false =>
        have HH : Hid (Heap (L.map HdR.con) n) := by have h := up_stop HU.out (map_get HX.out) (map_get HY.out) hL; rw [List.length_map, HLn.out] at h; exact h
        clear hL
        go_wp2_with fail
        go_returns
        exact ⟨rfl, L, HP.out, HH.out, H.out⟩
      | true =>
        have HU2 : Hid (UpAt (((L.set (k / 2) x).set (k + 1) y).map HdR.con) (k / 2)) := by show UpAt _ _; rw [map_swap]; exact up_step (j := k + 1) (by omega) HU.out (con_ne (w := w0) fun z hz => HOK.out z (HP.out.mem_iff.1 hz)) (map_get HX.out) (map_get HY.out) hL
        have HP2 : Hid (((L.set (k / 2) x).set (k + 1) y).Perm L0) := (swap_perm (by omega) HY.out HX.out).trans HP.out
        clear hL HU HP
        have cm := (H.out.blk 0 rfl).cell 0; simp only [List.getElem?_toArray, List.getElem?_cons_zero, List.getElem?_cons_succ] at cm
        have mm := fun k => meth_Swap k g cm
        clear cm
        go_wp2_with fail
        clear mm
        refine (hswap_any w0 _ g A n c (k / 2) (k + 1) L rest y x H.out hn HY.out HX.out).mono ?_; rintro e w3 ⟨rfl, hh3⟩
        replace H := Lib.hid hh3
        clear hh3
        go_wp2_with fail
        go_roundg (k / 2)
        case rel => exact ⟨k / 2, _, rfl, by omega, by go_num, HP2, HU2, H⟩
        case measure => rw [Hgk.out]; omega

end Go.Proofs.Ytelnhhbefdfeoaa

namespace Go.Proofs.Ytelnhhbefdfeoaa
open Go.RowKit
set_option linter.unusedVariables false
set_option linter.unusedSimpArgs false


theorem tget {L : List HdR} {m k : Nat} {x : HdR} (h : L[k]? = some x) (hk : k < m) : ((L.take m).map HdR.con)[k]? = some x.con := map_get (by rw [List.getElem?_take_of_lt hk]; exact h)
theorem tmem {L : List HdR} {m k : Nat} {x : HdR} (h : L[k]? = some x) (hk : k < m) : x ∈ L.take m := List.mem_of_getElem? (by rw [List.getElem?_take_of_lt hk]; exact h)
theorem tne {L : List HdR} {w : World} {m k : Nat} {x : HdR} (h : ∀ z ∈ L.take m, z.ok w) (hx : L[k]? = some x) (hk : k < m) : x.con.1 ≠ [] := con_ne h _ (List.mem_map_of_mem (tmem hx hk))
theorem lessH_self (a : Hd) : lessH a a = false := by
  cases hq : lessH a a with
  | false => rfl
  | true => have := lessH_asymm hq; rw [this] at hq; cases hq
set_option maxRecDepth 100000 in
set_option maxHeartbeats 4000000 in
theorem down_any (w0 w : World) (g : Nat) (A : Option Addr) (n m c i0 : Nat) (L0 : List HdR) (rest : List Res) (h : SL No w0 w (rHeap g A n c L0 rest)) (hn : n ≤ 1000000) (hm : m ≤ n) (hok : ∀ x ∈ L0.take m, x.ok w0) (hi : i0 ≤ m) (hu : DownAt ((L0.take m).map HdR.con) m i0) :
    Calls Try.prog 82 #[.iface 115 (.pointer (some ⟨g, 0, none⟩)), .int .i64 i0, .int .i64 m] w fun e w' => (∃ b, e = .returned (.bool b)) ∧ ∃ L, (L.take m).Perm (L0.take m) ∧ L.drop m = L0.drop m ∧ Heap ((L.take m).map HdR.con) m ∧ SL No w0 w' (rHeap g A n c L rest) := by
  have H := Lib.hid h
  have HOK := Lib.hid hok
  have HU := Lib.hid hu
  have HP : Hid ((L0.take m).Perm (L0.take m)) := List.Perm.refl _
  clear h hok hu
  go_enter Try.func82, Try.ntmps82
  go_wp2_with fail
  go_loopg [7, 8, 9, 10] (m - i0) (fun gg s7 s8 s9 s10 wr => ∃ (i : Nat) (L : List HdR), gg = m - i ∧ i ≤ m ∧ s7 = .int .i64 i ∧ Hid ((L.take m).Perm (L0.take m)) ∧ Hid (L.drop m = L0.drop m) ∧ Hid (∀ x ∈ L.take m, x.ok w0) ∧ Hid (DownAt ((L.take m).map HdR.con) m i) ∧ Hid (SL No w0 wr (rHeap g A n c L rest)))
  case atStart => exact ⟨i0, L0, rfl, hi, rfl, HP, Lib.hid rfl, HOK, HU, H⟩
  case round =>
    clear H HU HP HOK hi
    obtain ⟨i, L, hgk, hi, rfl, HP, HD, HOK, HU, H⟩ := hrel
    have Hgk := Lib.hid hgk
    clear hgk
    have HLn : Hid (L.length = n) := rd_len (Rd.of_own (H.out.row 1 rfl))
    obtain ⟨j1, hj1⟩ : ∃ j1, j1 = 2 * i + 1 := ⟨_, rfl⟩
    have e1 : 2 * (i : Int) + 1 = (j1 : Int) := by omega
    have b1 : j1 ≤ 2000001 := by omega
    have l1 : i < j1 := by omega
    have HJ1 := Lib.hid hj1
    have HPj1 : Hid ((j1 - 1) / 2 = i) := by show _ = _; omega
    clear hj1
    have e1p : (0 : Int) ≤ j1 := by omega
    by_cases hb1 : m ≤ j1
    · have HH : Hid (Heap ((L.take m).map HdR.con) m) := down_stop HU.out (fun k a b h0 hk hp ha hb => by have := HJ1.out; omega)
      go_wp2_with fail
      go_returns
      exact ⟨⟨_, rfl⟩, L, HP.out, HD.out, HH.out, H.out⟩
    · obtain ⟨y, hy⟩ : ∃ y, L[i]? = some y := ⟨_, List.getElem?_eq_getElem (by rw [HLn.out]; omega)⟩
      obtain ⟨x, hx⟩ : ∃ x, L[j1]? = some x := ⟨_, List.getElem?_eq_getElem (by rw [HLn.out]; omega)⟩
      have HY := Lib.hid hy
      have HXj1 := Lib.hid hx
      have HLs := Lib.hid (fun (p q : Nat) (a b : HdR) (ha : L[p]? = some a) (hb : L[q]? = some b) (hp : p < m) (hq : q < m) w' (hb2 : Bel w0 w') (ho : w'.ownsRow 0 120 2 (.slice A n c) n (L.flatMap Cel.cells)) => hless_any A n c p q L a b w' ho hn ha hb ((HOK.out a (tmem ha hp)).mono hb2) ((HOK.out b (tmem hb hq)).mono hb2))
      clear hx hy
      obtain ⟨j2, hj2⟩ : ∃ j2, j2 = j1 + 1 := ⟨_, rfl⟩
      have e2 : (j1 : Int) + 1 = (j2 : Int) := by omega
      have l2 : j1 < j2 := by omega
      have b2 : j2 ≤ 2000002 := by omega
      have HJ2 := Lib.hid hj2
      have HPj2 : Hid ((j2 - 1) / 2 = i) := by show _ = _; have := HJ1.out; omega
      clear hj2
      by_cases hb2 : j2 < m
      · obtain ⟨x2, hx2⟩ : ∃ x, L[j2]? = some x := ⟨_, List.getElem?_eq_getElem (by rw [HLn.out]; omega)⟩
        have HXj2 := Lib.hid hx2
        clear hx2
        have cm := (H.out.blk 0 rfl).cell 0; simp only [List.getElem?_toArray, List.getElem?_cons_zero, List.getElem?_cons_succ] at cm
        have mm := fun k => meth_Less k g cm
        clear cm
        go_wp2_with fail
        clear mm
        refine (HLs.out j2 j1 x2 x HXj2.out HXj1.out (by omega) (by omega) _ H.out.to (H.out.row 1 rfl)).mono ?_; rintro e w2 ⟨rfl, hb2⟩
        replace H := Lib.hid (H.out.bel hb2); (try simp only [List.set_cons_zero, List.set_cons_succ, List.cons_append, List.nil_append, List.eraseIdx_cons_zero, List.eraseIdx_cons_succ, List.setIfInBounds_toArray, World.size_alloc, selR, List.getD_cons_zero, List.getD_cons_succ] at H)
        clear hb2
        cases hq : lessH x2.con x.con with
        | true =>
          have HM : Hid (∀ k c, 0 < k → k < m → (k - 1) / 2 = i → ((L.take m).map HdR.con)[k]? = some c → lessH c x2.con = false) := fun k c h0 hk hp hc => by
            rcases (show k = j1 ∨ k = j2 by have := HJ1.out; have := HJ2.out; omega) with rfl | rfl
            · rw [tget HXj1.out (by omega)] at hc; injection hc with hc; subst hc; exact lessH_asymm hq
            · rw [tget HXj2.out (by omega)] at hc; injection hc with hc; subst hc; exact lessH_self _
          clear hq
          have cm := (H.out.blk 0 rfl).cell 0; simp only [List.getElem?_toArray, List.getElem?_cons_zero, List.getElem?_cons_succ] at cm
          have mm := fun k => meth_Less k g cm
          clear cm
          go_wp2_with fail
          clear mm
          refine (HLs.out j2 i x2 y HXj2.out HY.out (by omega) (by omega) _ H.out.to (H.out.row 1 rfl)).mono ?_; rintro e w2 ⟨rfl, hb2⟩
          replace H := Lib.hid (H.out.bel hb2); (try simp only [List.set_cons_zero, List.set_cons_succ, List.cons_append, List.nil_append, List.eraseIdx_cons_zero, List.eraseIdx_cons_succ, List.setIfInBounds_toArray, World.size_alloc, selR, List.getD_cons_zero, List.getD_cons_succ] at H)
          clear hb2
          cases hL : lessH x2.con y.con with
          | false =>
            have HH : Hid (Heap ((L.take m).map HdR.con) m) := down_stop HU.out (fun k a b h0 hk hp ha hb => by
              rw [tget HY.out (by omega)] at hb
              injection hb with hb; subst hb
              exact lessH_ntrans (tne HOK.out HXj2.out (by omega)) hL (HM.out k a h0 hk hp ha))
            clear hL
            go_wp2_with fail
            go_returns
            exact ⟨⟨_, rfl⟩, L, HP.out, HD.out, HH.out, H.out⟩
          | true =>
            have HT : Hid ((((L.set i x2).set j2 y).take m).map HdR.con = swapL ((L.take m).map HdR.con) i j2 y.con x2.con) := by show _ = _; rw [List.take_set, List.take_set, map_swap]
            have HU2 : Hid (DownAt ((((L.set i x2).set j2 y).take m).map HdR.con) m j2) := by
              show DownAt _ _ _
              rw [HT.out]
              exact down_step (by rw [List.length_map, List.length_take, HLn.out]; omega) (by omega) (by omega) HPj2.out HU.out (con_ne (w := w0) HOK.out) (tget HXj2.out (by omega)) (tget HY.out (by omega)) hL HM.out
            have HP2 : Hid ((((L.set i x2).set j2 y).take m).Perm (L0.take m)) := by
              show List.Perm _ _
              rw [List.take_set, List.take_set]
              exact (swap_perm (by omega) (by rw [List.getElem?_take_of_lt (by omega)]; exact HY.out) (by rw [List.getElem?_take_of_lt (by omega)]; exact HXj2.out)).trans HP.out
            have HD2 : Hid (((L.set i x2).set j2 y).drop m = L0.drop m) := by show _ = _; rw [List.drop_set_of_lt (by omega), List.drop_set_of_lt (by omega), HD.out]
            have HOK2 : Hid (∀ z ∈ ((L.set i x2).set j2 y).take m, z.ok w0) := fun z hz => HOK.out z ((HP.out.mem_iff).2 (HP2.out.mem_iff.1 hz))
            clear hL HT
            have cm := (H.out.blk 0 rfl).cell 0; simp only [List.getElem?_toArray, List.getElem?_cons_zero, List.getElem?_cons_succ] at cm
            have mm := fun k => meth_Swap k g cm
            clear cm
            go_wp2_with fail
            clear mm
            refine (hswap_any w0 _ g A n c i j2 L rest y x2 H.out hn HY.out HXj2.out).mono ?_; rintro e w3 ⟨rfl, hh3⟩
            replace H := Lib.hid hh3
            clear hh3
            go_wp2_with fail
            go_roundg (m - j2)
            case rel => exact ⟨j2, _, rfl, by omega, by go_num, HP2, HD2, HOK2, HU2, H⟩
            case measure => rw [Hgk.out]; omega
        | false =>
          have HM : Hid (∀ k c, 0 < k → k < m → (k - 1) / 2 = i → ((L.take m).map HdR.con)[k]? = some c → lessH c x.con = false) := fun k c h0 hk hp hc => by
            rcases (show k = j1 ∨ k = j2 by have := HJ1.out; have := HJ2.out; omega) with rfl | rfl
            · rw [tget HXj1.out (by omega)] at hc; injection hc with hc; subst hc; exact lessH_self _
            · rw [tget HXj2.out (by omega)] at hc; injection hc with hc; subst hc; exact hq
          clear hq
          have cm := (H.out.blk 0 rfl).cell 0; simp only [List.getElem?_toArray, List.getElem?_cons_zero, List.getElem?_cons_succ] at cm
          have mm := fun k => meth_Less k g cm
          clear cm
          go_wp2_with fail
          clear mm
          refine (HLs.out j1 i x y HXj1.out HY.out (by omega) (by omega) _ H.out.to (H.out.row 1 rfl)).mono ?_; rintro e w2 ⟨rfl, hb2⟩
          replace H := Lib.hid (H.out.bel hb2); (try simp only [List.set_cons_zero, List.set_cons_succ, List.cons_append, List.nil_append, List.eraseIdx_cons_zero, List.eraseIdx_cons_succ, List.setIfInBounds_toArray, World.size_alloc, selR, List.getD_cons_zero, List.getD_cons_succ] at H)
          clear hb2
          cases hL : lessH x.con y.con with
          | false =>
            have HH : Hid (Heap ((L.take m).map HdR.con) m) := down_stop HU.out (fun k a b h0 hk hp ha hb => by
              rw [tget HY.out (by omega)] at hb
              injection hb with hb; subst hb
              exact lessH_ntrans (tne HOK.out HXj1.out (by omega)) hL (HM.out k a h0 hk hp ha))
            clear hL
            go_wp2_with fail
            go_returns
            exact ⟨⟨_, rfl⟩, L, HP.out, HD.out, HH.out, H.out⟩
          | true =>
            have HT : Hid ((((L.set i x).set j1 y).take m).map HdR.con = swapL ((L.take m).map HdR.con) i j1 y.con x.con) := by show _ = _; rw [List.take_set, List.take_set, map_swap]
            have HU2 : Hid (DownAt ((((L.set i x).set j1 y).take m).map HdR.con) m j1) := by
              show DownAt _ _ _
              rw [HT.out]
              exact down_step (by rw [List.length_map, List.length_take, HLn.out]; omega) (by omega) (by omega) HPj1.out HU.out (con_ne (w := w0) HOK.out) (tget HXj1.out (by omega)) (tget HY.out (by omega)) hL HM.out
            have HP2 : Hid ((((L.set i x).set j1 y).take m).Perm (L0.take m)) := by
              show List.Perm _ _
              rw [List.take_set, List.take_set]
              exact (swap_perm (by omega) (by rw [List.getElem?_take_of_lt (by omega)]; exact HY.out) (by rw [List.getElem?_take_of_lt (by omega)]; exact HXj1.out)).trans HP.out
            have HD2 : Hid (((L.set i x).set j1 y).drop m = L0.drop m) := by show _ = _; rw [List.drop_set_of_lt (by omega), List.drop_set_of_lt (by omega), HD.out]
            have HOK2 : Hid (∀ z ∈ ((L.set i x).set j1 y).take m, z.ok w0) := fun z hz => HOK.out z ((HP.out.mem_iff).2 (HP2.out.mem_iff.1 hz))
            clear hL HT
            have cm := (H.out.blk 0 rfl).cell 0; simp only [List.getElem?_toArray, List.getElem?_cons_zero, List.getElem?_cons_succ] at cm
            have mm := fun k => meth_Swap k g cm
            clear cm
            go_wp2_with fail
            clear mm
            refine (hswap_any w0 _ g A n c i j1 L rest y x H.out hn HY.out HXj1.out).mono ?_; rintro e w3 ⟨rfl, hh3⟩
            replace H := Lib.hid hh3
            clear hh3
            go_wp2_with fail
            go_roundg (m - j1)
            case rel => exact ⟨j1, _, rfl, by omega, by go_num, HP2, HD2, HOK2, HU2, H⟩
            case measure => rw [Hgk.out]; omega
      · have HM : Hid (∀ k c, 0 < k → k < m → (k - 1) / 2 = i → ((L.take m).map HdR.con)[k]? = some c → lessH c x.con = false) := fun k c h0 hk hp hc => by
          obtain rfl : k = j1 := by have := HJ1.out; have := HJ2.out; omega
          rw [tget HXj1.out (by omega)] at hc; injection hc with hc; subst hc; exact lessH_self _
        have cm := (H.out.blk 0 rfl).cell 0; simp only [List.getElem?_toArray, List.getElem?_cons_zero, List.getElem?_cons_succ] at cm
        have mm := fun k => meth_Less k g cm
        clear cm
        go_wp2_with fail
        clear mm
        refine (HLs.out j1 i x y HXj1.out HY.out (by omega) (by omega) _ H.out.to (H.out.row 1 rfl)).mono ?_; rintro e w2 ⟨rfl, hb2⟩
        replace H := Lib.hid (H.out.bel hb2); (try simp only [List.set_cons_zero, List.set_cons_succ, List.cons_append, List.nil_append, List.eraseIdx_cons_zero, List.eraseIdx_cons_succ, List.setIfInBounds_toArray, World.size_alloc, selR, List.getD_cons_zero, List.getD_cons_succ] at H)
        clear hb2
        cases hL : lessH x.con y.con with
        | false =>
          have HH : Hid (Heap ((L.take m).map HdR.con) m) := down_stop HU.out (fun k a b h0 hk hp ha hb => by
            rw [tget HY.out (by omega)] at hb
            injection hb with hb; subst hb
            exact lessH_ntrans (tne HOK.out HXj1.out (by omega)) hL (HM.out k a h0 hk hp ha))
          clear hL
          go_wp2_with fail
          go_returns
          exact ⟨⟨_, rfl⟩, L, HP.out, HD.out, HH.out, H.out⟩
        | true =>
          have HT : Hid ((((L.set i x).set j1 y).take m).map HdR.con = swapL ((L.take m).map HdR.con) i j1 y.con x.con) := by show _ = _; rw [List.take_set, List.take_set, map_swap]
          have HU2 : Hid (DownAt ((((L.set i x).set j1 y).take m).map HdR.con) m j1) := by
            show DownAt _ _ _
            rw [HT.out]
            exact down_step (by rw [List.length_map, List.length_take, HLn.out]; omega) (by omega) (by omega) HPj1.out HU.out (con_ne (w := w0) HOK.out) (tget HXj1.out (by omega)) (tget HY.out (by omega)) hL HM.out
          have HP2 : Hid ((((L.set i x).set j1 y).take m).Perm (L0.take m)) := by
            show List.Perm _ _
            rw [List.take_set, List.take_set]
            exact (swap_perm (by omega) (by rw [List.getElem?_take_of_lt (by omega)]; exact HY.out) (by rw [List.getElem?_take_of_lt (by omega)]; exact HXj1.out)).trans HP.out
          have HD2 : Hid (((L.set i x).set j1 y).drop m = L0.drop m) := by show _ = _; rw [List.drop_set_of_lt (by omega), List.drop_set_of_lt (by omega), HD.out]
          have HOK2 : Hid (∀ z ∈ ((L.set i x).set j1 y).take m, z.ok w0) := fun z hz => HOK.out z ((HP.out.mem_iff).2 (HP2.out.mem_iff.1 hz))
          clear hL HT
          have cm := (H.out.blk 0 rfl).cell 0; simp only [List.getElem?_toArray, List.getElem?_cons_zero, List.getElem?_cons_succ] at cm
          have mm := fun k => meth_Swap k g cm
          clear cm
          go_wp2_with fail
          clear mm
          refine (hswap_any w0 _ g A n c i j1 L rest y x H.out hn HY.out HXj1.out).mono ?_; rintro e w3 ⟨rfl, hh3⟩
          replace H := Lib.hid hh3
          clear hh3
          go_wp2_with fail
          go_roundg (m - j1)
          case rel => exact ⟨j1, _, rfl, by omega, by go_num, HP2, HD2, HOK2, HU2, H⟩
          case measure => rw [Hgk.out]; omega

end Go.Proofs.Ytelnhhbefdfeoaa

namespace Go.Proofs.Ytelnhhbefdfeoaa
open Go.RowKit
set_option linter.unusedVariables false
set_option linter.unusedSimpArgs false


set_option maxRecDepth 100000 in
set_option maxHeartbeats 2000000 in
theorem hpPush_any (w0 w : World) (g : Nat) (A : Option Addr) (n c : Nat) (L : List HdR) (rest : List Res) (a : HdR) (h : SL No w0 w (rHeap g A n c L rest)) (hn : n ≤ 999999) (hok : ∀ x ∈ L, x.ok w0) (ha : a.ok w0) (hh : Heap (L.map HdR.con) n) :
    Calls Try.prog 58 #[.iface 115 (.pointer (some ⟨g, 0, none⟩)), .iface 120 (.agg a.cs)] w fun e w' => e = .returned (.tuple #[]) ∧ ∃ (A' : Option Addr) (c' : Nat) (L' : List HdR), L'.Perm (L ++ [a]) ∧ Heap (L'.map HdR.con) (n + 1) ∧ SL No w0 w' (rHeap g A' (n + 1) c' L' rest) := by
  have hl : L.length = n := rd_len (Rd.of_own (h.row 1 rfl))
  have HOK : Hid (∀ x ∈ L ++ [a], x.ok w0) := fun x hx => (List.mem_append.1 hx).elim (hok x) (fun h => by rw [List.mem_singleton] at h; subst h; exact ha)
  have HU : Hid (UpAt ((L ++ [a]).map HdR.con) n) := by
    constructor
    · intro k x y h0 hk hP hx hy
      rw [List.length_map, List.length_append, List.length_singleton] at hk
      rw [List.map_append, List.getElem?_append_left (by rw [List.length_map]; omega)] at hx hy
      exact hh k x y h0 (by omega) (fun h => h) hx hy
    · intro k x y h0 h1 hk hx hy
      have := (List.getElem?_eq_some_iff.1 hx).1
      rw [List.length_map, List.length_append, List.length_singleton] at this
      omega
  have HP := Lib.hid (hpush_any w0 w g A n c L rest a h (by omega))
  clear h hok ha hh hl
  go_enter Try.func58, Try.ntmps58
  have mm := fun k w => meth_Push k (.pointer (some ⟨g, 0, none⟩)) w
  go_wp2_with fail
  clear mm
  refine HP.out.mono ?_; rintro e w2 ⟨rfl, A2, c2, h2⟩
  have H := Lib.hid h2
  clear h2 HP
  have cm := (H.out.blk 0 rfl).cell 0; simp only [List.getElem?_toArray, List.getElem?_cons_zero, List.getElem?_cons_succ] at cm
  have mm := fun k => meth_Len k g cm
  clear cm
  go_wp2_with fail
  clear mm
  refine (hlen_any _ _ _ _).mono ?_; rintro e w3 ⟨rfl, rfl⟩
  have e1 : ((n + 1 : Nat) : Int) - 1 = n := by omega
  go_wp2_with fail
  refine (up_any w0 _ g A2 (n + 1) c2 n (L ++ [a]) rest H.out (by omega) HOK.out (by omega) HU.out).mono ?_; rintro e w4 ⟨rfl, L', hp, hh, hs⟩
  have HR : Hid (∃ (A' : Option Addr) (c' : Nat) (L' : List HdR), L'.Perm (L ++ [a]) ∧ Heap (L'.map HdR.con) (n + 1) ∧ SL No w0 w4 (rHeap g A' (n + 1) c' L' rest)) := ⟨A2, c2, L', hp, hh, hs⟩
  clear hp hh hs
  go_wp2
  go_returns
  exact ⟨rfl, HR.out⟩
set_option maxRecDepth 100000 in
set_option maxHeartbeats 2000000 in
theorem hpFix_any (w0 w : World) (g : Nat) (A : Option Addr) (n c : Nat) (L : List HdR) (rest : List Res) (h : SL No w0 w (rHeap g A n c L rest)) (hn : n ≤ 1000000) (h1 : 1 ≤ n) (hok : ∀ x ∈ L, x.ok w0) (hu : DownAt (L.map HdR.con) n 0) :
    Calls Try.prog 61 #[.iface 115 (.pointer (some ⟨g, 0, none⟩)), .int .i64 0] w fun e w' => e = .returned (.tuple #[]) ∧ ∃ (L' : List HdR), L'.Perm L ∧ Heap (L'.map HdR.con) n ∧ SL No w0 w' (rHeap g A n c L' rest) := by
  have hl : L.length = n := rd_len (Rd.of_own (h.row 1 rfl))
  have ht : L.take n = L := List.take_of_length_le (by omega)
  have HDn := Lib.hid (down_any w0 w g A n n c 0 L rest h hn (Nat.le_refl _) (by rw [ht]; exact hok) (Nat.zero_le _) (by rw [ht]; exact hu))
  have HOK := Lib.hid hok
  have HT := Lib.hid ht
  have H := Lib.hid h
  clear h hok hu hl ht
  go_enter Try.func61, Try.ntmps61
  have cm := (H.out.blk 0 rfl).cell 0; simp only [List.getElem?_toArray, List.getElem?_cons_zero, List.getElem?_cons_succ] at cm
  have mm := fun k => meth_Len k g cm
  clear cm
  go_wp2_with fail
  clear mm
  refine (hlen_any _ _ _ _).mono ?_; rintro e w3 ⟨rfl, rfl⟩
  go_wp2_with fail
  refine HDn.out.mono ?_; rintro e w4 ⟨⟨b, rfl⟩, L', hp, hd, hh, hs⟩
  have hl2 : L'.length = n := rd_len (Rd.of_own (hs.row 1 rfl))
  have ht2 : L'.take n = L' := List.take_of_length_le (by omega)
  rw [ht2, HT.out] at hp
  rw [ht2] at hh
  have HP := Lib.hid hp
  have HH := Lib.hid hh
  have HU : Hid (UpAt (L'.map HdR.con) 0) := ⟨fun k x y h0 hk hP hx hy => by
    rw [List.length_map, hl2] at hk
    exact hh k x y h0 hk (fun h => h) hx hy, fun k x y h0 => by omega⟩
  have HOK2 : Hid (∀ x ∈ L', x.ok w0) := fun x hx => HOK.out x (hp.mem_iff.1 hx)
  clear H HDn hp hd hh hl2 ht2
  have H := Lib.hid hs
  clear hs
  cases b with
  | true =>
    go_wp2
    go_returns
    exact ⟨rfl, L', HP.out, HH.out, H.out⟩
  | false =>
    go_wp2_with fail
    refine (up_any w0 _ g A n c 0 L' rest H.out hn HOK2.out (by omega) HU.out).mono ?_; rintro e w5 ⟨rfl, L2, hp2, hh2, hs2⟩
    have HR : Hid (∃ (L2 : List HdR), L2.Perm L ∧ Heap (L2.map HdR.con) n ∧ SL No w0 w5 (rHeap g A n c L2 rest)) := ⟨L2, hp2.trans HP.out, hh2, hs2⟩
    clear hp2 hh2 hs2
    go_wp2
    go_returns
    exact ⟨rfl, HR.out⟩
set_option maxRecDepth 100000 in
set_option maxHeartbeats 2000000 in
theorem hpPop_any (w0 w : World) (g : Nat) (A : Option Addr) (m c : Nat) (L : List HdR) (rest : List Res) (r : HdR) (h : SL No w0 w (rHeap g A (m + 1) c L rest)) (hn : m ≤ 999999) (hr : L[0]? = some r) (hok : ∀ k x, 0 < k → L[k]? = some x → x.ok w0) (hh : Heap (L.map HdR.con) (m + 1)) :
    Calls Try.prog 60 #[.iface 115 (.pointer (some ⟨g, 0, none⟩))] w fun e w' => (∃ v, e = .returned v) ∧ ∃ (L' : List HdR), (L' ++ [r]).Perm L ∧ Heap (L'.map HdR.con) m ∧ SL No w0 w' (rHeap g A m c L' rest) := by
  have hl : L.length = m + 1 := rd_len (Rd.of_own (h.row 1 rfl))
  obtain ⟨z, hz⟩ : ∃ z, L[m]? = some z := ⟨_, List.getElem?_eq_getElem (by omega)⟩
  obtain ⟨L1, hL1⟩ : ∃ L1, L1 = (L.set 0 z).set m r := ⟨_, rfl⟩
  have get1 : ∀ k, L1[k]? = if k = m then some r else if k = 0 then some z else L[k]? := fun k => by
    rw [hL1]
    by_cases e1 : k = m
    · rw [if_pos e1, e1, List.getElem?_set_self (by simp; omega)]
    · rw [if_neg e1, List.getElem?_set_ne (fun h => e1 h.symm)]
      by_cases e2 : k = 0
      · rw [if_pos e2, e2, List.getElem?_set_self (by omega)]
      · rw [if_neg e2, List.getElem?_set_ne (fun h => e2 h.symm)]
  have hl1 : L1.length = m + 1 := by rw [hL1]; simp [hl]
  have hp1 : L1.Perm L := by
    rw [hL1]
    by_cases e : m = 0
    · subst e
      rw [hr] at hz; injection hz with hz; subst hz
      rw [List.set_set]
      rw [show L.set 0 r = L from List.ext_getElem? fun k => by
        by_cases e : k = 0
        · rw [e, List.getElem?_set_self (by omega), hr]
        · rw [List.getElem?_set_ne (fun h => e h.symm)]]
    · exact swap_perm (by omega) hr hz
  have HOK : Hid (∀ x ∈ L1.take m, x.ok w0) := fun x hx => by
    obtain ⟨k, hk⟩ := List.mem_iff_getElem?.1 hx
    rw [List.getElem?_take] at hk
    split at hk
    · rename_i hkm
      rw [get1, if_neg (by omega)] at hk
      split at hk
      · injection hk with hk; subst hk
        exact hok m z (by omega) hz
      · exact hok k x (by omega) hk
    · cases hk
  have HU : Hid (DownAt ((L1.take m).map HdR.con) m 0) := by
    constructor
    · intro k x y h0 hk hP hx hy
      rw [List.getElem?_map, List.getElem?_take_of_lt hk, get1, if_neg (by omega), if_neg (by omega), ← List.getElem?_map] at hx
      rw [List.getElem?_map, List.getElem?_take_of_lt (by omega), get1, if_neg (by omega), if_neg hP, ← List.getElem?_map] at hy
      exact hh k x y h0 (by omega) (fun h => h) hx hy
    · intro k x y h0; omega
  have HSw := Lib.hid (hswap_any w0 w g A (m + 1) c 0 m L rest r z h (by omega) hr hz)
  rw [← hL1] at HSw
  have HG : Hid (L1 = L1.take m ++ [r]) := by
    show _ = _
    have := List.take_append_drop m L1
    conv => lhs; rw [← this]
    congr 1
    rw [List.drop_eq_getElem_cons (by omega), List.drop_of_length_le (by omega)]
    have hg := get1 m
    rw [if_pos rfl, List.getElem?_eq_getElem (by omega)] at hg
    injection hg with hg
    rw [hg]
  have HP1 := Lib.hid hp1
  have H := Lib.hid h
  clear h hok hh hl hr hz hL1 get1 hl1 hp1
  go_enter Try.func60, Try.ntmps60
  have cm := (H.out.blk 0 rfl).cell 0; simp only [List.getElem?_toArray, List.getElem?_cons_zero, List.getElem?_cons_succ] at cm
  have mm := fun k => meth_Len k g cm
  clear cm
  go_wp2_with fail
  clear mm
  refine (hlen_any _ _ _ _).mono ?_; rintro e w3 ⟨rfl, rfl⟩
  have e1 : ((m + 1 : Nat) : Int) - 1 = m := by omega
  have cm := (H.out.blk 0 rfl).cell 0; simp only [List.getElem?_toArray, List.getElem?_cons_zero, List.getElem?_cons_succ] at cm
  have mm := fun k => meth_Swap k g cm
  clear cm
  go_wp2_with fail
  clear mm
  refine HSw.out.mono ?_; rintro e w4 ⟨rfl, h4⟩
  replace H := Lib.hid h4
  clear h4 HSw
  go_wp2_with fail
  refine (down_any w0 _ g A (m + 1) m c 0 L1 rest H.out (by omega) (by omega) HOK.out (Nat.zero_le _) HU.out).mono ?_; rintro e w5 ⟨⟨b, rfl⟩, L2, hp, hd, hh, hs⟩
  have HP2 := Lib.hid hp
  have HH := Lib.hid hh
  clear H HU HOK hp hd hh
  have H := Lib.hid hs
  clear hs
  have mm := fun k w => meth_Pop k (.pointer (some ⟨g, 0, none⟩)) w
  go_wp2_with fail
  clear mm
  refine (hpop_any w0 _ g A m c L2 rest H.out (by omega)).mono ?_; rintro e w6 ⟨⟨v, rfl⟩, h6⟩
  have HR : Hid (∃ (L' : List HdR), (L' ++ [r]).Perm L ∧ Heap (L'.map HdR.con) m ∧ SL No w0 w6 (rHeap g A m c L' rest)) := ⟨L2.take m, ((HP2.out.append_right [r]).trans (by rw [← HG.out])).trans HP1.out, HH.out, h6⟩
  clear h6 HP2 HH H
  go_wp2
  go_returns
  exact ⟨⟨_, rfl⟩, HR.out⟩

end Go.Proofs.Ytelnhhbefdfeoaa

namespace Go.Proofs.Ytelnhhbefdfeoaa
open Go.RowKit
set_option linter.unusedVariables false
set_option linter.unusedSimpArgs false


section
variable {P : Program}
theorem wpList_build2K {ops : Array Oper} {rest : List Oper} {o : Oper} {a : Act} {w : World} {Q : Exit → Act → World → Prop} (hgd : o.guard = none) {t : TypeId} (x y : Operand) {i j : Nat} (ho : o.op = .build t #[(i, x), (j, y)])
    {vx vy v : Value} (hx : a.eval x = vx) (hy : a.eval y = vy) (hr : ∀ w, (Instr.build t #[(i, vx), (j, vy)]).run P w = .ok v w)
    (h : wpList P ops Q rest (a.put o.dst v) w) : wpList P ops Q (o :: rest) a w := by
  refine wpList_plain hgd fun K hK => ?_
  unfold Oper.wp execOp
  simp only [ho, List.map_toArray, List.map_cons, List.map_nil, hx, hy, Sem.run_bind, hr, Result.andThen_ok, Sem.run_pure]
  exact hK _ _ h
end
theorem own_okK {α : Type} [Cel α] {w : World} {base : Nat} {e : TypeId} {x : Row α} (h : w.ownsRow base e (Cel.size α) (.slice x.A x.n x.c) x.n (x.l.flatMap Cel.cells)) (ha : ∀ a ∈ x.l, Cel.ok w a) (hz : x.n * Cel.bytes α ≤ 140737488351232) : x.ok w := by
  refine ⟨Rd.of_own h, ha, ?_, ?_, hz⟩
  · rcases h.2 with ⟨h0, h1⟩ | ⟨g', cap, cur, hv, hb, hh, hn, hm, hs, hx⟩
    · omega
    · injection hv with _ _ hv; omega
  · rcases h.2 with ⟨h0, h1⟩ | ⟨g', cap, cur, hv, hb, hh, hn, hm, hs, hx⟩
    · injection h0 with _ _ h0; omega
    · injection hv with _ _ hv; omega

theorem fct_onesK (f : Fct) : ∀ u ∈ f.cs.toList, u.oneCell' = true := fun u hu => Array.all_eq_true_iff_forall_mem.1 (fct_one f) u (by simpa using hu)
/-- A row of facts, wherever it lies. -/
abbrev rRun (x : Row Fct) : Res := ⟨fun g => (0 < x.n ∧ x.v.ownBlock = some g) ∨ ∃ f ∈ x.l, 0 < f.ks.n ∧ f.ks.v.ownBlock = some g, fun w => x.ok w⟩
theorem row_keep {α : Type} [Cel α] {w w' : World} {x : Row α} (h : x.ok w) (hs : w.heap.size ≤ w'.heap.size) (ha : ∀ a ∈ x.l, Cel.ok w' a) (hk : ∀ g, 0 < x.n → x.v.ownBlock = some g → w'.heap[g]? = w.heap[g]?) : x.ok w' := by
  refine ⟨⟨h.rd.1, fun hn => ?_⟩, ha, h.le, h.cap, h.reach⟩
  obtain ⟨ad, e, hb, hc⟩ := h.rd.2 hn
  refine ⟨ad, e, by omega, fun j u hu => ?_⟩
  rw [← hc j u hu]
  refine World.cell?_of_block ?_
  rw [block_of_add]
  exact hk _ hn (by show Value.ownBlock (.slice x.A x.n x.c) = _; rw [e]; rfl)
theorem row_lt {α : Type} [Cel α] {w : World} {x : Row α} (h : x.ok w) {g : Nat} (hn : 0 < x.n) (hg : x.v.ownBlock = some g) : g < w.heap.size := by
  obtain ⟨ad, e, hb, _⟩ := h.rd.2 hn
  have hg : Value.ownBlock (.slice x.A x.n x.c) = some g := hg
  rw [e] at hg
  injection hg with hg
  omega
theorem holds_run {x : Row Fct} {w : World} (h : x.ok w) : (rRun x).holds w := by
  refine ⟨?_, fun w' hs hk => row_keep h hs (fun f hf => ⟨row_keep (h.all f hf).ks hs (h.all f hf).ks.all fun g hn hg => hk g (.inr ⟨f, hf, hn, hg⟩), (h.all f hf).ag⟩) fun g hn hg => hk g (.inl ⟨hn, hg⟩)⟩
  rintro g (⟨hn, hg⟩ | ⟨f, hf, hn, hg⟩)
  · exact row_lt h hn hg
  · exact row_lt (h.all f hf).ks hn hg
/-- Facts gathered are a row in new memory. -/
theorem Gath.run {w0 w : World} {v : Value} {fs : List Fct} (h : Gath w0 w v fs) (hn : fs.length ≤ 1000000) : ∃ X : Row Fct, v = X.v ∧ X.l = fs ∧ X.n = fs.length ∧ X.ok w ∧ NewR w0 w (rRun X) := by
  obtain ⟨A, n, c, rfl, hnl⟩ : ∃ A n c, v = .slice A n c ∧ n = fs.length := by
    rcases h.own.2 with ⟨hv, h0⟩ | ⟨g, cap, cur, hv, _⟩
    · exact ⟨_, _, _, hv, h0.symm⟩
    · exact ⟨_, _, _, hv, rfl⟩
  subst hnl
  have hok : Row.ok w (⟨A, fs.length, c, fs⟩ : Row Fct) := own_okK (x := ⟨A, fs.length, c, fs⟩) h.own h.ok (by show fs.length * 104 ≤ _; omega)
  refine ⟨⟨A, fs.length, c, fs⟩, rfl, rfl, rfl, hok, holds_run hok, ?_⟩
  rintro g (⟨hn, hg⟩ | ⟨f, hf, hn, hg⟩)
  · exact own_ge h.own hg
  · obtain ⟨ad, e, _⟩ := (hok.all f hf).ks.rd.2 hn
    have hg : Value.ownBlock (.slice f.ks.A f.ks.n f.ks.c) = some g := hg
    rw [e] at hg
    injection hg with hg
    have := h.new f hf hn ad e
    omega
/-- A row without its first fact. -/
def fctTail (x : Row Fct) : Row Fct := ⟨if x.c = 1 then x.A else x.A.map (·.add 11), x.n - 1, x.c - 1, x.l.drop 1⟩
theorem tail_ok {w : World} {x : Row Fct} (h : x.ok w) (h1 : 1 ≤ x.n) : (fctTail x).ok w := by
  have hl := h.len
  have hle := h.le
  have hcap := h.cap
  have hre := h.reach
  refine ⟨⟨?_, fun hn => ?_⟩, fun f hf => h.all f (List.mem_of_mem_drop hf), by show x.n - 1 ≤ x.c - 1; omega, by show x.c - 1 ≤ _; omega, by show (x.n - 1) * 104 ≤ _; have : x.n * 104 ≤ 140737488351232 := hre; omega⟩
  · rw [cells_len]
    show (x.l.drop 1).length * 11 = (x.n - 1) * 11
    rw [List.length_drop, hl]
  · have hn : 0 < x.n - 1 := hn
    obtain ⟨ad, e, hb, hc⟩ := h.rd.2 (by omega)
    refine ⟨ad.add 11, by show (if x.c = 1 then x.A else x.A.map (·.add 11)) = _; rw [if_neg (by omega), e]; rfl, by rw [block_of_add]; exact hb, fun j u hu => ?_⟩
    have hu' : (x.l.flatMap Cel.cells)[11 + j]? = some u := by
      have hx : x.l = x.l.take 1 ++ x.l.drop 1 := (List.take_append_drop 1 x.l).symm
      have ht : ((x.l.take 1).flatMap Cel.cells).length = 11 := by rw [cells_len, List.length_take, hl]; show min 1 x.n * 11 = 11; rw [Nat.min_eq_left h1]
      rw [hx, List.flatMap_append, List.getElem?_append_right (by rw [ht]; omega), ht, Nat.add_sub_cancel_left]
      exact hu
    have := hc (11 + j) u hu'
    rw [← this]
    congr 1
    unfold Addr.add
    by_cases h0 : j = 0
    · subst h0; simp
    · simp [h0, Nat.add_assoc]
theorem u_fcts : Try.prog.underlying 30 = some (.slice (Try.prog.elem 30)) := by kernel_rfl
theorem slice_tail (x : Row Fct) (h1 : 1 ≤ x.n) (w : World) : (Instr.sliceAt 30 (.slice x.A x.n x.c) (some (.int .i64 1)) none none).run Try.prog w = .ok (.slice (fctTail x).A (fctTail x).n (fctTail x).c) w := by
  have hz : ∀ w, (sizeOf (Try.prog.elem 30)).run Try.prog w = .ok 11 w := fun _ => by kernel_rfl
  rw [run_sliceAt_slice (h := u_fcts), run_slice_l (ht := u_fcts) (h0 := by omega) (h1 := by omega), hz]
  simp [sliced, fctTail]
theorem cons_head {l : List Fct} {f : Fct} (h : l[0]? = some f) : cons l = f.con :: cons (l.drop 1) := by
  cases l with
  | nil => simp at h
  | cons a l => injection h with h; subst h; rfl
/-- A cell of an own row turned. -/
theorem own_setCellG {w : World} {base : Nat} {e : TypeId} {size g n c o : Nat} {xs : List Value} (h : w.ownsRow base e size (.slice (some ⟨g, 0, none⟩) n c) n xs) (ho : o < n * size) (u : Value) : (w.setCell ⟨g, o, none⟩ u).ownsRow base e size (.slice (some ⟨g, 0, none⟩) n c) n (xs.set o u) := by
  refine ⟨by rw [List.length_set]; exact h.1, ?_⟩
  rcases h.2 with ⟨h0, h1⟩ | ⟨g', cap, cur, hv, hb, hh, hn, hm, hs, hx⟩
  · cases h0
  · injection hv with hv1 _ hv2
    injection hv1 with hv1
    injection hv1 with hv1 _ _
    subst hv1 hv2
    refine .inr ⟨g, c, cur.setIfInBounds o u, rfl, hb, Blk.set_ (t := e) (cs := cur) hh o u, hn, hm, by simpa using hs, ?_⟩
    rw [← hx, Array.toList_setIfInBounds, List.take_set]
theorem own_froz {w : World} {base : Nat} {e : TypeId} {size g n c o : Nat} {xs : List Value} (h : w.ownsRow base e size (.slice (some ⟨g, 0, none⟩) n c) n xs) (ho : o < n * size) : w.frozen? ⟨g, o, none⟩ = false := by
  rcases h.2 with ⟨h0, h1⟩ | ⟨g', cap, cur, hv, hb, hh, hn, hm, hs, hx⟩
  · cases h0
  · injection hv with hv1 _ hv2
    injection hv1 with hv1
    injection hv1 with hv1 _ _
    subst hv1 hv2
    have hb2 : Blk w g e cur := hh
    exact hb2.frozen o
theorem heap_root {L : List HdR} {r r' : HdR} {m : Nat} (h0 : L[0]? = some r) (hh : Heap (L.map HdR.con) m) : DownAt ((L.set 0 r').map HdR.con) m 0 ∧ (r'.con.1 = [] → Heap ((L.set 0 r').map HdR.con) m) := by
  have g : ∀ k, 0 < k → ((L.set 0 r').map HdR.con)[k]? = (L.map HdR.con)[k]? := fun k hk => by rw [List.getElem?_map, List.getElem?_map, List.getElem?_set_ne (by omega)]
  refine ⟨⟨fun k a b h0 hk hP ha hb => ?_, fun k a b h => by omega⟩, fun he k a b hk0 hk _ ha hb => ?_⟩
  · rw [g _ h0] at ha
    rw [g _ (by omega)] at hb
    exact hh k a b h0 hk (fun h => h) ha hb
  · by_cases hp : (k - 1) / 2 = 0
    · rw [hp, List.getElem?_map, List.getElem?_set_self (List.getElem?_eq_some_iff.1 h0).1] at hb
      injection hb with hb; subst hb
      show lessH a r'.con = false
      unfold lessH
      rw [he]
      cases a.1 <;> rfl
    · rw [g _ hk0] at ha
      rw [g _ (by omega)] at hb
      exact hh k a b hk0 hk (fun h => h) ha hb
theorem heads_snoc {R : List (List Con)} {k : Nat} {l : List Con} (h : R[k]? = some l) : headsF 0 (R.take (k + 1)) = headsF 0 (R.take k) ++ (if l = [] then [] else [(l, k)]) := by
  have hk := (List.getElem?_eq_some_iff.1 h).1
  rw [List.take_add_one, h, Option.toList_some, headsF_app, List.length_take, Nat.min_eq_left (by omega), Nat.zero_add]
  rfl
theorem own_empty (w : World) (e : TypeId) (size : Nat) : (w.alloc (.cells #[] e)).ownsRow w.heap.size e size (.slice (some ⟨w.heap.size, 0, none⟩) 0 0) 0 [] :=
  ⟨by simp, .inr ⟨w.heap.size, 0, #[], rfl, Nat.le_refl _, Blk.new w e #[], Nat.le_refl _, by unfold maxLen; omega, by simp, by simp⟩⟩
theorem own_madeK (w : World) (t : TypeId) (cs : Array Value) (size : Nat) (hs : cs.size = size) : (w.alloc (.cells cs t)).ownsRow w.heap.size t size (.slice (some ⟨w.heap.size, 0, none⟩) 1 1) 1 cs.toList :=
  ⟨by simp [hs], .inr ⟨w.heap.size, 1, cs, rfl, Nat.le_refl _, heap_alloc_new w _, Nat.le_refl _, by unfold maxLen; omega, by omega, by rw [List.take_of_length_le (by simp [hs])]⟩⟩
theorem wpList_sliceK {P : Program} {ops : Array Oper} {rest : List Oper} {o : Oper} {a : Act} {w : World} {Q : Exit → Act → World → Prop} (hgd : o.guard = none) {t : TypeId} (x : Operand) (lo hi : Option Operand) (ho : o.op = .slice t x lo hi none) {v : Value}
    (hr : ∀ w, (Instr.sliceAt t (a.eval x) (lo.map a.eval) (hi.map a.eval) none).run P w = .ok v w) (h : wpList P ops Q rest (a.put o.dst v) w) : wpList P ops Q (o :: rest) a w := by
  refine wpList_plain hgd fun K hK => ?_
  unfold Oper.wp execOp
  simp only [ho, Option.map_none, Sem.run_bind, hr, Result.andThen_ok, Sem.run_pure]
  exact hK _ _ h
theorem set_head {L : List HdR} {A A' : Option Addr} {n c n' c' no : Nat} {l l' : List Fct} (h : L[0]? = some ⟨⟨A, n, c, l⟩, no⟩) : (L.flatMap Cel.cells).set 0 (.slice A' n' c') = (L.set 0 ⟨⟨A', n', c', l'⟩, no⟩).flatMap Cel.cells := by
  cases L with
  | nil => simp at h
  | cons a L => injection h with h; subst h; rfl
/-- How kmerge.Merge ends. -/
def RunPost (l : List Con) (w : World) (e : Ending) (w' : World) : Prop := ∃ v fs, e = .returned v ∧ Gath w w' v fs ∧ cons fs = l
theorem own_baseK {w : World} {base base' : Nat} {e : TypeId} {size n : Nat} {v : Value} {xs : List Value} (h : w.ownsRow base e size v n xs) (hb : base' ≤ base) : w.ownsRow base' e size v n xs := by
  refine ⟨h.1, ?_⟩
  rcases h.2 with h0 | ⟨g, cap, cur, hv, hg, hr⟩
  · exact .inl h0
  · exact .inr ⟨g, cap, cur, hv, Nat.le_trans hb hg, hr⟩
theorem Gath.from_ {w w1 w2 : World} {v : Value} {fs : List Fct} (hb : Bel w w1) (h : Gath w1 w2 v fs) : Gath w w2 v fs := ⟨hb.trans h.bel, own_baseK h.own hb.size, h.ok, h.away, fun f hf hn ad e => Nat.le_trans hb.size (h.new f hf hn ad e)⟩
abbrev runsC (x : List (Row Fct)) : List (List Con) := x.map fun r => cons r.l
theorem flat_len_le {R : List (List Con)} {k : Nat} {l : List Con} (h : R[k]? = some l) : l.length ≤ R.flatten.length := by
  have := List.mem_of_getElem? h
  obtain ⟨a, b, rfl⟩ := List.append_of_mem this
  rw [List.flatten_append, List.flatten_cons, List.length_append, List.length_append]
  omega

end Go.Proofs.Ytelnhhbefdfeoaa

namespace Go.Proofs.Ytelnhhbefdfeoaa
open Go.RowKit
set_option linter.unusedVariables false
set_option linter.unusedSimpArgs false


set_option maxRecDepth 100000 in
set_option maxHeartbeats 8000000 in
theorem merge_any (w : World) (x : Row (Row Fct)) (hx : x.ok w) (hn : x.n ≤ 1000) (ht : (runsC x.l).flatten.length ≤ 100000) (hs : ∀ r ∈ runsC x.l, Srt r) :
    Calls Try.prog 39 #[.slice x.A x.n x.c] w (RunPost (sortC (runsC x.l).flatten) w) := by
  have HX := Lib.hid hx
  have hlen : Hid (x.l.length = x.n) := hx.len
  obtain ⟨A0, N, c0, X⟩ := x
  simp only at *
  obtain ⟨R, hR⟩ : ∃ R, R = runsC X := ⟨_, rfl⟩
  have HRl : Hid (R.length = N) := by show _ = _; rw [hR, List.length_map]; exact hlen.out
  have HRg : Hid (∀ (k : Nat) (y : Row Fct), X[k]? = some y → R[k]? = some (cons y.l)) := fun k y h => by rw [hR, List.getElem?_map, h]; rfl
  rw [← hR] at ht hs ⊢
  have HS0 := Lib.hid hs
  have HT := Lib.hid ht
  clear hR hx ht hs
  go_enter Try.func39, Try.ntmps39
  go_upto_region 2 with fail
  have H := Lib.hid ((((SL.start No w).addRow ((Bel.refl _).alloc _) (own_empty w 120 2)).alloc #[.slice (some ⟨w.heap.size, 0, none⟩) 0 0] 117).rot)
  (try simp only [List.set_cons_zero, List.set_cons_succ, List.cons_append, List.nil_append, List.eraseIdx_cons_zero, List.eraseIdx_cons_succ, List.setIfInBounds_toArray, World.size_alloc, selR, List.getD_cons_zero, List.getD_cons_succ] at H)
  generalize w.heap.size + 1 = g at *
  generalize World.alloc (World.alloc _ _) _ = w1 at *
  generalize (some (⟨w.heap.size, 0, none⟩ : Addr)) = A at *
  have HP : Hid ((List.map HdR.con ([] : List HdR)).Perm (headsF 0 (R.take 0))) := by rw [List.take_zero]; exact List.Perm.nil
  have HH : Hid (Heap (List.map HdR.con ([] : List HdR)) 0) := fun k a b h0 hk => by omega
  have HOK : Hid (∀ h ∈ ([] : List HdR), h.ok w) := fun h hh => by cases hh
  replace H : Hid (SL No w w1 (rHeap g A 0 0 [] [])) := H
  go_wp2_with fail
  go_loopg [12, 4, 5] N (fun gg s12 s4 s5 wr => ∃ (k m c : Nat) (A : Option Addr) (L : List HdR), gg = N - k ∧ k ≤ N ∧ m ≤ k ∧ s12 = .int .i64 k ∧ Hid ((L.map HdR.con).Perm (headsF 0 (R.take k))) ∧ Hid (Heap (L.map HdR.con) m) ∧ Hid (∀ h ∈ L, h.ok w) ∧ Hid (SL No w wr (rHeap g A m c L [])))
  case atStart => exact ⟨0, 0, 0, A, [], rfl, by omega, by omega, rfl, HP, HH, HOK, H⟩
  case round =>
    clear H HP HH HOK
    obtain ⟨k, m, c, A, L, hgk, hk, hmk, rfl, HP, HH, HOK, H⟩ := hrel
    have Hgk := Lib.hid hgk
    clear hgk
    by_cases hlt : k < N
    · obtain ⟨bb, oo, y, hA, hyk, q1⟩ := rd_cell rfl (HX.out.mono H.out.to).rd (k := k) hlt
      simp only at hA
      subst hA
      have q1 := q1 _ rfl
      have hyok : y.ok w := HX.out.all y (List.mem_of_getElem? hyk)
      have HRk := Lib.hid (HRg.out k y hyk)
      have hyl : (cons y.l).length = y.n := by rw [cons_len]; exact hyok.len
      have i0 : (0 : Int) ≤ k := by omega
      have i1 : (k : Int) < N := by omega
      clear hyk
      obtain ⟨YA, yn, yc, yl⟩ := y
      simp only [Row.v] at *
      by_cases hy0 : 0 < yn
      · have d1 : decide ((0 : Int) < yn) = true := by simp; omega
        have HYok := Lib.hid hyok
        have HPn : Hid (headsF 0 (R.take (k + 1)) = headsF 0 (R.take k) ++ [(cons yl, k)]) := by show _ = _; rw [heads_snoc HRk.out, if_neg (fun e => by rw [e] at hyl; simp at hyl; omega)]
        have hbd : ∀ w : World, (Instr.build 120 #[(0, .slice YA yn yc), (1, .int .i64 k)]).run Try.prog w = .ok (.agg #[.slice YA yn yc, .int .i64 k]) w := fun _ => by kernel_rfl
        clear hyl hyok
        go_wp2_with ((with_reducible show wpList _ _ _ (⟨some 24, _, _, _, _, _⟩ :: _) _ _); refine wpList_build2K rfl (.tmp 22) (.tmp 23) rfl rfl rfl hbd ?_)
        refine (hpPush_any w _ g A m c L [] ⟨⟨YA, yn, yc, yl⟩, k⟩ H.out (by omega) HOK.out ⟨HYok.out, hy0, by show k ≤ _; omega⟩ HH.out).mono ?_; rintro e w3 ⟨rfl, A2, c2, L2, hp, hh, hs3⟩
        have HP2 : Hid ((L2.map HdR.con).Perm (headsF 0 (R.take (k + 1)))) := by
          show List.Perm _ _
          rw [HPn.out]
          refine (hp.map HdR.con).trans ?_
          rw [List.map_append]
          exact HP.out.append_right _
        have HOK2 : Hid (∀ h ∈ L2, h.ok w) := fun h hm => by
          rcases List.mem_append.1 (hp.mem_iff.1 hm) with h1 | h1
          · exact HOK.out h h1
          · rw [List.mem_singleton] at h1; subst h1; exact ⟨HYok.out, hy0, by show k ≤ _; omega⟩
        have HH2 := Lib.hid hh
        clear HP HH HOK HPn hp hh H
        have H := Lib.hid hs3
        clear hs3 hbd d1 q1
        go_wp2_with fail
        go_roundg (N - (k + 1))
        case rel => exact ⟨k + 1, m + 1, c2, A2, L2, rfl, by omega, by omega, by go_num, HP2, HH2, HOK2, H⟩
        case measure => rw [Hgk.out]; omega
      · have d1 : decide ((0 : Int) < yn) = false := by simp; omega
        have HP2 : Hid ((L.map HdR.con).Perm (headsF 0 (R.take (k + 1)))) := by
          show List.Perm _ _
          rw [heads_snoc HRk.out, if_pos (List.eq_nil_of_length_eq_zero (by rw [hyl]; omega)), List.append_nil]
          exact HP.out
        clear HP hyl hyok
        go_wp2_with fail
        clear q1 d1
        go_roundg (N - (k + 1))
        case rel => exact ⟨k + 1, m, c, A, L, rfl, by omega, by omega, by go_num, HP2, HH, HOK, H⟩
        case measure => rw [Hgk.out]; omega
    · obtain rfl : k = N := by omega
      have HP0 : Hid ((L.map HdR.con).Perm (headsF 0 R)) := by have h := HP.out; rw [List.take_of_length_le (by rw [HRl.out]; exact Nat.le_refl _)] at h; exact h
      replace H : Hid (SL No w wr [rBlk g 117 #[.slice A m c], rRow 120 2 (.slice A m c) m (L.flatMap Cel.cells), rRow 84 11 (.slice none 0 0) 0 []]) := Lib.hid (H.out.addNil 84 11)
      have HCO : Hid (cons [] ++ sortC R.flatten = sortC R.flatten) := rfl
      have HFO : Hid (∀ f ∈ ([] : List Fct), f.ok w) := fun f hf => by cases hf
      clear HP
      go_wp2_with fail
      clear hlt
      go_loopg [6, 7] R.flatten.length (fun gg s6 s7 wr => ∃ (m c : Nat) (A : Option Addr) (L : List HdR) (Rm : List (List Con)) (B : Option Addr) (q d : Nat) (out : List Fct), gg = Rm.flatten.length ∧ s6 = .slice B q d ∧ m ≤ k ∧ Hid (out.length = q) ∧ Hid (q + Rm.flatten.length = R.flatten.length) ∧ Hid ((L.map HdR.con).Perm (headsF 0 Rm)) ∧ Hid (Heap (L.map HdR.con) m) ∧ Hid (∀ h ∈ L, h.ok w) ∧ Hid (∀ l ∈ Rm, Srt l) ∧ Hid (cons out ++ sortC Rm.flatten = sortC R.flatten) ∧ Hid (∀ f ∈ out, f.ok w) ∧ Hid (SL No w wr [rBlk g 117 #[.slice A m c], rRow 120 2 (.slice A m c) m (L.flatMap Cel.cells), rRow 84 11 (.slice B q d) q (out.flatMap Cel.cells)]))
      case atStart => exact ⟨m, c, A, L, R, none, 0, 0, [], rfl, rfl, hmk, Lib.hid rfl, Lib.hid (Nat.zero_add _), HP0, HH, HOK, HS0, HCO, HFO, H⟩
      case round =>
        clear H HP0 HH HOK HS0 HCO HFO
        obtain ⟨m, c, A, L, Rm, B, q, d, out, hgk, rfl, hmk, hq, hqT, HP, HH, HOK, HSr, HCO, HFO, H⟩ := hrel
        have Hgk2 := Lib.hid hgk
        have HQ := Lib.hid hq.out
        clear hgk hq
        have ch := (H.out.blk 0 rfl).cell 0; simp only [List.getElem?_toArray, List.getElem?_cons_zero, List.getElem?_cons_succ] at ch
        go_wp2_with fail
        clear ch
        refine (hlen_any _ _ _ _).mono ?_; rintro e w3 ⟨rfl, rfl⟩
        by_cases hm0 : 0 < m
        · obtain ⟨m, rfl⟩ : ∃ m', m = m' + 1 := ⟨m - 1, by omega⟩
          have d1 : decide ((0 : Int) < ((m + 1 : Nat) : Int)) = true := by simp <;> omega
          obtain ⟨b, a, rfl, hb, ha0, hrg, ca0, ca1⟩ := heads_at (H.out.row 1 rfl) (k := 0) (by omega)
          have haok : a.ok w := HOK.out a (List.mem_of_getElem? ha0)
          obtain ⟨fb, fo, f, hLA, hfb, hf0, hfok, _, hfr, _⟩ := (haok.left.mono H.out.to).fct haok.n1
          have HFok : Hid (f.ok w) := haok.left.all f (List.mem_of_getElem? hf0)
          have HR := Lib.hid hfr
          have hch := cons_head hf0
          have HCH := Lib.hid hch
          have h0 : (L.map HdR.con)[0]? = some (f.con :: cons (a.left.l.drop 1), a.no) := by rw [map_get ha0]; show some (cons a.left.l, a.no) = _; rw [hch]
          have hlm : (L.map HdR.con).length = m + 1 := by rw [List.length_map]; exact rd_len (Rd.of_own (H.out.row 1 rfl))
          have hst := merge_step HP.out (by rw [hlm]; exact HH.out) h0 HSr.out
          have HJ := Lib.hid hst.1
          have HST := Lib.hid hst.2
          have HNX := Lib.hid (merge_next HP.out h0 hst.1)
          have HA0 := Lib.hid ha0
          have HSR2 := Lib.hid (srt_set HSr.out hst.1)
          clear hst hfr hch h0 hlm hrg ca1 hf0 hfok hfb ha0 hb
          have hq1 : q ≤ 100000 := by have := hqT.out; have := HT.out; omega
          have hsl := slice_tail a.left haok.n1
          have HAOK := Lib.hid haok
          have ca0 : wr.cell? ⟨b, 0, none⟩ = some (.slice a.left.A a.left.n a.left.c) := by simpa using ca0
          have n1 := haok.n1
          clear haok
          obtain ⟨⟨LA, ln, lc, ll⟩, no⟩ := a
          simp only at *
          subst hLA
          have n1i : (0 : Int) < ln := by omega
          have ch := (H.out.blk 0 rfl).cell 0; simp only [List.getElem?_toArray, List.getElem?_cons_zero, List.getElem?_cons_succ] at ch
          go_upto_region 12 with (first | ((with_reducible show wpList _ _ _ (⟨some 43, _, _, _, _, _⟩ :: _) _ _); (refine wpList_load_row_at rfl rowFct (.tmp 42) rfl fb (fo) rfl f.cs rfl HR.out ?_)) | ((with_reducible show wpList _ _ _ (⟨some 44, _, _, _, _, _⟩ :: _) _ _); (refine wpList_buildSlice1 rfl E_fct (.tmp 43) rfl (f.cs) rfl (fct_size f) (by omega) ?_; replace H := Lib.hid (H.out.addRow ((Bel.refl _).alloc _) (own_madeK _ 84 (f.cs) 11 (fct_size f))); (try simp only [List.set_cons_zero, List.set_cons_succ, List.cons_append, List.nil_append, List.eraseIdx_cons_zero, List.eraseIdx_cons_succ, List.setIfInBounds_toArray, World.size_alloc, selR, List.getD_cons_zero, List.getD_cons_succ] at H))) | ((with_reducible show wpList _ _ _ (⟨some 45, _, _, _, _, _⟩ :: _) _ _); (refine wpList_append0 rfl (.tmp 37) (.tmp 44) _ rfl E_fct 0 (Nat.zero_le _) _ q _ rfl (H.out.row 2 rfl) _ 1 1 f.cs.toList rfl (Rd.of_own (H.out.row 3 rfl)) (fct_onesK f) (by unfold maxLen; omega) (by omega) ?_; intro vq wq howq hgq hatq; replace H := Lib.hid (H.out.setRow 2 rfl hgq howq hatq); (try simp only [List.set_cons_zero, List.set_cons_succ, List.cons_append, List.nil_append, List.eraseIdx_cons_zero, List.eraseIdx_cons_succ, List.setIfInBounds_toArray, World.size_alloc, selR, List.getD_cons_zero, List.getD_cons_succ] at H); clear howq hgq hatq; obtain ⟨B2, d2, rfl, _⟩ := own_slice (H.out.row 2 rfl))))
          (try simp only [Act.put, List.setIfInBounds_toArray, List.set_cons_zero, List.set_cons_succ])
          replace H := Lib.hid (H.out.sel [0, 1, 2] (by decide) (by simp)); (try simp only [List.set_cons_zero, List.set_cons_succ, List.cons_append, List.nil_append, List.eraseIdx_cons_zero, List.eraseIdx_cons_succ, List.setIfInBounds_toArray, World.size_alloc, selR, List.getD_cons_zero, List.getD_cons_succ] at H)
          clear ch n1i ca0
          (try simp only [List.set_cons_zero, List.set_cons_succ, List.cons_append, List.nil_append, List.eraseIdx_cons_zero, List.eraseIdx_cons_succ, List.setIfInBounds_toArray, World.size_alloc, selR, List.getD_cons_zero, List.getD_cons_succ] at H)
          have HCO2 : Hid (cons (out ++ [f]) ++ sortC (Rm.set no (cons (ll.drop 1))).flatten = sortC R.flatten) := by
            show _ = _
            rw [← HCO.out, HST.out, show cons (out ++ [f]) = cons out ++ [f.con] by simp [cons]]
            simp
          have HFO2 : Hid (∀ z ∈ out ++ [f], z.ok w) := fun z hz => (List.mem_append.1 hz).elim (HFO.out z) (fun h => by rw [List.mem_singleton] at h; subst h; exact HFok.out)
          have HQ2 : Hid ((out ++ [f]).length = q + 1) := by show _ = _; rw [List.length_append, HQ.out]; rfl
          have hflat : out.flatMap Cel.cells ++ f.cs.toList = (out ++ [f]).flatMap Cel.cells := by simp [Cel.cells]
          rw [hflat] at H
          have hlen2 : (Rm.set no (cons (ll.drop 1))).flatten.length + 1 = Rm.flatten.length := by
            have h := congrArg List.length HST.out
            rw [sortC_len, List.length_cons, sortC_len] at h
            omega
          have HL2 := Lib.hid hlen2
          have HQT2 : Hid (q + 1 + (Rm.set no (cons (ll.drop 1))).flatten.length = R.flatten.length) := by show _ = _; have := hqT.out; omega
          clear hflat hlen2 HCO HFO HQ hqT HST HSr
          have ca0 := (heads_at (H.out.row 1 rfl) (k := 0) (by omega))
          obtain ⟨b', a', hb', _, ha', _, ca0, _⟩ := ca0
          injection hb' with hb'; injection hb' with hb'; subst hb'
          rw [HA0.out] at ha'; injection ha' with ha'; subst ha'
          rw [Nat.zero_mul] at ca0
          have fa0 := own_froz (H.out.row 1 rfl) (o := 0) (by omega)
          generalize hTA : (fctTail ⟨some ⟨fb, fo, none⟩, ln, lc, ll⟩).A = TA at *
          generalize hTN : (fctTail ⟨some ⟨fb, fo, none⟩, ln, lc, ll⟩).n = TN at *
          generalize hTC : (fctTail ⟨some ⟨fb, fo, none⟩, ln, lc, ll⟩).c = TC at *
          have HTA := Lib.hid hTA
          have HTN := Lib.hid hTN
          have HTC := Lib.hid hTC
          clear hTA hTN hTC
          go_upto_region 13 with ((with_reducible show wpList _ _ _ (⟨some 51, _, _, _, _, _⟩ :: _) _ _); refine wpList_sliceK rfl (.tmp 50) (some (.const (.int .i64 1))) none rfl hsl ?_)
          (try simp only [Act.put, List.setIfInBounds_toArray, List.set_cons_zero, List.set_cons_succ])
          replace H := Lib.hid (H.out.setRow 1 rfl (grownBy_setCell _ b 0 (.slice TA TN TC)) (own_setCellG (H.out.row 1 rfl) (by omega) (.slice TA TN TC)) (.inl rfl)); (try simp only [List.set_cons_zero, List.set_cons_succ, List.cons_append, List.nil_append, List.eraseIdx_cons_zero, List.eraseIdx_cons_succ, List.setIfInBounds_toArray, World.size_alloc, selR, List.getD_cons_zero, List.getD_cons_succ] at H)
          generalize World.setCell _ _ _ = wz at *
          rw [set_head (l' := ll.drop 1) HA0.out] at H
          obtain ⟨a2, ha2⟩ : ∃ a2 : HdR, a2 = ⟨⟨TA, TN, TC, ll.drop 1⟩, no⟩ := ⟨_, rfl⟩
          have HTL : Hid ((⟨TA, TN, TC, ll.drop 1⟩ : Row Fct) = fctTail ⟨some ⟨fb, fo, none⟩, ln, lc, ll⟩) := by show _ = _; rw [← HTA.out, ← HTN.out, ← HTC.out]; rfl
          have HTok : Hid (Row.ok w (⟨TA, TN, TC, ll.drop 1⟩ : Row Fct)) := by show Row.ok _ _; rw [HTL.out]; exact tail_ok HAOK.out.left HAOK.out.n1
          have HLT : Hid ((cons (ll.drop 1)).length = TN) := by show _ = _; rw [cons_len]; exact HTok.out.len
          have HNo := HAOK.out.no
          have HNo : no ≤ 1000000 := HNo
          obtain ⟨L2, hL2⟩ : ∃ L2, L2 = L.set 0 a2 := ⟨_, rfl⟩
          rw [← ha2, ← hL2] at H
          have HG0 : Hid (L2[0]? = some a2) := by show _ = _; rw [hL2, List.getElem?_set_self (List.getElem?_eq_some_iff.1 HA0.out).1]
          have HGk : Hid (∀ k, 0 < k → L2[k]? = L[k]?) := fun k hk => by rw [hL2, List.getElem?_set_ne (by omega)]
          have HRT := Lib.hid (heap_root (r' := a2) HA0.out HH.out)
          rw [← hL2] at HRT
          have HMP : Hid (L2.map HdR.con = (L.map HdR.con).set 0 (cons (ll.drop 1), no)) := by show _ = _; rw [hL2, List.map_set, ha2]
          have HA2 := Lib.hid ha2
          have HL2' : Hid (L.map HdR.con = (f.con :: cons (ll.drop 1), no) :: (L.map HdR.con).tail ∧ L2.map HdR.con = (cons (ll.drop 1), no) :: (L.map HdR.con).tail) := by
            have h1 := map_get HA0.out
            show _ ∧ _
            rw [HMP.out]
            cases hq : L.map HdR.con with
            | nil => rw [hq] at h1; simp at h1
            | cons z zs =>
              have hz : L[0]? = some _ := HA0.out
              have hj := (List.getElem?_eq_some_iff.1 HJ.out).1
              refine ⟨?_, rfl⟩
              rw [hq] at h1
              injection h1 with h1
              rw [List.tail_cons, h1]
              congr 1
              show (cons ll, no) = _
              rw [HCH.out]
          clear hL2 ha2 ca0 fa0 hsl HMP
          have ca0 := (heads_at (H.out.row 1 rfl) (k := 0) (by omega))
          obtain ⟨b', a', hb', _, ha', _, ca0, _⟩ := ca0
          injection hb' with hb'; injection hb' with hb'; subst hb'
          rw [HG0.out] at ha'; injection ha' with ha'; subst ha'
          rw [Nat.zero_mul, HA2.out] at ca0
          by_cases hz : TN = 0
          · have dz : decide (TN = 0) = true := by simp [hz]
            have HT0 : Hid (cons (ll.drop 1) = []) := List.eq_nil_of_length_eq_zero (by rw [HLT.out]; exact hz)
            subst hz
            go_wp2_with fail
            refine (hpPop_any w _ g (some ⟨b, 0, none⟩) m c L2 [rRow 84 11 (.slice B2 (q + 1) d2) (q + 1) ((out ++ [f]).flatMap Cel.cells)] a2 H.out (by omega) HG0.out (fun k x h0 hx => by rw [HGk.out k h0] at hx; exact HOK.out x (List.mem_of_getElem? hx)) (HRT.out.2 (by rw [HA2.out]; exact HT0.out))).mono ?_; rintro e w9 ⟨⟨v, rfl⟩, L', hp, hh, hs9⟩
            have HP2 : Hid ((L'.map HdR.con).Perm (headsF 0 (Rm.set no (cons (ll.drop 1))))) := by
              refine HNX.out.2 HT0.out _ ?_
              have h1 := hp.map HdR.con
              rw [List.map_append, HL2'.out.2, List.map_singleton, HA2.out] at h1
              rw [HL2'.out.1]
              have h2 : ((cons (ll.drop 1), no) :: L'.map HdR.con).Perm ((cons (ll.drop 1), no) :: (L.map HdR.con).tail) := (List.perm_append_singleton _ _).symm.trans h1
              exact (h2.cons_inv.symm.cons _).trans (List.perm_append_singleton _ _).symm
            have HOK2 : Hid (∀ h ∈ L', h.ok w) := fun h hm => by
              have hc : L2 = a2 :: L2.tail := by
                have hg := HG0.out
                cases hq : L2 with
                | nil => rw [hq] at hg; simp at hg
                | cons z zs => rw [hq] at hg; injection hg with hg; subst hg; rfl
              have h2 : (a2 :: L').Perm (a2 :: L2.tail) := by rw [← hc]; exact (List.perm_append_singleton _ _).symm.trans hp
              obtain ⟨k, hk⟩ := List.mem_iff_getElem?.1 (h2.cons_inv.mem_iff.1 hm)
              have hk2 : L2[k + 1]? = some h := by rw [hc, List.getElem?_cons_succ]; exact hk
              rw [HGk.out (k + 1) (by omega)] at hk2
              exact HOK.out h (List.mem_of_getElem? hk2)
            have HH2 := Lib.hid hh
            clear H hp hh ca0
            have H := Lib.hid hs9
            clear hs9
            go_wp2_with fail
            go_roundg ((Rm.set no (cons (ll.drop 1))).flatten.length)
            case rel => exact ⟨m, c, some ⟨b, 0, none⟩, L', _, B2, q + 1, d2, out ++ [f], rfl, rfl, by omega, HQ2, HQT2, HP2, HH2, HOK2, HSR2, HCO2, HFO2, H⟩
            case measure => rw [Hgk2.out]; have := HL2.out; omega
          · have dz : decide (TN = 0) = false := by simp [hz]
            have HT0 : Hid (cons (ll.drop 1) ≠ []) := fun e => by have := HLT.out; rw [e] at this; simp at this; omega
            go_wp2_with fail
            have HOK1 : Hid (∀ h ∈ L2, h.ok w) := fun h hm => by
              obtain ⟨k, hk⟩ := List.mem_iff_getElem?.1 hm
              by_cases h0 : k = 0
              · subst h0
                rw [HG0.out] at hk; injection hk with hk; subst hk
                rw [HA2.out]
                exact ⟨HTok.out, by show 1 ≤ TN; omega, HNo⟩
              · rw [HGk.out k (by omega)] at hk
                exact HOK.out h (List.mem_of_getElem? hk)
            refine (hpFix_any w _ g (some ⟨b, 0, none⟩) (m + 1) c L2 [rRow 84 11 (.slice B2 (q + 1) d2) (q + 1) ((out ++ [f]).flatMap Cel.cells)] H.out (by omega) (by omega) HOK1.out HRT.out.1).mono ?_; rintro e w9 ⟨rfl, L', hp, hh, hs9⟩
            have HP2 : Hid ((L'.map HdR.con).Perm (headsF 0 (Rm.set no (cons (ll.drop 1))))) := by
              refine (hp.map HdR.con).trans ?_
              rw [HL2'.out.2]
              have h1 := HNX.out.1 HT0.out
              rw [HL2'.out.1] at h1
              exact h1
            have HOK2 : Hid (∀ h ∈ L', h.ok w) := fun h hm => HOK1.out h (hp.mem_iff.1 hm)
            have HH2 := Lib.hid hh
            clear H hp hh ca0
            have H := Lib.hid hs9
            clear hs9
            go_wp2_with fail
            go_roundg ((Rm.set no (cons (ll.drop 1))).flatten.length)
            case rel => exact ⟨m + 1, c, some ⟨b, 0, none⟩, L', _, B2, q + 1, d2, out ++ [f], rfl, rfl, by omega, HQ2, HQT2, HP2, HH2, HOK2, HSR2, HCO2, HFO2, H⟩
            case measure => rw [Hgk2.out]; have := HL2.out; omega
        · obtain rfl : m = 0 := by omega
          have hL0 : L = [] := List.eq_nil_of_length_eq_zero (rd_len (Rd.of_own (H.out.row 1 rfl)))
          have hfl : Rm.flatten = [] := flatten_nil (by have h := HP.out; rw [hL0] at h; exact h)
          have HCO2 : Hid (cons out = sortC R.flatten) := by have h := HCO.out; rw [hfl, show sortC [] = [] from rfl, List.append_nil] at h; exact h
          have hq1 : q ≤ 100000 := by have := hqT.out; have := HT.out; omega
          have HX0 := Lib.hid (clone_any ⟨B, q, d, out⟩ wr (own_okK (x := ⟨B, q, d, out⟩) (H.out.row 2 rfl) (fun f hf => ⟨(HFO.out f hf).ks.mono H.out.to, (HFO.out f hf).ag⟩) (by show q * 104 ≤ _; omega)) (by show q ≤ _; omega))
          clear hL0 hfl HP HCO
          go_wp2_with fail
          refine HX0.out.mono ?_; rintro e w9 ⟨v, fs, rfl, hG, hc⟩
          have HRS : Hid (RunPost (sortC R.flatten) w (.returned v) w9) := ⟨v, fs, rfl, hG.from_ H.out.to, by rw [hc]; exact HCO2.out⟩
          clear hG hc HX0
          go_wp2
          go_ret
          exact HRS.out

end Go.Proofs.Ytelnhhbefdfeoaa
