/- ask.read: a pick read by a reader. -/
import Derived.Test.YtigjghfonpfdlaaAskM
import Derived.Test.YtigjghfonpfdlaaSchR
namespace Go.Proofs.Ytigjghfonpfdlaa
open Go.RowKit
set_option linter.unusedVariables false
set_option linter.unusedSimpArgs false

section
variable {P : Program}
/-- A struct built of one field. -/
theorem wpList_build1 {ops : Array Oper} {rest : List Oper} {o : Oper} {a : Act} {w : World} {Q : Exit → Act → World → Prop} (hgd : o.guard = none) {t : TypeId} (x : Operand) {i : Nat} (ho : o.op = .build t #[(i, x)])
    {vx v : Value} (hx : a.eval x = vx) (hr : ∀ w, (Instr.build t #[(i, vx)]).run P w = .ok v w)
    (h : wpList P ops Q rest (a.put o.dst v) w) : wpList P ops Q (o :: rest) a w := by
  refine wpList_plain hgd fun K hK => ?_
  unfold Oper.wp execOp
  simp only [ho, List.map_toArray, List.map_cons, List.map_nil, hx, Sem.run_bind, hr, Result.andThen_ok, Sem.run_pure]
  exact hK _ _ h
end
/-- A pick of the call's own. -/
structure PkOwn (p : Pk) (w : World) : Prop where
  f : I64 p.f
  t : I64 p.t
  lo : p.lo.length ≤ 16
  hi : p.hi.length ≤ 16
  set : w.ownsRow 0 9 1 (.slice p.set.A p.set.n p.set.c) p.set.n (p.set.l.map tx)
  sl : ∀ x ∈ p.set.l, x.length ≤ 16
  sn : p.set.n ≤ 200
  b : I64 p.by_
def Pk.D (p : Pk) (g : Nat) : Prop := p.set.v.ownBlock = some g
abbrev rPk (p : Pk) : Res := ⟨p.D, PkOwn p⟩
theorem PkOwn.rd {p : Pk} {w : World} (h : PkOwn p w) : Pk.rd w p :=
  ⟨h.f, h.t, by have := h.lo; omega, by have := h.hi; omega, ⟨by have := Rd.of_own h.set; rw [flat_texts]; exact this, fun t ht => by have := h.sl t ht; show t.length ≤ _; omega, by have := h.sn; omega⟩, h.b⟩
theorem holds_pk {f t b : Int} {lo hi : List UInt8} {A : Option Addr} {n c : Nat} {set : List (List UInt8)} {g : Bool} {w : World} (h1 : (rRow 9 1 (.slice A n c) n (set.map tx)).holds w) (hf : I64 f) (ht : I64 t) (hlo : lo.length ≤ 16) (hhi : hi.length ≤ 16) (hs : ∀ x ∈ set, x.length ≤ 16) (hn : n ≤ 200) (hb : I64 b) : (rPk ⟨f, t, lo, hi, ⟨A, n, c, set⟩, g, b⟩).holds w :=
  ⟨fun g hg => h1.1 g hg, fun w' hs' hk => ⟨hf, ht, hlo, hhi, h1.2 w' hs' fun g hg => hk g hg, hs, hn, hb⟩⟩
/-- How ask.read ends. -/
def PkPost (b : Nat) (s : List UInt8) (o : PR PC) (w : World) (e : Ending) (w' : World) : Prop :=
  match o with
  | .error k => RErr b s k w e w'
  | .ok (d, l) => ∃ D : Pk, e = .returned (.agg D.cs) ∧ D.con = d ∧ w.grownBy w' (some b) ∧ Rdr w' b s l ∧ NewR w w' (rPk D)

set_option maxRecDepth 100000 in
set_option maxHeartbeats 2000000 in
theorem pkread_any (b : Nat) (s l : List UInt8) (w : World) (hR : Rdr w b s l) :
    Calls Try.prog 65 #[.pointer (some ⟨b, 0, none⟩)] w (PkPost b s (ppick l) w) := by
  have hbw := hR.lt
  have H := Lib.hid ((SL.rdr1 w hR).alloc #[.int .i64 0, .int .i64 0, .string ⟨#[]⟩, .string ⟨#[]⟩, .slice none 0 0, .bool false, .int .i64 0] 33)
  (try simp only [List.set_cons_zero, List.set_cons_succ, List.cons_append, List.nil_append, List.eraseIdx_cons_zero, List.eraseIdx_cons_succ, List.setIfInBounds_toArray, World.size_alloc, selR, List.getD_cons_zero, List.getD_cons_succ] at H)
  clear hR
  go_enter Try.func65, Try.ntmps65
  go_wp2_with fail
  generalize w.heap.size = y at *
  generalize World.alloc _ _ = w1 at *
  have HT := Lib.hid (fun w (hr : Rdr w b s l) => num_any b s l 2 w hr (by omega) (by omega))
  cases hx : pnum 2 l with
  | error e1 =>
    have HE : Hid (ppick l = .error e1) := by show _ = _; unfold ppick; rw [hx]
    rw [hx] at HT
    clear hx
    refine (HT.out _ (H.out.rdr 0 rfl)).mono ?_; rintro e w2 ⟨rfl, hg, l3, hr⟩
    replace H := Lib.hid (H.out.setRdr 0 rfl hg hr); (try simp only [List.set_cons_zero, List.set_cons_succ, List.cons_append, List.nil_append, List.eraseIdx_cons_zero, List.eraseIdx_cons_succ, List.setIfInBounds_toArray, World.size_alloc, selR, List.getD_cons_zero, List.getD_cons_succ] at H)
    clear hg hr
    go_wp2_with fail
    refine ⟨rfl, ?_⟩
    rw [HE.out]
    exact ⟨rfl, H.out.fr.grown, l3, H.out.rdr 0 rfl⟩
  | ok q =>
    obtain ⟨f, r0⟩ := q
    have hf2 := (pnum_ok hx).2.1
    have HP : Hid (ppick l = ppA f (if f = 1 then ppW r0 else if f = 2 then ppS r0 else .ok ((0, [], [], []), r0))) := by show _ = _; unfold ppick; rw [hx]
    rw [hx] at HT
    refine (HT.out _ (H.out.rdr 0 rfl)).mono ?_; rintro e w2 ⟨rfl, hg, hr⟩
    replace H := Lib.hid (H.out.setRdr 0 rfl hg hr); (try simp only [List.set_cons_zero, List.set_cons_succ, List.cons_append, List.nil_append, List.eraseIdx_cons_zero, List.eraseIdx_cons_succ, List.setIfInBounds_toArray, World.size_alloc, selR, List.getD_cons_zero, List.getD_cons_succ] at H)
    clear hg hr HT hx
    go_upto_region 2 with (first | ((with_reducible show wpList _ _ _ (⟨some 7, _, _, _, _, _⟩ :: _) _ _); refine wpList_build1 (vx := .int .i64 (f : Nat)) (v := .agg #[.int .i64 (f : Nat), .int .i64 0, .string ⟨#[]⟩, .string ⟨#[]⟩, .slice none 0 0, .bool false, .int .i64 0]) rfl (.tmp 6) rfl rfl (by intro w; kernel_rfl) ?_) | ((with_reducible show wpList _ _ _ (⟨_, .store _ (.tmp 3) _, _, _, _, _⟩ :: _) _ _); (refine wpList_store_new rfl rowPk (.tmp 3) (.tmp 7) rfl rfl rfl (#[.int .i64 (f : Nat), .int .i64 0, .string ⟨#[]⟩, .string ⟨#[]⟩, .slice none 0 0, .bool false, .int .i64 0]) rfl rfl (by simp [Value.oneCell']) ?_; replace H := Lib.hid (H.out.alloc (#[.int .i64 (f : Nat), .int .i64 0, .string ⟨#[]⟩, .string ⟨#[]⟩, .slice none 0 0, .bool false, .int .i64 0]) 33); (try simp only [List.set_cons_zero, List.set_cons_succ, List.cons_append, List.nil_append, List.eraseIdx_cons_zero, List.eraseIdx_cons_succ, List.setIfInBounds_toArray, World.size_alloc, selR, List.getD_cons_zero, List.getD_cons_succ] at H))))
    (try simp only [Act.put, List.setIfInBounds_toArray, List.set_cons_zero, List.set_cons_succ])
    generalize w2.heap.size = z at *
    generalize World.alloc _ _ = w2b at *
    have hf3 : f = 0 ∨ f = 1 ∨ f = 2 := by omega
    generalize hfi : ((f : Nat) : Int) = fi at H ⊢
    rcases hf3 with rfl | rfl | rfl
    · obtain rfl : fi = 0 := by omega
      obtain ⟨r1, hr1⟩ : ∃ r1, r1 = r0 := ⟨_, rfl⟩
      rw [← hr1] at HP H
      clear hr1
      have HO : Hid (ppick l = ppA 0 (.ok ((0, [], [], []), r1))) := by show _ = _; rw [HP.out]; rfl
      clear HP
      have cc0 := (H.out.blk 2 rfl).cell 0; simp only [List.getElem?_toArray, List.getElem?_cons_zero, List.getElem?_cons_succ] at cc0
      go_wp2_with fail
      clear cc0
      replace H := Lib.hid (H.out.addNil 9 1); (try simp only [List.set_cons_zero, List.set_cons_succ, List.cons_append, List.nil_append, List.eraseIdx_cons_zero, List.eraseIdx_cons_succ, List.setIfInBounds_toArray, World.size_alloc, selR, List.getD_cons_zero, List.getD_cons_succ] at H)
      have HT := Lib.hid (fun w (hr : Rdr w b s r1) => num_any b s r1 4 w hr (by omega) (by omega))
      cases hx9 : pnum 4 r1 with
      | error e1 =>
        have HE : Hid (ppick l = .error e1) := by show _ = _; rw [HO.out]; unfold ppA; simp only; rw [hx9]
        rw [hx9] at HT
        clear hx9
        refine (HT.out _ (H.out.rdr 0 rfl)).mono ?_; rintro e w2 ⟨rfl, hg, l3, hr⟩
        replace H := Lib.hid (H.out.setRdr 0 rfl hg hr); (try simp only [List.set_cons_zero, List.set_cons_succ, List.cons_append, List.nil_append, List.eraseIdx_cons_zero, List.eraseIdx_cons_succ, List.setIfInBounds_toArray, World.size_alloc, selR, List.getD_cons_zero, List.getD_cons_succ] at H)
        clear hg hr
        go_wp2_with fail
        refine ⟨rfl, ?_⟩
        rw [HE.out]
        exact ⟨rfl, H.out.fr.grown, l3, H.out.rdr 0 rfl⟩
      | ok q =>
        obtain ⟨bn, l9⟩ := q
        have hbn := (pnum_ok hx9).2.1
        rw [hx9] at HT
        refine (HT.out _ (H.out.rdr 0 rfl)).mono ?_; rintro e w7 ⟨rfl, hg, hr⟩
        replace H := Lib.hid (H.out.setRdr 0 rfl hg hr); (try simp only [List.set_cons_zero, List.set_cons_succ, List.cons_append, List.nil_append, List.eraseIdx_cons_zero, List.eraseIdx_cons_succ, List.setIfInBounds_toArray, World.size_alloc, selR, List.getD_cons_zero, List.getD_cons_succ] at H)
        clear hg hr HT
        by_cases hb0 : bn = 0
        · subst hb0
          have wz : IntKind.i64.wrap ((0 : Int) - 1) = -1 := rfl
          have mz : max (-1 : Int) 0 = 0 := rfl
          have cc5 := (H.out.blk 2 rfl).cell 5; simp only [List.getElem?_toArray, List.getElem?_cons_zero, List.getElem?_cons_succ] at cc5; have fc5 := (H.out.blk 2 rfl).frozen 5
          have cc6 := (H.out.blk 2 rfl).cell 6; simp only [List.getElem?_toArray, List.getElem?_cons_zero, List.getElem?_cons_succ] at cc6; have fc6 := (H.out.blk 2 rfl).frozen 6
          go_upto_region 12 with fail
          replace H := Lib.hid (H.out.setCell 2 rfl 5 (.bool false)); (try simp only [List.set_cons_zero, List.set_cons_succ, List.cons_append, List.nil_append, List.eraseIdx_cons_zero, List.eraseIdx_cons_succ, List.setIfInBounds_toArray, World.size_alloc, selR, List.getD_cons_zero, List.getD_cons_succ] at H)
          replace H := Lib.hid (H.out.setCell 2 rfl 6 (.int .i64 0)); (try simp only [List.set_cons_zero, List.set_cons_succ, List.cons_append, List.nil_append, List.eraseIdx_cons_zero, List.eraseIdx_cons_succ, List.setIfInBounds_toArray, World.size_alloc, selR, List.getD_cons_zero, List.getD_cons_succ] at H)
          clear cc5 cc6 fc5 fc6
          obtain ⟨D, hD⟩ : ∃ D : Pk, D = ⟨0, 0, [], [], ⟨none, 0, 0, []⟩, false, 0⟩ := ⟨_, rfl⟩
          have hDs : D.cs = #[.int .i64 0, .int .i64 0, .string ⟨#[]⟩, .string ⟨#[]⟩, .slice none 0 0, .bool false, .int .i64 0] := by rw [hD]
          have hDc : D.con = ⟨0, 0, [], [], [], false, 0⟩ := by rw [hD]
          have hDr : rPk D = rPk ⟨0, 0, [], [], ⟨none, 0, 0, []⟩, false, 0⟩ := by rw [hD]
          replace H := Lib.hid (H.out.turn 3 rfl (rPk D) (by rw [hDr]; exact holds_pk (H.out.get 3 rfl) (by unfold I64; omega) (by unfold I64; omega) (Nat.zero_le _) (Nat.zero_le _) (by intro x hx; cases hx) (Nat.zero_le _) (by unfold I64; omega)) (by rw [hD]; exact fun g hg => hg)); (try simp only [List.set_cons_zero, List.set_cons_succ, List.cons_append, List.nil_append, List.eraseIdx_cons_zero, List.eraseIdx_cons_succ, List.setIfInBounds_toArray, World.size_alloc, selR, List.getD_cons_zero, List.getD_cons_succ] at H)
          rw [← hDs] at H
          have HN : Hid (ppick l = .ok (D.con, l9)) := by show _ = _; rw [HO.out, hDc]; unfold ppA; simp only; rw [hx9]; rfl
          clear hD hDs hDc hDr hx9 HO
          go_wp2_with (first | ((with_reducible show wpList _ _ _ (⟨some 38, _, _, _, _, _⟩ :: _) _ _); (refine wpList_load_blk rfl rowPk (.tmp 3) rfl _ rfl (H.out.blk 2 rfl) rfl ?_)) | ((with_reducible show wpList _ _ _ (⟨_, .store _ (.tmp 2) _, _, _, _, _⟩ :: _) _ _); (refine wpList_store_blk rfl rowPk (.tmp 2) (.tmp 38) rfl _ rfl (H.out.blk 1 rfl) rfl (D.cs) rfl rfl (pk_one D) ?_; intro wq bq hgq; replace H := Lib.hid (H.out.setBlk 1 rfl hgq bq); (try simp only [List.set_cons_zero, List.set_cons_succ, List.cons_append, List.nil_append, List.eraseIdx_cons_zero, List.eraseIdx_cons_succ, List.setIfInBounds_toArray, World.size_alloc, selR, List.getD_cons_zero, List.getD_cons_succ] at H); clear hgq bq)))
          refine bodyPost_ret (results_blk1 rfl rowPk rfl (H.out.blk 1 rfl) rfl) rfl ?_
          rw [HN.out]
          exact ⟨D, rfl, rfl, H.out.fr.grown, H.out.rdr 0 rfl, H.out.get 3 rfl, H.out.new1 3 0 (by omega) rfl rfl rfl⟩
        · have d1 : decide ((0 : Int) < (bn : Int)) = true := by simp <;> omega
          have d2 : decide (0 < bn) = true := by simp <;> omega
          have wz : IntKind.i64.wrap ((bn : Int) - 1) = (bn : Int) - 1 := IntWalk.i64_in _ (by omega)
          have mz : max ((bn : Int) - 1) 0 = (bn : Int) - 1 := by omega
          have cc5 := (H.out.blk 2 rfl).cell 5; simp only [List.getElem?_toArray, List.getElem?_cons_zero, List.getElem?_cons_succ] at cc5; have fc5 := (H.out.blk 2 rfl).frozen 5
          have cc6 := (H.out.blk 2 rfl).cell 6; simp only [List.getElem?_toArray, List.getElem?_cons_zero, List.getElem?_cons_succ] at cc6; have fc6 := (H.out.blk 2 rfl).frozen 6
          go_upto_region 12 with fail
          replace H := Lib.hid (H.out.setCell 2 rfl 5 (.bool true)); (try simp only [List.set_cons_zero, List.set_cons_succ, List.cons_append, List.nil_append, List.eraseIdx_cons_zero, List.eraseIdx_cons_succ, List.setIfInBounds_toArray, World.size_alloc, selR, List.getD_cons_zero, List.getD_cons_succ] at H)
          replace H := Lib.hid (H.out.setCell 2 rfl 6 (.int .i64 ((bn : Int) - 1))); (try simp only [List.set_cons_zero, List.set_cons_succ, List.cons_append, List.nil_append, List.eraseIdx_cons_zero, List.eraseIdx_cons_succ, List.setIfInBounds_toArray, World.size_alloc, selR, List.getD_cons_zero, List.getD_cons_succ] at H)
          clear cc5 cc6 fc5 fc6
          obtain ⟨D, hD⟩ : ∃ D : Pk, D = ⟨0, 0, [], [], ⟨none, 0, 0, []⟩, true, ((bn : Int) - 1)⟩ := ⟨_, rfl⟩
          have hDs : D.cs = #[.int .i64 0, .int .i64 0, .string ⟨#[]⟩, .string ⟨#[]⟩, .slice none 0 0, .bool true, .int .i64 ((bn : Int) - 1)] := by rw [hD]
          have hDc : D.con = ⟨0, 0, [], [], [], true, ((bn : Int) - 1)⟩ := by rw [hD]
          have hDr : rPk D = rPk ⟨0, 0, [], [], ⟨none, 0, 0, []⟩, true, ((bn : Int) - 1)⟩ := by rw [hD]
          replace H := Lib.hid (H.out.turn 3 rfl (rPk D) (by rw [hDr]; exact holds_pk (H.out.get 3 rfl) (by unfold I64; omega) (by unfold I64; omega) (Nat.zero_le _) (Nat.zero_le _) (by intro x hx; cases hx) (Nat.zero_le _) (by unfold I64; omega)) (by rw [hD]; exact fun g hg => hg)); (try simp only [List.set_cons_zero, List.set_cons_succ, List.cons_append, List.nil_append, List.eraseIdx_cons_zero, List.eraseIdx_cons_succ, List.setIfInBounds_toArray, World.size_alloc, selR, List.getD_cons_zero, List.getD_cons_succ] at H)
          rw [← hDs] at H
          have HN : Hid (ppick l = .ok (D.con, l9)) := by show _ = _; rw [HO.out, hDc]; unfold ppA; simp only; rw [hx9]; simp only; rw [if_pos (by omega), decide_eq_true (by omega)]; (try rfl)
          clear hD hDs hDc hDr hx9 HO
          go_wp2_with (first | ((with_reducible show wpList _ _ _ (⟨some 38, _, _, _, _, _⟩ :: _) _ _); (refine wpList_load_blk rfl rowPk (.tmp 3) rfl _ rfl (H.out.blk 2 rfl) rfl ?_)) | ((with_reducible show wpList _ _ _ (⟨_, .store _ (.tmp 2) _, _, _, _, _⟩ :: _) _ _); (refine wpList_store_blk rfl rowPk (.tmp 2) (.tmp 38) rfl _ rfl (H.out.blk 1 rfl) rfl (D.cs) rfl rfl (pk_one D) ?_; intro wq bq hgq; replace H := Lib.hid (H.out.setBlk 1 rfl hgq bq); (try simp only [List.set_cons_zero, List.set_cons_succ, List.cons_append, List.nil_append, List.eraseIdx_cons_zero, List.eraseIdx_cons_succ, List.setIfInBounds_toArray, World.size_alloc, selR, List.getD_cons_zero, List.getD_cons_succ] at H); clear hgq bq)))
          refine bodyPost_ret (results_blk1 rfl rowPk rfl (H.out.blk 1 rfl) rfl) rfl ?_
          rw [HN.out]
          exact ⟨D, rfl, rfl, H.out.fr.grown, H.out.rdr 0 rfl, H.out.get 3 rfl, H.out.new1 3 0 (by omega) rfl rfl rfl⟩
    · obtain rfl : fi = 1 := by omega
      have HO0 : Hid (ppick l = ppA 1 (ppW r0)) := by show _ = _; rw [HP.out]; rfl
      clear HP
      have cc0 := (H.out.blk 2 rfl).cell 0; simp only [List.getElem?_toArray, List.getElem?_cons_zero, List.getElem?_cons_succ] at cc0
      have cc1 := (H.out.blk 2 rfl).cell 1; simp only [List.getElem?_toArray, List.getElem?_cons_zero, List.getElem?_cons_succ] at cc1; have fc1 := (H.out.blk 2 rfl).frozen 1
      go_wp2_with fail
      have HT := Lib.hid (fun w (hr : Rdr w b s r0) => num_any b s r0 3 w hr (by omega) (by omega))
      cases hx : pnum 3 r0 with
      | error e1 =>
        have HE : Hid (ppick l = .error e1) := by show _ = _; rw [HO0.out]; unfold ppW; rw [hx]; (try rfl)
        rw [hx] at HT
        clear hx
        refine (HT.out _ (H.out.rdr 0 rfl)).mono ?_; rintro e w2 ⟨rfl, hg, l3, hr⟩
        replace H := Lib.hid (H.out.setRdr 0 rfl hg hr); (try simp only [List.set_cons_zero, List.set_cons_succ, List.cons_append, List.nil_append, List.eraseIdx_cons_zero, List.eraseIdx_cons_succ, List.setIfInBounds_toArray, World.size_alloc, selR, List.getD_cons_zero, List.getD_cons_succ] at H)
        clear hg hr
        go_wp2_with fail
        refine ⟨rfl, ?_⟩
        rw [HE.out]
        exact ⟨rfl, H.out.fr.grown, l3, H.out.rdr 0 rfl⟩
      | ok q =>
        obtain ⟨t, r2⟩ := q
        have ht3 := (pnum_ok hx).2.1
        rw [hx] at HT
        have HO1 : Hid (ppW r0 = (match ptxt 16 r2 with | .error k => .error k | .ok (lo, r2) => (match ptxt 16 r2 with | .error k => .error k | .ok (hi, r3) => .ok (((t : Int), lo, hi, []), r3)))) := by show _ = _; unfold ppW; rw [hx]; (try rfl)
        refine (HT.out _ (H.out.rdr 0 rfl)).mono ?_; rintro e w2 ⟨rfl, hg, hr⟩
        replace H := Lib.hid (H.out.setRdr 0 rfl hg hr); (try simp only [List.set_cons_zero, List.set_cons_succ, List.cons_append, List.nil_append, List.eraseIdx_cons_zero, List.eraseIdx_cons_succ, List.setIfInBounds_toArray, World.size_alloc, selR, List.getD_cons_zero, List.getD_cons_succ] at H)
        clear hg hr hx HT cc0 cc1 fc1
        have cc1 := (H.out.blk 2 rfl).cell 1; simp only [List.getElem?_toArray, List.getElem?_cons_zero, List.getElem?_cons_succ] at cc1; have fc1 := (H.out.blk 2 rfl).frozen 1
        go_wp2_with fail
        replace H := Lib.hid (H.out.setCell 2 rfl 1 (.int .i64 (t : Nat))); (try simp only [List.set_cons_zero, List.set_cons_succ, List.cons_append, List.nil_append, List.eraseIdx_cons_zero, List.eraseIdx_cons_succ, List.setIfInBounds_toArray, World.size_alloc, selR, List.getD_cons_zero, List.getD_cons_succ] at H)
        clear cc1 fc1
        have cc2 := (H.out.blk 2 rfl).cell 2; simp only [List.getElem?_toArray, List.getElem?_cons_zero, List.getElem?_cons_succ] at cc2; have fc2 := (H.out.blk 2 rfl).frozen 2
        have HT := Lib.hid (fun w (hr : Rdr w b s r2) => text_any b s r2 16 w hr (by omega) (by omega))
        cases hx : ptxt 16 r2 with
        | error e1 =>
          have HE : Hid (ppick l = .error e1) := by show _ = _; rw [HO0.out, HO1.out, hx]; (try rfl)
          rw [hx] at HT
          clear hx
          refine (HT.out _ (H.out.rdr 0 rfl)).mono ?_; rintro e w2 ⟨rfl, hg, l3, hr⟩
          replace H := Lib.hid (H.out.setRdr 0 rfl hg hr); (try simp only [List.set_cons_zero, List.set_cons_succ, List.cons_append, List.nil_append, List.eraseIdx_cons_zero, List.eraseIdx_cons_succ, List.setIfInBounds_toArray, World.size_alloc, selR, List.getD_cons_zero, List.getD_cons_succ] at H)
          clear hg hr
          go_wp2_with fail
          refine ⟨rfl, ?_⟩
          rw [HE.out]
          exact ⟨rfl, H.out.fr.grown, l3, H.out.rdr 0 rfl⟩
        | ok q =>
          obtain ⟨lo, r3⟩ := q
          have hlo := (ptxt_ok hx).1
          rw [hx] at HT
          have HO2 : Hid (ppW r0 = (match ptxt 16 r3 with | .error k => .error k | .ok (hi, r3) => .ok (((t : Int), lo, hi, []), r3))) := by show _ = _; rw [HO1.out, hx]; (try rfl)
          refine (HT.out _ (H.out.rdr 0 rfl)).mono ?_; rintro e w3 ⟨rfl, hg, hr⟩
          replace H := Lib.hid (H.out.setRdr 0 rfl hg hr); (try simp only [List.set_cons_zero, List.set_cons_succ, List.cons_append, List.nil_append, List.eraseIdx_cons_zero, List.eraseIdx_cons_succ, List.setIfInBounds_toArray, World.size_alloc, selR, List.getD_cons_zero, List.getD_cons_succ] at H)
          clear hg hr hx HT cc2 fc2
          have cc2 := (H.out.blk 2 rfl).cell 2; simp only [List.getElem?_toArray, List.getElem?_cons_zero, List.getElem?_cons_succ] at cc2; have fc2 := (H.out.blk 2 rfl).frozen 2
          go_wp2_with fail
          replace H := Lib.hid (H.out.setCell 2 rfl 2 (.string ⟨lo.toArray⟩)); (try simp only [List.set_cons_zero, List.set_cons_succ, List.cons_append, List.nil_append, List.eraseIdx_cons_zero, List.eraseIdx_cons_succ, List.setIfInBounds_toArray, World.size_alloc, selR, List.getD_cons_zero, List.getD_cons_succ] at H)
          clear cc2 fc2
          have cc3 := (H.out.blk 2 rfl).cell 3; simp only [List.getElem?_toArray, List.getElem?_cons_zero, List.getElem?_cons_succ] at cc3; have fc3 := (H.out.blk 2 rfl).frozen 3
          have HT := Lib.hid (fun w (hr : Rdr w b s r3) => text_any b s r3 16 w hr (by omega) (by omega))
          cases hx : ptxt 16 r3 with
          | error e1 =>
            have HE : Hid (ppick l = .error e1) := by show _ = _; rw [HO0.out, HO2.out, hx]; (try rfl)
            rw [hx] at HT
            clear hx
            refine (HT.out _ (H.out.rdr 0 rfl)).mono ?_; rintro e w2 ⟨rfl, hg, l3, hr⟩
            replace H := Lib.hid (H.out.setRdr 0 rfl hg hr); (try simp only [List.set_cons_zero, List.set_cons_succ, List.cons_append, List.nil_append, List.eraseIdx_cons_zero, List.eraseIdx_cons_succ, List.setIfInBounds_toArray, World.size_alloc, selR, List.getD_cons_zero, List.getD_cons_succ] at H)
            clear hg hr
            go_wp2_with fail
            refine ⟨rfl, ?_⟩
            rw [HE.out]
            exact ⟨rfl, H.out.fr.grown, l3, H.out.rdr 0 rfl⟩
          | ok q =>
            obtain ⟨hi, r1⟩ := q
            have hhi := (ptxt_ok hx).1
            rw [hx] at HT
            have HO : Hid (ppick l = ppA 1 (.ok (((t : Int), lo, hi, []), r1))) := by show _ = _; rw [HO0.out, HO2.out, hx]; (try rfl)
            refine (HT.out _ (H.out.rdr 0 rfl)).mono ?_; rintro e w4 ⟨rfl, hg, hr⟩
            replace H := Lib.hid (H.out.setRdr 0 rfl hg hr); (try simp only [List.set_cons_zero, List.set_cons_succ, List.cons_append, List.nil_append, List.eraseIdx_cons_zero, List.eraseIdx_cons_succ, List.setIfInBounds_toArray, World.size_alloc, selR, List.getD_cons_zero, List.getD_cons_succ] at H)
            clear hg hr hx HT cc3 fc3 HO0 HO1 HO2
            have cc3 := (H.out.blk 2 rfl).cell 3; simp only [List.getElem?_toArray, List.getElem?_cons_zero, List.getElem?_cons_succ] at cc3; have fc3 := (H.out.blk 2 rfl).frozen 3
            go_wp2_with fail
            replace H := Lib.hid (H.out.setCell 2 rfl 3 (.string ⟨hi.toArray⟩)); (try simp only [List.set_cons_zero, List.set_cons_succ, List.cons_append, List.nil_append, List.eraseIdx_cons_zero, List.eraseIdx_cons_succ, List.setIfInBounds_toArray, World.size_alloc, selR, List.getD_cons_zero, List.getD_cons_succ] at H)
            clear cc3 fc3
            replace H := Lib.hid (H.out.addNil 9 1); (try simp only [List.set_cons_zero, List.set_cons_succ, List.cons_append, List.nil_append, List.eraseIdx_cons_zero, List.eraseIdx_cons_succ, List.setIfInBounds_toArray, World.size_alloc, selR, List.getD_cons_zero, List.getD_cons_succ] at H)
            have HT := Lib.hid (fun w (hr : Rdr w b s r1) => num_any b s r1 4 w hr (by omega) (by omega))
            cases hx9 : pnum 4 r1 with
            | error e1 =>
              have HE : Hid (ppick l = .error e1) := by show _ = _; rw [HO.out]; unfold ppA; simp only; rw [hx9]
              rw [hx9] at HT
              clear hx9
              refine (HT.out _ (H.out.rdr 0 rfl)).mono ?_; rintro e w2 ⟨rfl, hg, l3, hr⟩
              replace H := Lib.hid (H.out.setRdr 0 rfl hg hr); (try simp only [List.set_cons_zero, List.set_cons_succ, List.cons_append, List.nil_append, List.eraseIdx_cons_zero, List.eraseIdx_cons_succ, List.setIfInBounds_toArray, World.size_alloc, selR, List.getD_cons_zero, List.getD_cons_succ] at H)
              clear hg hr
              go_wp2_with fail
              refine ⟨rfl, ?_⟩
              rw [HE.out]
              exact ⟨rfl, H.out.fr.grown, l3, H.out.rdr 0 rfl⟩
            | ok q =>
              obtain ⟨bn, l9⟩ := q
              have hbn := (pnum_ok hx9).2.1
              rw [hx9] at HT
              refine (HT.out _ (H.out.rdr 0 rfl)).mono ?_; rintro e w7 ⟨rfl, hg, hr⟩
              replace H := Lib.hid (H.out.setRdr 0 rfl hg hr); (try simp only [List.set_cons_zero, List.set_cons_succ, List.cons_append, List.nil_append, List.eraseIdx_cons_zero, List.eraseIdx_cons_succ, List.setIfInBounds_toArray, World.size_alloc, selR, List.getD_cons_zero, List.getD_cons_succ] at H)
              clear hg hr HT
              by_cases hb0 : bn = 0
              · subst hb0
                have wz : IntKind.i64.wrap ((0 : Int) - 1) = -1 := rfl
                have mz : max (-1 : Int) 0 = 0 := rfl
                have cc5 := (H.out.blk 2 rfl).cell 5; simp only [List.getElem?_toArray, List.getElem?_cons_zero, List.getElem?_cons_succ] at cc5; have fc5 := (H.out.blk 2 rfl).frozen 5
                have cc6 := (H.out.blk 2 rfl).cell 6; simp only [List.getElem?_toArray, List.getElem?_cons_zero, List.getElem?_cons_succ] at cc6; have fc6 := (H.out.blk 2 rfl).frozen 6
                go_upto_region 12 with fail
                replace H := Lib.hid (H.out.setCell 2 rfl 5 (.bool false)); (try simp only [List.set_cons_zero, List.set_cons_succ, List.cons_append, List.nil_append, List.eraseIdx_cons_zero, List.eraseIdx_cons_succ, List.setIfInBounds_toArray, World.size_alloc, selR, List.getD_cons_zero, List.getD_cons_succ] at H)
                replace H := Lib.hid (H.out.setCell 2 rfl 6 (.int .i64 0)); (try simp only [List.set_cons_zero, List.set_cons_succ, List.cons_append, List.nil_append, List.eraseIdx_cons_zero, List.eraseIdx_cons_succ, List.setIfInBounds_toArray, World.size_alloc, selR, List.getD_cons_zero, List.getD_cons_succ] at H)
                clear cc5 cc6 fc5 fc6
                obtain ⟨D, hD⟩ : ∃ D : Pk, D = ⟨1, t, lo, hi, ⟨none, 0, 0, []⟩, false, 0⟩ := ⟨_, rfl⟩
                have hDs : D.cs = #[.int .i64 1, .int .i64 t, .string ⟨lo.toArray⟩, .string ⟨hi.toArray⟩, .slice none 0 0, .bool false, .int .i64 0] := by rw [hD]
                have hDc : D.con = ⟨1, t, lo, hi, [], false, 0⟩ := by rw [hD]
                have hDr : rPk D = rPk ⟨1, t, lo, hi, ⟨none, 0, 0, []⟩, false, 0⟩ := by rw [hD]
                replace H := Lib.hid (H.out.turn 3 rfl (rPk D) (by rw [hDr]; exact holds_pk (H.out.get 3 rfl) (by unfold I64; omega) (by unfold I64; omega) (by omega) (by omega) (by intro x hx; cases hx) (Nat.zero_le _) (by unfold I64; omega)) (by rw [hD]; exact fun g hg => hg)); (try simp only [List.set_cons_zero, List.set_cons_succ, List.cons_append, List.nil_append, List.eraseIdx_cons_zero, List.eraseIdx_cons_succ, List.setIfInBounds_toArray, World.size_alloc, selR, List.getD_cons_zero, List.getD_cons_succ] at H)
                rw [← hDs] at H
                have HN : Hid (ppick l = .ok (D.con, l9)) := by show _ = _; rw [HO.out, hDc]; unfold ppA; simp only; rw [hx9]; rfl
                clear hD hDs hDc hDr hx9 HO
                go_wp2_with (first | ((with_reducible show wpList _ _ _ (⟨some 38, _, _, _, _, _⟩ :: _) _ _); (refine wpList_load_blk rfl rowPk (.tmp 3) rfl _ rfl (H.out.blk 2 rfl) rfl ?_)) | ((with_reducible show wpList _ _ _ (⟨_, .store _ (.tmp 2) _, _, _, _, _⟩ :: _) _ _); (refine wpList_store_blk rfl rowPk (.tmp 2) (.tmp 38) rfl _ rfl (H.out.blk 1 rfl) rfl (D.cs) rfl rfl (pk_one D) ?_; intro wq bq hgq; replace H := Lib.hid (H.out.setBlk 1 rfl hgq bq); (try simp only [List.set_cons_zero, List.set_cons_succ, List.cons_append, List.nil_append, List.eraseIdx_cons_zero, List.eraseIdx_cons_succ, List.setIfInBounds_toArray, World.size_alloc, selR, List.getD_cons_zero, List.getD_cons_succ] at H); clear hgq bq)))
                refine bodyPost_ret (results_blk1 rfl rowPk rfl (H.out.blk 1 rfl) rfl) rfl ?_
                rw [HN.out]
                exact ⟨D, rfl, rfl, H.out.fr.grown, H.out.rdr 0 rfl, H.out.get 3 rfl, H.out.new1 3 0 (by omega) rfl rfl rfl⟩
              · have d1 : decide ((0 : Int) < (bn : Int)) = true := by simp <;> omega
                have d2 : decide (0 < bn) = true := by simp <;> omega
                have wz : IntKind.i64.wrap ((bn : Int) - 1) = (bn : Int) - 1 := IntWalk.i64_in _ (by omega)
                have mz : max ((bn : Int) - 1) 0 = (bn : Int) - 1 := by omega
                have cc5 := (H.out.blk 2 rfl).cell 5; simp only [List.getElem?_toArray, List.getElem?_cons_zero, List.getElem?_cons_succ] at cc5; have fc5 := (H.out.blk 2 rfl).frozen 5
                have cc6 := (H.out.blk 2 rfl).cell 6; simp only [List.getElem?_toArray, List.getElem?_cons_zero, List.getElem?_cons_succ] at cc6; have fc6 := (H.out.blk 2 rfl).frozen 6
                go_upto_region 12 with fail
                replace H := Lib.hid (H.out.setCell 2 rfl 5 (.bool true)); (try simp only [List.set_cons_zero, List.set_cons_succ, List.cons_append, List.nil_append, List.eraseIdx_cons_zero, List.eraseIdx_cons_succ, List.setIfInBounds_toArray, World.size_alloc, selR, List.getD_cons_zero, List.getD_cons_succ] at H)
                replace H := Lib.hid (H.out.setCell 2 rfl 6 (.int .i64 ((bn : Int) - 1))); (try simp only [List.set_cons_zero, List.set_cons_succ, List.cons_append, List.nil_append, List.eraseIdx_cons_zero, List.eraseIdx_cons_succ, List.setIfInBounds_toArray, World.size_alloc, selR, List.getD_cons_zero, List.getD_cons_succ] at H)
                clear cc5 cc6 fc5 fc6
                obtain ⟨D, hD⟩ : ∃ D : Pk, D = ⟨1, t, lo, hi, ⟨none, 0, 0, []⟩, true, ((bn : Int) - 1)⟩ := ⟨_, rfl⟩
                have hDs : D.cs = #[.int .i64 1, .int .i64 t, .string ⟨lo.toArray⟩, .string ⟨hi.toArray⟩, .slice none 0 0, .bool true, .int .i64 ((bn : Int) - 1)] := by rw [hD]
                have hDc : D.con = ⟨1, t, lo, hi, [], true, ((bn : Int) - 1)⟩ := by rw [hD]
                have hDr : rPk D = rPk ⟨1, t, lo, hi, ⟨none, 0, 0, []⟩, true, ((bn : Int) - 1)⟩ := by rw [hD]
                replace H := Lib.hid (H.out.turn 3 rfl (rPk D) (by rw [hDr]; exact holds_pk (H.out.get 3 rfl) (by unfold I64; omega) (by unfold I64; omega) (by omega) (by omega) (by intro x hx; cases hx) (Nat.zero_le _) (by unfold I64; omega)) (by rw [hD]; exact fun g hg => hg)); (try simp only [List.set_cons_zero, List.set_cons_succ, List.cons_append, List.nil_append, List.eraseIdx_cons_zero, List.eraseIdx_cons_succ, List.setIfInBounds_toArray, World.size_alloc, selR, List.getD_cons_zero, List.getD_cons_succ] at H)
                rw [← hDs] at H
                have HN : Hid (ppick l = .ok (D.con, l9)) := by show _ = _; rw [HO.out, hDc]; unfold ppA; simp only; rw [hx9]; simp only; rw [if_pos (by omega), decide_eq_true (by omega)]; (try rfl)
                clear hD hDs hDc hDr hx9 HO
                go_wp2_with (first | ((with_reducible show wpList _ _ _ (⟨some 38, _, _, _, _, _⟩ :: _) _ _); (refine wpList_load_blk rfl rowPk (.tmp 3) rfl _ rfl (H.out.blk 2 rfl) rfl ?_)) | ((with_reducible show wpList _ _ _ (⟨_, .store _ (.tmp 2) _, _, _, _, _⟩ :: _) _ _); (refine wpList_store_blk rfl rowPk (.tmp 2) (.tmp 38) rfl _ rfl (H.out.blk 1 rfl) rfl (D.cs) rfl rfl (pk_one D) ?_; intro wq bq hgq; replace H := Lib.hid (H.out.setBlk 1 rfl hgq bq); (try simp only [List.set_cons_zero, List.set_cons_succ, List.cons_append, List.nil_append, List.eraseIdx_cons_zero, List.eraseIdx_cons_succ, List.setIfInBounds_toArray, World.size_alloc, selR, List.getD_cons_zero, List.getD_cons_succ] at H); clear hgq bq)))
                refine bodyPost_ret (results_blk1 rfl rowPk rfl (H.out.blk 1 rfl) rfl) rfl ?_
                rw [HN.out]
                exact ⟨D, rfl, rfl, H.out.fr.grown, H.out.rdr 0 rfl, H.out.get 3 rfl, H.out.new1 3 0 (by omega) rfl rfl rfl⟩
    · obtain rfl : fi = 2 := by omega
      have HO0 : Hid (ppick l = ppA 2 (ppS r0)) := by show _ = _; rw [HP.out]; rfl
      clear HP
      have cc0 := (H.out.blk 2 rfl).cell 0; simp only [List.getElem?_toArray, List.getElem?_cons_zero, List.getElem?_cons_succ] at cc0
      have cc1 := (H.out.blk 2 rfl).cell 1; simp only [List.getElem?_toArray, List.getElem?_cons_zero, List.getElem?_cons_succ] at cc1; have fc1 := (H.out.blk 2 rfl).frozen 1
      go_wp2_with fail
      have HT := Lib.hid (fun w (hr : Rdr w b s r0) => num_any b s r0 3 w hr (by omega) (by omega))
      cases hx : pnum 3 r0 with
      | error e1 =>
        have HE : Hid (ppick l = .error e1) := by show _ = _; rw [HO0.out]; unfold ppS; rw [hx]; (try rfl)
        rw [hx] at HT
        clear hx
        refine (HT.out _ (H.out.rdr 0 rfl)).mono ?_; rintro e w2 ⟨rfl, hg, l3, hr⟩
        replace H := Lib.hid (H.out.setRdr 0 rfl hg hr); (try simp only [List.set_cons_zero, List.set_cons_succ, List.cons_append, List.nil_append, List.eraseIdx_cons_zero, List.eraseIdx_cons_succ, List.setIfInBounds_toArray, World.size_alloc, selR, List.getD_cons_zero, List.getD_cons_succ] at H)
        clear hg hr
        go_wp2_with fail
        refine ⟨rfl, ?_⟩
        rw [HE.out]
        exact ⟨rfl, H.out.fr.grown, l3, H.out.rdr 0 rfl⟩
      | ok q =>
        obtain ⟨t, r2⟩ := q
        have ht3 := (pnum_ok hx).2.1
        rw [hx] at HT
        have HO1 : Hid (ppS r0 = (match tread 200 r2 with | .error k => .error k | .ok (set, r2) => .ok (((t : Int), [], [], set), r2))) := by show _ = _; unfold ppS; rw [hx]; (try rfl)
        refine (HT.out _ (H.out.rdr 0 rfl)).mono ?_; rintro e w2 ⟨rfl, hg, hr⟩
        replace H := Lib.hid (H.out.setRdr 0 rfl hg hr); (try simp only [List.set_cons_zero, List.set_cons_succ, List.cons_append, List.nil_append, List.eraseIdx_cons_zero, List.eraseIdx_cons_succ, List.setIfInBounds_toArray, World.size_alloc, selR, List.getD_cons_zero, List.getD_cons_succ] at H)
        clear hg hr hx HT cc0 cc1 fc1
        have cc1 := (H.out.blk 2 rfl).cell 1; simp only [List.getElem?_toArray, List.getElem?_cons_zero, List.getElem?_cons_succ] at cc1; have fc1 := (H.out.blk 2 rfl).frozen 1
        go_wp2_with fail
        replace H := Lib.hid (H.out.setCell 2 rfl 1 (.int .i64 (t : Nat))); (try simp only [List.set_cons_zero, List.set_cons_succ, List.cons_append, List.nil_append, List.eraseIdx_cons_zero, List.eraseIdx_cons_succ, List.setIfInBounds_toArray, World.size_alloc, selR, List.getD_cons_zero, List.getD_cons_succ] at H)
        clear cc1 fc1
        have cc4 := (H.out.blk 2 rfl).cell 4; simp only [List.getElem?_toArray, List.getElem?_cons_zero, List.getElem?_cons_succ] at cc4; have fc4 := (H.out.blk 2 rfl).frozen 4
        have HT := Lib.hid (fun w (hr : Rdr w b s r2) => tread_any b s r2 200 w hr (by omega) (by omega))
        cases hx : tread 200 r2 with
        | error e1 =>
          have HE : Hid (ppick l = .error e1) := by show _ = _; rw [HO0.out, HO1.out, hx]; (try rfl)
          rw [hx] at HT
          clear hx
          refine (HT.out _ (H.out.rdr 0 rfl)).mono ?_; rintro e w2 ⟨rfl, hg, l3, hr⟩
          replace H := Lib.hid (H.out.setRdr 0 rfl hg hr); (try simp only [List.set_cons_zero, List.set_cons_succ, List.cons_append, List.nil_append, List.eraseIdx_cons_zero, List.eraseIdx_cons_succ, List.setIfInBounds_toArray, World.size_alloc, selR, List.getD_cons_zero, List.getD_cons_succ] at H)
          clear hg hr
          go_wp2_with fail
          refine ⟨rfl, ?_⟩
          rw [HE.out]
          exact ⟨rfl, H.out.fr.grown, l3, H.out.rdr 0 rfl⟩
        | ok q =>
          obtain ⟨set, r1⟩ := q
          have hsn : set.length ≤ 200 := by have := tread_len hx; omega
          have HSL : Hid (∀ x ∈ set, x.length ≤ 16) := fun x hx' => rowErr_len (tread_back hx).1 hx'
          have HO : Hid (ppick l = ppA 2 (.ok (((t : Int), [], [], set), r1))) := by show _ = _; rw [HO0.out, HO1.out, hx]; (try rfl)
          rw [hx] at HT
          refine (HT.out _ (H.out.rdr 0 rfl)).mono ?_; rintro e w3 ⟨v, rfl, hxx⟩
          obtain ⟨SA, SC, rfl, _⟩ := own_slice hxx.own
          replace H := Lib.hid (H.out.setRdrAdd 0 rfl hxx.g hxx.r (rRow 9 1 (.slice SA set.length SC) set.length (set.map tx)) (holds_row hxx.own) (fun g hg => own_ge hxx.own hg)); (try simp only [List.set_cons_zero, List.set_cons_succ, List.cons_append, List.nil_append, List.eraseIdx_cons_zero, List.eraseIdx_cons_succ, List.setIfInBounds_toArray, World.size_alloc, selR, List.getD_cons_zero, List.getD_cons_succ] at H)
          clear hx hxx HT cc4 fc4 HO0 HO1
          have cc4 := (H.out.blk 2 rfl).cell 4; simp only [List.getElem?_toArray, List.getElem?_cons_zero, List.getElem?_cons_succ] at cc4; have fc4 := (H.out.blk 2 rfl).frozen 4
          go_wp2_with fail
          replace H := Lib.hid (H.out.setCell 2 rfl 4 (.slice SA set.length SC)); (try simp only [List.set_cons_zero, List.set_cons_succ, List.cons_append, List.nil_append, List.eraseIdx_cons_zero, List.eraseIdx_cons_succ, List.setIfInBounds_toArray, World.size_alloc, selR, List.getD_cons_zero, List.getD_cons_succ] at H)
          clear cc4 fc4
          have HT := Lib.hid (fun w (hr : Rdr w b s r1) => num_any b s r1 4 w hr (by omega) (by omega))
          cases hx9 : pnum 4 r1 with
          | error e1 =>
            have HE : Hid (ppick l = .error e1) := by show _ = _; rw [HO.out]; unfold ppA; simp only; rw [hx9]
            rw [hx9] at HT
            clear hx9
            refine (HT.out _ (H.out.rdr 0 rfl)).mono ?_; rintro e w2 ⟨rfl, hg, l3, hr⟩
            replace H := Lib.hid (H.out.setRdr 0 rfl hg hr); (try simp only [List.set_cons_zero, List.set_cons_succ, List.cons_append, List.nil_append, List.eraseIdx_cons_zero, List.eraseIdx_cons_succ, List.setIfInBounds_toArray, World.size_alloc, selR, List.getD_cons_zero, List.getD_cons_succ] at H)
            clear hg hr
            go_wp2_with fail
            refine ⟨rfl, ?_⟩
            rw [HE.out]
            exact ⟨rfl, H.out.fr.grown, l3, H.out.rdr 0 rfl⟩
          | ok q =>
            obtain ⟨bn, l9⟩ := q
            have hbn := (pnum_ok hx9).2.1
            rw [hx9] at HT
            refine (HT.out _ (H.out.rdr 0 rfl)).mono ?_; rintro e w7 ⟨rfl, hg, hr⟩
            replace H := Lib.hid (H.out.setRdr 0 rfl hg hr); (try simp only [List.set_cons_zero, List.set_cons_succ, List.cons_append, List.nil_append, List.eraseIdx_cons_zero, List.eraseIdx_cons_succ, List.setIfInBounds_toArray, World.size_alloc, selR, List.getD_cons_zero, List.getD_cons_succ] at H)
            clear hg hr HT
            by_cases hb0 : bn = 0
            · subst hb0
              have wz : IntKind.i64.wrap ((0 : Int) - 1) = -1 := rfl
              have mz : max (-1 : Int) 0 = 0 := rfl
              have cc5 := (H.out.blk 2 rfl).cell 5; simp only [List.getElem?_toArray, List.getElem?_cons_zero, List.getElem?_cons_succ] at cc5; have fc5 := (H.out.blk 2 rfl).frozen 5
              have cc6 := (H.out.blk 2 rfl).cell 6; simp only [List.getElem?_toArray, List.getElem?_cons_zero, List.getElem?_cons_succ] at cc6; have fc6 := (H.out.blk 2 rfl).frozen 6
              go_upto_region 12 with fail
              replace H := Lib.hid (H.out.setCell 2 rfl 5 (.bool false)); (try simp only [List.set_cons_zero, List.set_cons_succ, List.cons_append, List.nil_append, List.eraseIdx_cons_zero, List.eraseIdx_cons_succ, List.setIfInBounds_toArray, World.size_alloc, selR, List.getD_cons_zero, List.getD_cons_succ] at H)
              replace H := Lib.hid (H.out.setCell 2 rfl 6 (.int .i64 0)); (try simp only [List.set_cons_zero, List.set_cons_succ, List.cons_append, List.nil_append, List.eraseIdx_cons_zero, List.eraseIdx_cons_succ, List.setIfInBounds_toArray, World.size_alloc, selR, List.getD_cons_zero, List.getD_cons_succ] at H)
              clear cc5 cc6 fc5 fc6
              obtain ⟨D, hD⟩ : ∃ D : Pk, D = ⟨2, t, [], [], ⟨SA, set.length, SC, set⟩, false, 0⟩ := ⟨_, rfl⟩
              have hDs : D.cs = #[.int .i64 2, .int .i64 t, .string ⟨#[]⟩, .string ⟨#[]⟩, .slice SA set.length SC, .bool false, .int .i64 0] := by rw [hD]
              have hDc : D.con = ⟨2, t, [], [], set, false, 0⟩ := by rw [hD]
              have hDr : rPk D = rPk ⟨2, t, [], [], ⟨SA, set.length, SC, set⟩, false, 0⟩ := by rw [hD]
              replace H := Lib.hid (H.out.turn 3 rfl (rPk D) (by rw [hDr]; exact holds_pk (H.out.get 3 rfl) (by unfold I64; omega) (by unfold I64; omega) (Nat.zero_le _) (Nat.zero_le _) HSL.out hsn (by unfold I64; omega)) (by rw [hD]; exact fun g hg => hg)); (try simp only [List.set_cons_zero, List.set_cons_succ, List.cons_append, List.nil_append, List.eraseIdx_cons_zero, List.eraseIdx_cons_succ, List.setIfInBounds_toArray, World.size_alloc, selR, List.getD_cons_zero, List.getD_cons_succ] at H)
              rw [← hDs] at H
              have HN : Hid (ppick l = .ok (D.con, l9)) := by show _ = _; rw [HO.out, hDc]; unfold ppA; simp only; rw [hx9]; rfl
              clear hD hDs hDc hDr hx9 HO
              go_wp2_with (first | ((with_reducible show wpList _ _ _ (⟨some 38, _, _, _, _, _⟩ :: _) _ _); (refine wpList_load_blk rfl rowPk (.tmp 3) rfl _ rfl (H.out.blk 2 rfl) rfl ?_)) | ((with_reducible show wpList _ _ _ (⟨_, .store _ (.tmp 2) _, _, _, _, _⟩ :: _) _ _); (refine wpList_store_blk rfl rowPk (.tmp 2) (.tmp 38) rfl _ rfl (H.out.blk 1 rfl) rfl (D.cs) rfl rfl (pk_one D) ?_; intro wq bq hgq; replace H := Lib.hid (H.out.setBlk 1 rfl hgq bq); (try simp only [List.set_cons_zero, List.set_cons_succ, List.cons_append, List.nil_append, List.eraseIdx_cons_zero, List.eraseIdx_cons_succ, List.setIfInBounds_toArray, World.size_alloc, selR, List.getD_cons_zero, List.getD_cons_succ] at H); clear hgq bq)))
              refine bodyPost_ret (results_blk1 rfl rowPk rfl (H.out.blk 1 rfl) rfl) rfl ?_
              rw [HN.out]
              exact ⟨D, rfl, rfl, H.out.fr.grown, H.out.rdr 0 rfl, H.out.get 3 rfl, H.out.new1 3 0 (by omega) rfl rfl rfl⟩
            · have d1 : decide ((0 : Int) < (bn : Int)) = true := by simp <;> omega
              have d2 : decide (0 < bn) = true := by simp <;> omega
              have wz : IntKind.i64.wrap ((bn : Int) - 1) = (bn : Int) - 1 := IntWalk.i64_in _ (by omega)
              have mz : max ((bn : Int) - 1) 0 = (bn : Int) - 1 := by omega
              have cc5 := (H.out.blk 2 rfl).cell 5; simp only [List.getElem?_toArray, List.getElem?_cons_zero, List.getElem?_cons_succ] at cc5; have fc5 := (H.out.blk 2 rfl).frozen 5
              have cc6 := (H.out.blk 2 rfl).cell 6; simp only [List.getElem?_toArray, List.getElem?_cons_zero, List.getElem?_cons_succ] at cc6; have fc6 := (H.out.blk 2 rfl).frozen 6
              go_upto_region 12 with fail
              replace H := Lib.hid (H.out.setCell 2 rfl 5 (.bool true)); (try simp only [List.set_cons_zero, List.set_cons_succ, List.cons_append, List.nil_append, List.eraseIdx_cons_zero, List.eraseIdx_cons_succ, List.setIfInBounds_toArray, World.size_alloc, selR, List.getD_cons_zero, List.getD_cons_succ] at H)
              replace H := Lib.hid (H.out.setCell 2 rfl 6 (.int .i64 ((bn : Int) - 1))); (try simp only [List.set_cons_zero, List.set_cons_succ, List.cons_append, List.nil_append, List.eraseIdx_cons_zero, List.eraseIdx_cons_succ, List.setIfInBounds_toArray, World.size_alloc, selR, List.getD_cons_zero, List.getD_cons_succ] at H)
              clear cc5 cc6 fc5 fc6
              obtain ⟨D, hD⟩ : ∃ D : Pk, D = ⟨2, t, [], [], ⟨SA, set.length, SC, set⟩, true, ((bn : Int) - 1)⟩ := ⟨_, rfl⟩
              have hDs : D.cs = #[.int .i64 2, .int .i64 t, .string ⟨#[]⟩, .string ⟨#[]⟩, .slice SA set.length SC, .bool true, .int .i64 ((bn : Int) - 1)] := by rw [hD]
              have hDc : D.con = ⟨2, t, [], [], set, true, ((bn : Int) - 1)⟩ := by rw [hD]
              have hDr : rPk D = rPk ⟨2, t, [], [], ⟨SA, set.length, SC, set⟩, true, ((bn : Int) - 1)⟩ := by rw [hD]
              replace H := Lib.hid (H.out.turn 3 rfl (rPk D) (by rw [hDr]; exact holds_pk (H.out.get 3 rfl) (by unfold I64; omega) (by unfold I64; omega) (Nat.zero_le _) (Nat.zero_le _) HSL.out hsn (by unfold I64; omega)) (by rw [hD]; exact fun g hg => hg)); (try simp only [List.set_cons_zero, List.set_cons_succ, List.cons_append, List.nil_append, List.eraseIdx_cons_zero, List.eraseIdx_cons_succ, List.setIfInBounds_toArray, World.size_alloc, selR, List.getD_cons_zero, List.getD_cons_succ] at H)
              rw [← hDs] at H
              have HN : Hid (ppick l = .ok (D.con, l9)) := by show _ = _; rw [HO.out, hDc]; unfold ppA; simp only; rw [hx9]; simp only; rw [if_pos (by omega), decide_eq_true (by omega)]; (try rfl)
              clear hD hDs hDc hDr hx9 HO
              go_wp2_with (first | ((with_reducible show wpList _ _ _ (⟨some 38, _, _, _, _, _⟩ :: _) _ _); (refine wpList_load_blk rfl rowPk (.tmp 3) rfl _ rfl (H.out.blk 2 rfl) rfl ?_)) | ((with_reducible show wpList _ _ _ (⟨_, .store _ (.tmp 2) _, _, _, _, _⟩ :: _) _ _); (refine wpList_store_blk rfl rowPk (.tmp 2) (.tmp 38) rfl _ rfl (H.out.blk 1 rfl) rfl (D.cs) rfl rfl (pk_one D) ?_; intro wq bq hgq; replace H := Lib.hid (H.out.setBlk 1 rfl hgq bq); (try simp only [List.set_cons_zero, List.set_cons_succ, List.cons_append, List.nil_append, List.eraseIdx_cons_zero, List.eraseIdx_cons_succ, List.setIfInBounds_toArray, World.size_alloc, selR, List.getD_cons_zero, List.getD_cons_succ] at H); clear hgq bq)))
              refine bodyPost_ret (results_blk1 rfl rowPk rfl (H.out.blk 1 rfl) rfl) rfl ?_
              rw [HN.out]
              exact ⟨D, rfl, rfl, H.out.fr.grown, H.out.rdr 0 rfl, H.out.get 3 rfl, H.out.new1 3 0 (by omega) rfl rfl rfl⟩

end Go.Proofs.Ytigjghfonpfdlaa
