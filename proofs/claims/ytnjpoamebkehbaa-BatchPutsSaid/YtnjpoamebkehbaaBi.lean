/- Texts laid together: XBatF XBatG. -/
import Derived.Test.YtnjpoamebkehbaaBatX
import Derived.Test.YtnjpoamebkehbaaBatT
import Derived.Test.YtnjpoamebkehbaaFactD
import Derived.Test.YtnjpoamebkehbaaAggQ

namespace Go.Proofs.Ytnjpoamebkehbaa
open Go.RowKit
set_option linter.unusedVariables false
set_option linter.unusedSimpArgs false

section
variable {P : Program}
/-- A struct built of two fields. -/
theorem wpList_build2 {ops : Array Oper} {rest : List Oper} {o : Oper} {a : Act} {w : World} {Q : Exit → Act → World → Prop} (hgd : o.guard = none) {t : TypeId} (x y : Operand) {i j : Nat} (ho : o.op = .build t #[(i, x), (j, y)])
    {vx vy v : Value} (hx : a.eval x = vx) (hy : a.eval y = vy) (hr : ∀ w, (Instr.build t #[(i, vx), (j, vy)]).run P w = .ok v w)
    (h : wpList P ops Q rest (a.put o.dst v) w) : wpList P ops Q (o :: rest) a w := by
  refine wpList_plain hgd fun K hK => ?_
  unfold Oper.wp execOp
  simp only [ho, List.map_toArray, List.map_cons, List.map_nil, hx, hy, Sem.run_bind, hr, Result.andThen_ok, Sem.run_pure]
  exact hK _ _ h
end
/-- A row's fact. -/
def facOf (s : SC) (r : RC) : List Int × Ag := ((match rowOf s r with | .ok ks => ks | .error _ => []), Ag.of r.vs)
theorem rowKeys_i64 {ds : List DC} : ∀ {ts : List (List UInt8)} {ks : List Int}, (∀ d ∈ ds, ∀ tr ∈ d.trs, tr.ts.length ≤ 200) → rowKeys ds ts = .ok ks → (∀ k ∈ ks, I64 k) ∧ ks.length ≤ ds.length := by
  induction ds with
  | nil => intro ts ks _ h; cases ts <;> (simp only [rowKeys] at h; injection h with h; subst h; exact ⟨(fun k hk => by cases hk), by simp⟩)
  | cons d ds ih =>
    intro ts ks hd h
    cases ts with
    | nil => simp only [rowKeys] at h; injection h with h; subst h; exact ⟨(fun k hk => by cases hk), by simp⟩
    | cons a r =>
      rw [rowKeys] at h
      split at h
      · cases h
      · rename_i tr rest htr
        split at h
        · cases h
        · rename_i k hp
          split at h
          · cases h
          · rename_i ks' hk
            obtain ⟨h1, h2⟩ := ih (fun d' hd' => hd d' (List.mem_cons_of_mem _ hd')) hk
            injection h with h
            subst h
            refine ⟨fun z hz => ?_, by simp; omega⟩
            rcases List.mem_cons.1 hz with rfl | hz
            · have h3 := posOf_lt hp
              have h4 := hd d (List.mem_cons_self ..) tr (by rw [htr]; exact List.mem_cons_self ..)
              unfold I64
              omega
            · exact h1 z hz
theorem rowOf_keys {s : SC} {r : RC} {ks : List Int} (hE : schErr s = 0) (h : rowOf s r = .ok ks) : (∀ k ∈ ks, I64 k) ∧ ks.length ≤ 16 := by
  obtain ⟨_, h2, h3, _, _, _⟩ := schErr_zero hE
  unfold rowOf at h
  split at h
  · cases h
  · obtain ⟨a, b⟩ := rowKeys_i64 (fun d hd tr htr => (dim_terms (h3 d hd) tr htr).2) h
    exact ⟨a, by omega⟩
theorem own_ok {α : Type} [Cel α] {w : World} {base : Nat} {e : TypeId} {x : Row α} (h : w.ownsRow base e (Cel.size α) (.slice x.A x.n x.c) x.n (x.l.flatMap Cel.cells)) (ha : ∀ a ∈ x.l, Cel.ok w a) (hz : x.n * Cel.bytes α ≤ 140737488351232) : x.ok w := by
  refine ⟨Rd.of_own h, ha, ?_, ?_, hz⟩
  · rcases h.2 with ⟨h0, h1⟩ | ⟨g', cap, cur, hv, hb, hh, hn, hm, hs, hx⟩
    · omega
    · injection hv with _ _ hv; omega
  · rcases h.2 with ⟨h0, h1⟩ | ⟨g', cap, cur, hv, hb, hh, hn, hm, hs, hx⟩
    · injection h0 with _ _ h0; omega
    · injection hv with _ _ hv; omega
theorem fct_ones (f : Fct) : ∀ u ∈ f.cs.toList, u.oneCell' = true := fun u hu => Array.all_eq_true_iff_forall_mem.1 (fct_one f) u (by simpa using hu)
abbrev rFk (f : Fct) : Res := ⟨(rRow 3 1 (.slice f.ks.A f.ks.n f.ks.c) f.ks.n (f.ks.l.map (Value.int .i64))).D, fun w => f.ok w⟩
theorem holds_fk {KA : Option Addr} {kd : Nat} {ks vs : List Int} {f : Fct} {w : World} (hf : f = ⟨⟨KA, ks.length, kd, ks⟩, Ag.of vs⟩) (h : (rRow 3 1 (.slice KA ks.length kd) ks.length (ks.map (Value.int .i64))).holds w) (hk : (∀ k ∈ ks, I64 k) ∧ ks.length ≤ 16) (ha : (Ag.of vs).ok) : (rFk f).holds w := by
  subst hf
  refine ⟨h.1, fun w' hs hkp => ⟨own_ok (e := 3) (base := 0) ?_ (fun k hk' => hk.1 k hk') ?_, ha⟩⟩
  · have := h.2 w' hs hkp
    rw [flat_ints]
    exact this
  · show ks.length * 8 ≤ _
    omega
theorem fk_D {KA : Option Addr} {kd : Nat} {ks vs : List Int} {f : Fct} (hf : f = ⟨⟨KA, ks.length, kd, ks⟩, Ag.of vs⟩) : ∀ g, (rFk f).D g → (rRow 3 1 (.slice KA ks.length kd) ks.length (ks.map (Value.int .i64))).D g := by
  subst hf
  exact fun g hg => hg
abbrev rFac (X : Row Fct) : Res := ⟨fun g => (rRow 172 11 (.slice X.A X.n X.c) X.n (X.l.flatMap Cel.cells)).D g ∨ (rList rFk X.l).D g, fun w => X.ok w ∧ X.n ≤ 300⟩
theorem holds_fac {X : Row Fct} {w : World} (h1 : (rRow 172 11 (.slice X.A X.n X.c) X.n (X.l.flatMap Cel.cells)).holds w) (h2 : (rList rFk X.l).holds w) (h3 : X.n ≤ 300) : (rFac X).holds w :=
  ⟨fun g hg => hg.elim (h1.1 g) (h2.1 g), fun w' hs hk => ⟨own_ok (base := 0) (e := 172) (h1.2 w' hs fun g hg => hk g (.inl hg)) (fun r hr => h2.2 w' hs (fun g hg => hk g (.inr hg)) r hr) (by show X.n * 104 ≤ _; omega), h3⟩⟩
/-- What the facts of a batch that may be are. -/
def FacPost (s : SC) (rows : List RC) (V : Row Fct → Value) (w : World) (e : Ending) (w' : World) : Prop := ∃ X : Row Fct, e = .returned (V X) ∧ X.n = rows.length ∧ X.l.map Fct.con = rows.map (facOf s) ∧ Bel w w' ∧ NewR w w' (rFac X)

set_option maxRecDepth 100000 in
set_option maxHeartbeats 2000000 in
theorem batfacts_any (s : Sch) (x : Row Rw) (w : World) (hs : s.rd w) (hx : x.rd w) (hn : s.dm.n ≤ 1000000) (hm : s.ms.n ≤ 1000000) (hd : ∀ d ∈ s.dm.l, d.tr.n ≤ 1000000 ∧ ∀ t ∈ d.tr.l, t.up.n ≤ 100000) (hE : batErr s.con (x.l.map Rw.con) = 0) :
    Calls Try.prog 61 #[.agg s.cs, .slice x.A x.n x.c] w (FacPost s.con (x.l.map Rw.con) (fun X => .tuple #[.slice X.A X.n X.c, .int .i64 0]) w) := by
  have HC := Lib.hid (fun w' (hb : Bel w w') => batcheck_any s x w' (hs.mono hb) (hx.mono hb) hn hm hd)
  have HE := Lib.hid (batErr_zero hE).1
  have HOK := Lib.hid (batErr_zero hE).2.2
  have hn300 : x.n ≤ 300 := by have h1 := (batErr_zero hE).2.1; have h2 : x.l.length = x.n := hx.len; simp at h1; omega
  rw [hE] at HC
  have HR := Lib.hid (fun r w' (hr : Rw.rd w' r) (hb : Bel w w') => schrow_any s r w' (hs.mono hb) hr hn (sch_rise hs HE.out))
  have hlen : Hid (x.l.length = x.n) := hx.len
  have HX := Lib.hid hx
  have n63 := hx.n63
  have H := Lib.hid ((SL.start No w).alloc s.cs 70)
  (try simp only [List.set_cons_zero, List.set_cons_succ, List.cons_append, List.nil_append, List.eraseIdx_cons_zero, List.eraseIdx_cons_succ, List.setIfInBounds_toArray, World.size_alloc, selR, List.getD_cons_zero, List.getD_cons_succ] at H)
  obtain ⟨A, n, c, rows⟩ := x
  simp only at *
  have hcs : s.cs = #[.slice s.dm.A s.dm.n s.dm.c, .slice s.ms.A s.ms.n s.ms.c] := rfl
  have HCS := Lib.hid hcs
  clear hs hx hd hcs hE
  have HR2 : Hid True := trivial
  go_enter Try.func61, Try.ntmps61
  rw [← HCS.out] at *
  go_wp2_with ((with_reducible show wpList _ _ _ (⟨some 14, _, _, _, _, _⟩ :: _) _ _); (refine wpList_load_blk rfl rowSch (.tmp 2) rfl _ rfl (H.out.blk 0 rfl) rfl ?_))
  refine (HC.out _ H.out.to).mono ?_; rintro e w1 ⟨rfl, hb1⟩
  replace H := Lib.hid (H.out.bel hb1); (try simp only [List.set_cons_zero, List.set_cons_succ, List.cons_append, List.nil_append, List.eraseIdx_cons_zero, List.eraseIdx_cons_succ, List.setIfInBounds_toArray, World.size_alloc, selR, List.getD_cons_zero, List.getD_cons_succ] at H)
  clear hb1 HC
  generalize w.heap.size = x at *
  go_wp2_with fail
  replace H := Lib.hid (H.out.addNil 172 11); (try simp only [List.set_cons_zero, List.set_cons_succ, List.cons_append, List.nil_append, List.eraseIdx_cons_zero, List.eraseIdx_cons_succ, List.setIfInBounds_toArray, World.size_alloc, selR, List.getD_cons_zero, List.getD_cons_succ] at H)
  replace H := Lib.hid (H.out.add (Bel.refl _) (rList rFk []) (holds_list_nil _ _) list_nil_D); (try simp only [List.set_cons_zero, List.set_cons_succ, List.cons_append, List.nil_append, List.eraseIdx_cons_zero, List.eraseIdx_cons_succ, List.setIfInBounds_toArray, World.size_alloc, selR, List.getD_cons_zero, List.getD_cons_succ] at H)
  have HL : Hid (([] : List Fct).map Fct.con = ((rows.map Rw.con).take 0).map (facOf s.con)) := rfl
  go_loopg [7, 22] n (fun gg s7 si wr => ∃ (k : Nat) (B : Option Addr) (c : Nat) (fs : List Fct), gg = n - k ∧ k ≤ n ∧ si = .int .i64 k ∧ s7 = .slice B k c ∧ Hid (SL No w wr [rBlk x 70 s.cs, rRow 172 11 (.slice B k c) k (fs.flatMap Cel.cells), rList rFk fs]) ∧ Hid (fs.map Fct.con = ((rows.map Rw.con).take k).map (facOf s.con)))
  case atStart => exact ⟨0, none, 0, [], rfl, by omega, rfl, rfl, H, HL⟩
  case round =>
    clear H HL
    obtain ⟨k, B, c, fs, hgk, hk, rfl, rfl, H, HL⟩ := hrel
    have Hgk := Lib.hid hgk
    clear hgk
    by_cases hlt : k < n
    · obtain ⟨bb, oo, r, hA, hbb, hrk, hrr, hrg⟩ := (HX.out.mono H.out.to).rwAt (k := k) hlt
      simp only at hA
      subst hA
      have hrc : (rows.map Rw.con)[k]? = some r.con := by rw [List.getElem?_map, hrk]; rfl
      obtain ⟨ks, hks⟩ := HOK.out r.con (List.mem_of_getElem? hrc)
      have HFC : Hid (facOf s.con r.con = (ks, Ag.of r.vs.l)) := by show _ = _; unfold facOf; rw [hks]
      obtain ⟨_, hvl, _⟩ := row_small HE.out hks
      have hv3 : r.vs.n ≤ 3 := by have h1 : r.vs.l.length = r.vs.n := hrr.vs.len; have h2 : r.vs.l.length ≤ 3 := hvl; omega
      have hkeys := rowOf_keys HE.out hks
      have HKeys := Lib.hid hkeys
      have hagok : (Ag.of r.vs.l).ok := of_ok (fun z hz => hrr.vs.all z hz)
      have HAg := Lib.hid hagok
      have HTK := Lib.hid (take_snoc_get hrc)
      have HRg := Lib.hid hrg
      have HRr := Lib.hid hrr
      have HVS := Lib.hid (fun w' (hb : Bel wr w') => (hrr.mono hb).vs.ints)
      clear hrk hrr hrg hrc hbb hvl hkeys hagok
      obtain ⟨W0, hW0⟩ : ∃ W0, W0 = wr := ⟨_, rfl⟩
      subst hW0
      have HB : Hid (Bel W0 W0) := Bel.refl _
      go_wp2_with (first | ((with_reducible show wpList _ _ _ (⟨some 25, _, _, _, _, _⟩ :: _) _ _); (refine wpList_load_row_at rfl rowRw (.tmp 24) rfl bb (oo + k * 2) rfl r.cs rfl HRg.out ?_)) | ((with_reducible show wpList _ _ _ (⟨_, .store _ (.tmp 9) _, _, _, _, _⟩ :: _) _ _); (refine wpList_store_new rfl rowRw (.tmp 9) (.tmp 25) rfl rfl rfl (r.cs) rfl rfl (rw_one r) ?_; replace H := Lib.hid (H.out.alloc (r.cs) 88); (try simp only [List.set_cons_zero, List.set_cons_succ, List.cons_append, List.nil_append, List.eraseIdx_cons_zero, List.eraseIdx_cons_succ, List.setIfInBounds_toArray, World.size_alloc, selR, List.getD_cons_zero, List.getD_cons_succ] at H); replace HB := Lib.hid (HB.out.alloc (.cells r.cs 88)))) | ((with_reducible show wpList _ _ _ (⟨some 27, _, _, _, _, _⟩ :: _) _ _); (refine wpList_load_blk rfl rowSch (.tmp 2) rfl _ rfl (H.out.blk 0 rfl) rfl ?_)) | ((with_reducible show wpList _ _ _ (⟨some 28, _, _, _, _, _⟩ :: _) _ _); (refine wpList_load_blk rfl rowRw (.tmp 9) rfl _ rfl (H.out.blk 3 rfl) rfl ?_)))
      have HRo := Lib.hid (HR.out r _ (HRr.out.mono HB.out) H.out.to)
      rw [hks] at HRo
      refine HRo.out.mono ?_; rintro e w2 ⟨KA, kd, rfl, hb2, hown⟩
      replace H := Lib.hid (H.out.addRow hb2 hown); (try simp only [List.set_cons_zero, List.set_cons_succ, List.cons_append, List.nil_append, List.eraseIdx_cons_zero, List.eraseIdx_cons_succ, List.setIfInBounds_toArray, World.size_alloc, selR, List.getD_cons_zero, List.getD_cons_succ] at H)
      replace HB := Lib.hid (HB.out.trans hb2)
      clear hb2 hown HRo HR2
      have c1 := (H.out.blk 3 rfl).cell 1; simp only [List.getElem?_toArray, List.getElem?_cons_zero, List.getElem?_cons_succ] at c1
      obtain ⟨f, hf⟩ : ∃ f : Fct, f = ⟨⟨KA, ks.length, kd, ks⟩, Ag.of r.vs.l⟩ := ⟨_, rfl⟩
      have Hbf : Hid (∀ w : World, (Instr.build 172 #[(0, .slice KA ks.length kd), (1, .agg (Ag.of r.vs.l).cs)]).run Try.prog w = .ok (.agg f.cs) w) := by show ∀ w, _; rw [hf]; exact build_fct ⟨KA, ks.length, kd, ks⟩ (Ag.of r.vs.l)
      have HF := Lib.hid hf
      clear hf
      go_wp2_with fail
      refine (of_any _ _ _ _ _ (HVS.out _ HB.out) hv3).mono ?_; rintro e w7 ⟨rfl, hb7⟩
      replace H := Lib.hid (H.out.bel hb7); (try simp only [List.set_cons_zero, List.set_cons_succ, List.cons_append, List.nil_append, List.eraseIdx_cons_zero, List.eraseIdx_cons_succ, List.setIfInBounds_toArray, World.size_alloc, selR, List.getD_cons_zero, List.getD_cons_succ] at H)
      clear hb7 c1
      go_upto_region 10 with ((with_reducible show wpList _ _ _ (⟨_, .store _ (.tmp 12) _, _, _, _, _⟩ :: _) _ _); (refine wpList_store_new rfl rowAg (.tmp 12) (.tmp 36) rfl rfl rfl ((Ag.of r.vs.l).cs) rfl rfl (ag_one _) ?_; replace H := Lib.hid (H.out.alloc ((Ag.of r.vs.l).cs) 168); (try simp only [List.set_cons_zero, List.set_cons_succ, List.cons_append, List.nil_append, List.eraseIdx_cons_zero, List.eraseIdx_cons_succ, List.setIfInBounds_toArray, World.size_alloc, selR, List.getD_cons_zero, List.getD_cons_succ] at H)))
      generalize w7.heap.size = u9 at *
      generalize w7.alloc (.cells (Ag.of r.vs.l).cs 168) = w8 at *
      go_wp2_with (first | ((with_reducible show wpList _ _ _ (⟨some 40, _, _, _, _, _⟩ :: _) _ _); (refine wpList_load_blk rfl rowAg (.tmp 12) rfl _ rfl (H.out.blk 5 rfl) rfl ?_)) | ((with_reducible show wpList _ _ _ (⟨some 41, _, _, _, _, _⟩ :: _) _ _); refine wpList_build2 (vx := .slice KA ks.length kd) (vy := .agg (Ag.of r.vs.l).cs) (v := .agg f.cs) rfl (.tmp 39) (.tmp 40) rfl rfl rfl (Hbf.out) ?_) | ((with_reducible show wpList _ _ _ (⟨some 42, _, _, _, _, _⟩ :: _) _ _); (refine wpList_buildSlice1 rfl E_fct (.tmp 41) rfl (f.cs) rfl (fct_size f) (by omega) ?_; replace H := Lib.hid (H.out.addRow ((Bel.refl _).alloc _) (own_made _ 172 (f.cs) 11 (fct_size f))); (try simp only [List.set_cons_zero, List.set_cons_succ, List.cons_append, List.nil_append, List.eraseIdx_cons_zero, List.eraseIdx_cons_succ, List.setIfInBounds_toArray, World.size_alloc, selR, List.getD_cons_zero, List.getD_cons_succ] at H))) | ((with_reducible show wpList _ _ _ (⟨some 43, _, _, _, _, _⟩ :: _) _ _); (refine wpList_append0 rfl (.tmp 38) (.tmp 42) _ rfl E_fct 0 (Nat.zero_le _) _ k _ rfl (H.out.row 1 rfl) _ 1 1 _ rfl (Rd.of_own (H.out.row 6 rfl)) (fct_ones f) (by unfold maxLen; omega) (by omega) ?_; intro vq wq howq hgq hatq; replace H := Lib.hid (H.out.setRow 1 rfl hgq howq hatq); (try simp only [List.set_cons_zero, List.set_cons_succ, List.cons_append, List.nil_append, List.eraseIdx_cons_zero, List.eraseIdx_cons_succ, List.setIfInBounds_toArray, World.size_alloc, selR, List.getD_cons_zero, List.getD_cons_succ] at H); clear howq hgq hatq; obtain ⟨B9, c9, rfl, _⟩ := own_slice (H.out.row 1 rfl))))
      replace H := Lib.hid (H.out.turn 4 rfl (rFk f) (holds_fk HF.out (H.out.get 4 rfl) HKeys.out HAg.out) (fk_D HF.out)); (try simp only [List.set_cons_zero, List.set_cons_succ, List.cons_append, List.nil_append, List.eraseIdx_cons_zero, List.eraseIdx_cons_succ, List.setIfInBounds_toArray, World.size_alloc, selR, List.getD_cons_zero, List.getD_cons_succ] at H)
      replace H := Lib.hid (H.out.both 2 4 (by omega) rfl rfl (rList rFk (fs ++ [f])) (holds_list_snoc (H.out.get 2 rfl) (H.out.get 4 rfl)) list_snoc_D); (try simp only [List.set_cons_zero, List.set_cons_succ, List.cons_append, List.nil_append, List.eraseIdx_cons_zero, List.eraseIdx_cons_succ, List.setIfInBounds_toArray, World.size_alloc, selR, List.getD_cons_zero, List.getD_cons_succ] at H)
      replace H := Lib.hid (H.out.sel [0, 1, 2] (by decide) (by simp)); (try simp only [List.set_cons_zero, List.set_cons_succ, List.cons_append, List.nil_append, List.eraseIdx_cons_zero, List.eraseIdx_cons_succ, List.setIfInBounds_toArray, World.size_alloc, selR, List.getD_cons_zero, List.getD_cons_succ] at H)
      have HL2 : Hid ((fs ++ [f]).map Fct.con = ((rows.map Rw.con).take (k + 1)).map (facOf s.con)) := by
        show _ = _
        rw [HTK.out, List.map_append, List.map_append, HL.out, List.map_cons, List.map_cons, HFC.out, HF.out]
        rfl
      clear HL
      go_wp2_with fail
      go_roundg (n - (k + 1))
      case rel => exact ⟨k + 1, B9, c9, fs ++ [f], rfl, by omega, by go_num, rfl, by rw [List.flatMap_append, List.flatMap_cons, List.flatMap_nil, List.append_nil]; exact H, HL2⟩
      case measure => rw [Hgk.out]; omega
    · replace H := Lib.hid (H.out.both 1 2 (by omega) rfl rfl (rFac ⟨B, k, c, fs⟩) (holds_fac (H.out.get 1 rfl) (H.out.get 2 rfl) (by show k ≤ 300; omega)) (fun g hg => hg)); (try simp only [List.set_cons_zero, List.set_cons_succ, List.cons_append, List.nil_append, List.eraseIdx_cons_zero, List.eraseIdx_cons_succ, List.setIfInBounds_toArray, World.size_alloc, selR, List.getD_cons_zero, List.getD_cons_succ] at H)
      go_wp2
      go_ret2
      have hl := hlen.out
      exact ⟨⟨B, k, c, fs⟩, rfl, by show k = (rows.map Rw.con).length; rw [List.length_map]; omega, by rw [HL.out, List.take_of_length_le (by simp; omega)], H.out.to, H.out.get 1 rfl, H.out.new 1 rfl⟩

set_option maxRecDepth 100000 in
set_option maxHeartbeats 2000000 in
theorem rbatfacts_any (s : Sch) (x : Row Rw) (w : World) (hs : s.rd w) (hx : x.rd w) (hn : s.dm.n ≤ 1000000) (hm : s.ms.n ≤ 1000000) (hd : ∀ d ∈ s.dm.l, d.tr.n ≤ 1000000 ∧ ∀ t ∈ d.tr.l, t.up.n ≤ 100000) (hE : batErr s.con (x.l.map Rw.con) = 0) :
    Calls Try.prog 66 #[.agg s.cs, .slice x.A x.n x.c] w (FacPost s.con (x.l.map Rw.con) (fun X => .slice X.A X.n X.c) w) := by
  have HE := Lib.hid (batErr_zero hE).1
  have HOK := Lib.hid (batErr_zero hE).2.2
  have hn300 : x.n ≤ 300 := by have h1 := (batErr_zero hE).2.1; have h2 : x.l.length = x.n := hx.len; simp at h1; omega
  have HR := Lib.hid (fun r w' (hr : Rw.rd w' r) (hb : Bel w w') => rrow2_any s r w' (hs.mono hb) hr hn)
  have hlen : Hid (x.l.length = x.n) := hx.len
  have HX := Lib.hid hx
  have n63 := hx.n63
  have H := Lib.hid ((SL.start No w).alloc s.cs 70)
  (try simp only [List.set_cons_zero, List.set_cons_succ, List.cons_append, List.nil_append, List.eraseIdx_cons_zero, List.eraseIdx_cons_succ, List.setIfInBounds_toArray, World.size_alloc, selR, List.getD_cons_zero, List.getD_cons_succ] at H)
  obtain ⟨A, n, c, rows⟩ := x
  simp only at *
  have hcs : s.cs = #[.slice s.dm.A s.dm.n s.dm.c, .slice s.ms.A s.ms.n s.ms.c] := rfl
  have HCS := Lib.hid hcs
  clear hs hx hd hcs hE
  have HR2 : Hid True := trivial
  go_enter Try.func66, Try.ntmps66
  rw [← HCS.out] at *
  go_wp2_with fail
  generalize w.heap.size = x at *
  replace H := Lib.hid (H.out.addNil 172 11); (try simp only [List.set_cons_zero, List.set_cons_succ, List.cons_append, List.nil_append, List.eraseIdx_cons_zero, List.eraseIdx_cons_succ, List.setIfInBounds_toArray, World.size_alloc, selR, List.getD_cons_zero, List.getD_cons_succ] at H)
  replace H := Lib.hid (H.out.add (Bel.refl _) (rList rFk []) (holds_list_nil _ _) list_nil_D); (try simp only [List.set_cons_zero, List.set_cons_succ, List.cons_append, List.nil_append, List.eraseIdx_cons_zero, List.eraseIdx_cons_succ, List.setIfInBounds_toArray, World.size_alloc, selR, List.getD_cons_zero, List.getD_cons_succ] at H)
  have HL : Hid (([] : List Fct).map Fct.con = ((rows.map Rw.con).take 0).map (facOf s.con)) := rfl
  go_loopg [5, 12] n (fun gg s7 si wr => ∃ (k : Nat) (B : Option Addr) (c : Nat) (fs : List Fct), gg = n - k ∧ k ≤ n ∧ si = .int .i64 k ∧ s7 = .slice B k c ∧ Hid (SL No w wr [rBlk x 70 s.cs, rRow 172 11 (.slice B k c) k (fs.flatMap Cel.cells), rList rFk fs]) ∧ Hid (fs.map Fct.con = ((rows.map Rw.con).take k).map (facOf s.con)))
  case atStart => exact ⟨0, none, 0, [], rfl, by omega, rfl, rfl, H, HL⟩
  case round =>
    clear H HL
    obtain ⟨k, B, c, fs, hgk, hk, rfl, rfl, H, HL⟩ := hrel
    have Hgk := Lib.hid hgk
    clear hgk
    by_cases hlt : k < n
    · obtain ⟨bb, oo, r, hA, hbb, hrk, hrr, hrg⟩ := (HX.out.mono H.out.to).rwAt (k := k) hlt
      simp only at hA
      subst hA
      have hrc : (rows.map Rw.con)[k]? = some r.con := by rw [List.getElem?_map, hrk]; rfl
      obtain ⟨ks, hks⟩ := HOK.out r.con (List.mem_of_getElem? hrc)
      have HFC : Hid (facOf s.con r.con = (ks, Ag.of r.vs.l)) := by show _ = _; unfold facOf; rw [hks]
      obtain ⟨_, hvl, _⟩ := row_small HE.out hks
      have hv3 : r.vs.n ≤ 3 := by have h1 : r.vs.l.length = r.vs.n := hrr.vs.len; have h2 : r.vs.l.length ≤ 3 := hvl; omega
      have hkeys := rowOf_keys HE.out hks
      have HKeys := Lib.hid hkeys
      have hagok : (Ag.of r.vs.l).ok := of_ok (fun z hz => hrr.vs.all z hz)
      have HAg := Lib.hid hagok
      have HTK := Lib.hid (take_snoc_get hrc)
      have HRg := Lib.hid hrg
      have HRr := Lib.hid hrr
      have HVS := Lib.hid (fun w' (hb : Bel wr w') => (hrr.mono hb).vs.ints)
      clear hrk hrr hrg hrc hbb hvl hkeys hagok
      obtain ⟨W0, hW0⟩ : ∃ W0, W0 = wr := ⟨_, rfl⟩
      subst hW0
      have HB : Hid (Bel W0 W0) := Bel.refl _
      go_wp2_with (first | ((with_reducible show wpList _ _ _ (⟨some 15, _, _, _, _, _⟩ :: _) _ _); (refine wpList_load_row_at rfl rowRw (.tmp 14) rfl bb (oo + k * 2) rfl r.cs rfl HRg.out ?_)) | ((with_reducible show wpList _ _ _ (⟨_, .store _ (.tmp 7) _, _, _, _, _⟩ :: _) _ _); (refine wpList_store_new rfl rowRw (.tmp 7) (.tmp 15) rfl rfl rfl (r.cs) rfl rfl (rw_one r) ?_; replace H := Lib.hid (H.out.alloc (r.cs) 88); (try simp only [List.set_cons_zero, List.set_cons_succ, List.cons_append, List.nil_append, List.eraseIdx_cons_zero, List.eraseIdx_cons_succ, List.setIfInBounds_toArray, World.size_alloc, selR, List.getD_cons_zero, List.getD_cons_succ] at H); replace HB := Lib.hid (HB.out.alloc (.cells r.cs 88)))) | ((with_reducible show wpList _ _ _ (⟨some 17, _, _, _, _, _⟩ :: _) _ _); (refine wpList_load_blk rfl rowSch (.tmp 2) rfl _ rfl (H.out.blk 0 rfl) rfl ?_)) | ((with_reducible show wpList _ _ _ (⟨some 18, _, _, _, _, _⟩ :: _) _ _); (refine wpList_load_blk rfl rowRw (.tmp 7) rfl _ rfl (H.out.blk 3 rfl) rfl ?_)))
      have HRo := Lib.hid (HR.out r _ (HRr.out.mono HB.out) H.out.to)
      rw [hks] at HRo
      refine HRo.out.mono ?_; rintro e w2 ⟨KA, kd, rfl, hb2, hown⟩
      replace H := Lib.hid (H.out.addRow hb2 hown); (try simp only [List.set_cons_zero, List.set_cons_succ, List.cons_append, List.nil_append, List.eraseIdx_cons_zero, List.eraseIdx_cons_succ, List.setIfInBounds_toArray, World.size_alloc, selR, List.getD_cons_zero, List.getD_cons_succ] at H)
      replace HB := Lib.hid (HB.out.trans hb2)
      clear hb2 hown HRo HR2
      have c1 := (H.out.blk 3 rfl).cell 1; simp only [List.getElem?_toArray, List.getElem?_cons_zero, List.getElem?_cons_succ] at c1
      obtain ⟨f, hf⟩ : ∃ f : Fct, f = ⟨⟨KA, ks.length, kd, ks⟩, Ag.of r.vs.l⟩ := ⟨_, rfl⟩
      have Hbf : Hid (∀ w : World, (Instr.build 172 #[(0, .slice KA ks.length kd), (1, .agg (Ag.of r.vs.l).cs)]).run Try.prog w = .ok (.agg f.cs) w) := by show ∀ w, _; rw [hf]; exact build_fct ⟨KA, ks.length, kd, ks⟩ (Ag.of r.vs.l)
      have HF := Lib.hid hf
      clear hf
      go_wp2_with fail
      refine (rof_any _ _ _ _ _ (HVS.out _ HB.out) hv3).mono ?_; rintro e w7 ⟨rfl, hb7⟩
      replace H := Lib.hid (H.out.bel hb7); (try simp only [List.set_cons_zero, List.set_cons_succ, List.cons_append, List.nil_append, List.eraseIdx_cons_zero, List.eraseIdx_cons_succ, List.setIfInBounds_toArray, World.size_alloc, selR, List.getD_cons_zero, List.getD_cons_succ] at H)
      clear hb7 c1
      go_wp2_with (first | ((with_reducible show wpList _ _ _ (⟨some 27, _, _, _, _, _⟩ :: _) _ _); refine wpList_build2 (vx := .slice KA ks.length kd) (vy := .agg (Ag.of r.vs.l).cs) (v := .agg f.cs) rfl (.tmp 23) (.tmp 26) rfl rfl rfl (Hbf.out) ?_) | ((with_reducible show wpList _ _ _ (⟨some 28, _, _, _, _, _⟩ :: _) _ _); (refine wpList_buildSlice1 rfl E_fct (.tmp 27) rfl (f.cs) rfl (fct_size f) (by omega) ?_; replace H := Lib.hid (H.out.addRow ((Bel.refl _).alloc _) (own_made _ 172 (f.cs) 11 (fct_size f))); (try simp only [List.set_cons_zero, List.set_cons_succ, List.cons_append, List.nil_append, List.eraseIdx_cons_zero, List.eraseIdx_cons_succ, List.setIfInBounds_toArray, World.size_alloc, selR, List.getD_cons_zero, List.getD_cons_succ] at H))) | ((with_reducible show wpList _ _ _ (⟨some 29, _, _, _, _, _⟩ :: _) _ _); (refine wpList_append0 rfl (.tmp 22) (.tmp 28) _ rfl E_fct 0 (Nat.zero_le _) _ k _ rfl (H.out.row 1 rfl) _ 1 1 _ rfl (Rd.of_own (H.out.row 5 rfl)) (fct_ones f) (by unfold maxLen; omega) (by omega) ?_; intro vq wq howq hgq hatq; replace H := Lib.hid (H.out.setRow 1 rfl hgq howq hatq); (try simp only [List.set_cons_zero, List.set_cons_succ, List.cons_append, List.nil_append, List.eraseIdx_cons_zero, List.eraseIdx_cons_succ, List.setIfInBounds_toArray, World.size_alloc, selR, List.getD_cons_zero, List.getD_cons_succ] at H); clear howq hgq hatq; obtain ⟨B9, c9, rfl, _⟩ := own_slice (H.out.row 1 rfl))))
      replace H := Lib.hid (H.out.turn 4 rfl (rFk f) (holds_fk HF.out (H.out.get 4 rfl) HKeys.out HAg.out) (fk_D HF.out)); (try simp only [List.set_cons_zero, List.set_cons_succ, List.cons_append, List.nil_append, List.eraseIdx_cons_zero, List.eraseIdx_cons_succ, List.setIfInBounds_toArray, World.size_alloc, selR, List.getD_cons_zero, List.getD_cons_succ] at H)
      replace H := Lib.hid (H.out.both 2 4 (by omega) rfl rfl (rList rFk (fs ++ [f])) (holds_list_snoc (H.out.get 2 rfl) (H.out.get 4 rfl)) list_snoc_D); (try simp only [List.set_cons_zero, List.set_cons_succ, List.cons_append, List.nil_append, List.eraseIdx_cons_zero, List.eraseIdx_cons_succ, List.setIfInBounds_toArray, World.size_alloc, selR, List.getD_cons_zero, List.getD_cons_succ] at H)
      replace H := Lib.hid (H.out.sel [0, 1, 2] (by decide) (by simp)); (try simp only [List.set_cons_zero, List.set_cons_succ, List.cons_append, List.nil_append, List.eraseIdx_cons_zero, List.eraseIdx_cons_succ, List.setIfInBounds_toArray, World.size_alloc, selR, List.getD_cons_zero, List.getD_cons_succ] at H)
      have HL2 : Hid ((fs ++ [f]).map Fct.con = ((rows.map Rw.con).take (k + 1)).map (facOf s.con)) := by
        show _ = _
        rw [HTK.out, List.map_append, List.map_append, HL.out, List.map_cons, List.map_cons, HFC.out, HF.out]
        rfl
      clear HL
      go_wp2_with fail
      go_roundg (n - (k + 1))
      case rel => exact ⟨k + 1, B9, c9, fs ++ [f], rfl, by omega, by go_num, rfl, by rw [List.flatMap_append, List.flatMap_cons, List.flatMap_nil, List.append_nil]; exact H, HL2⟩
      case measure => rw [Hgk.out]; omega
    · replace H := Lib.hid (H.out.both 1 2 (by omega) rfl rfl (rFac ⟨B, k, c, fs⟩) (holds_fac (H.out.get 1 rfl) (H.out.get 2 rfl) (by show k ≤ 300; omega)) (fun g hg => hg)); (try simp only [List.set_cons_zero, List.set_cons_succ, List.cons_append, List.nil_append, List.eraseIdx_cons_zero, List.eraseIdx_cons_succ, List.setIfInBounds_toArray, World.size_alloc, selR, List.getD_cons_zero, List.getD_cons_succ] at H)
      go_wp2
      go_ret
      have hl := hlen.out
      exact ⟨⟨B, k, c, fs⟩, rfl, by show k = (rows.map Rw.con).length; rw [List.length_map]; omega, by rw [HL.out, List.take_of_length_le (by simp; omega)], H.out.to, H.out.get 1 rfl, H.out.new 1 rfl⟩

end Go.Proofs.Ytnjpoamebkehbaa

namespace Go.Proofs.Ytnjpoamebkehbaa
open Go.RowKit
set_option linter.unusedVariables false
set_option linter.unusedSimpArgs false

theorem i_pint_put {x : Int} (hx : I64 x) (t : List UInt8) : pint (nput (nfold x) ++ t) = .ok (x, t) := by
  unfold pint
  rw [q_pnumber (nfold_lt hx.1 hx.2)]
  simp only
  rw [nunfold_nfold]
theorem ptrm_put {t : List UInt8} (h : isTerm t = true) (h16 : t.length ≤ 16) (r : List UInt8) : ptrm (ptext t ++ r) = .ok (t, r) := by
  unfold ptrm
  rw [q_ptxt (by omega) (by omega) r]
  simp only [h, if_true]
theorem prow_put {x : RC} (ht : ∀ t ∈ x.ts, isTerm t = true ∧ t.length ≤ 16) (hv : ∀ v ∈ x.vs, I64 v) (r : List UInt8) : prow x.ts.length x.vs.length (rowPut x ++ r) = .ok (x, r) := by
  unfold prow rowPut
  rw [List.append_assoc, pmany_put (put := ptext) _ (fun t h r => ptrm_put (ht t h).1 (ht t h).2 r)]
  simp only
  rw [pmany_put (put := fun x => nput (nfold x)) _ (fun v h r => i_pint_put (hv v h) r)]
  simp
theorem rowKeys_all {P : List UInt8 → Prop} {ds : List DC} : ∀ {ts : List (List UInt8)} {ks : List Int}, (∀ d ∈ ds, ∀ tr ∈ d.trs, ∀ t ∈ tr.ts, P t) → ts.length = ds.length → rowKeys ds ts = .ok ks → ∀ t ∈ ts, P t := by
  induction ds with
  | nil => intro ts ks _ hl _ t ht; cases ts with | nil => cases ht | cons a r => simp at hl
  | cons d ds ih =>
    intro ts ks hd hl h t ht
    cases ts with
    | nil => cases ht
    | cons a r =>
      rw [rowKeys] at h
      split at h
      · cases h
      · rename_i tr rest htr
        split at h
        · cases h
        · rename_i k hp
          split at h
          · cases h
          · rename_i ks' hk
            rcases List.mem_cons.1 ht with rfl | ht
            · exact hd d (List.mem_cons_self ..) tr (by rw [htr]; exact List.mem_cons_self ..) _ (posOf_mem hp)
            · exact ih (fun d' hd' => hd d' (List.mem_cons_of_mem _ hd')) (by simpa using hl) hk t ht
theorem row_good {s : SC} {r : RC} {ks : List Int} (hE : schErr s = 0) (h : rowOf s r = .ok ks) : r.ts.length = s.dims.length ∧ r.vs.length = s.ms.length ∧ ∀ t ∈ r.ts, isTerm t = true ∧ t.length ≤ 16 := by
  obtain ⟨h1, h2, h3, h4, h5, h6⟩ := schErr_zero hE
  unfold rowOf at h
  split at h
  · cases h
  · rename_i h7
    refine ⟨by omega, by omega, rowKeys_all (fun d hd tr htr t ht => ?_) (by omega) h⟩
    have h8 := (dim_terms (h3 d hd) tr htr).1
    exact ⟨rowFrom_terms h8 t ht, rowErr_len h8 ht⟩
theorem prws_put {s : SC} {rows : List RC} (hE : batErr s rows = 0) (hv : ∀ r ∈ rows, ∀ v ∈ r.vs, I64 v) : prws s.dims.length s.ms.length (batPut rows) = .ok (rows, []) := by
  obtain ⟨e1, e2, e3⟩ := batErr_zero hE
  unfold prws batPut
  rw [q_pnum (by omega) (by omega)]
  simp only
  have hp := pmany_put (p := prow s.dims.length s.ms.length) (put := rowPut) (xs := rows) (acc := []) [] (fun r hr t => by
    obtain ⟨ks, hk⟩ := e3 r hr
    obtain ⟨a, b, c⟩ := row_good e1 hk
    rw [← a, ← b]
    exact prow_put c (hv r hr) t)
  rw [List.append_nil] at hp
  rw [hp, List.nil_append]
theorem battake_of_put {s : SC} {rows : List RC} (hE : batErr s rows = 0) (hv : ∀ r ∈ rows, ∀ v ∈ r.vs, I64 v) : battake s (batPut rows) = (rows, 0) := by
  unfold battake
  rw [if_neg (by have := (batErr_zero hE).1; omega), prws_put hE hv]
  simp only
  rw [if_pos trivial, if_pos hE]
theorem batPut_len {s : SC} {rows : List RC} (hE : batErr s rows = 0) : (batPut rows).length ≤ 200000 := by
  obtain ⟨e1, e2, e3⟩ := batErr_zero hE
  have h7 := nput_le9 rows.length
  have h9 : (rows.flatMap rowPut).length ≤ 500 * rows.length := flat_len fun r hr => by
    obtain ⟨ks, hk⟩ := e3 r hr
    obtain ⟨a, b, c⟩ := row_small e1 hk
    exact rowPut_len a b c
  unfold batPut
  rw [List.length_append]
  omega

set_option maxRecDepth 100000 in
set_option maxHeartbeats 2000000 in
theorem rbatput_any (s : SC) (x : Row Rw) (w : World) (hx : x.rd w) (hE : batErr s (x.l.map Rw.con) = 0) :
    Calls Try.prog 64 #[.slice x.A x.n x.c] w fun e w' => e = .returned (.string ⟨(batPut (x.l.map Rw.con)).toArray⟩) ∧ Bel w w' := by
  have hlen : Hid (x.l.length = x.n) := hx.len
  have HX := Lib.hid hx
  have n63 := hx.n63
  have H := Lib.hid ((SL.start No w).add (Bel.refl _) (rList rRw []) (holds_list_nil _ _) list_nil_D)
  (try simp only [List.set_cons_zero, List.set_cons_succ, List.cons_append, List.nil_append, List.eraseIdx_cons_zero, List.eraseIdx_cons_succ, List.setIfInBounds_toArray, World.size_alloc, selR, List.getD_cons_zero, List.getD_cons_succ] at H)
  obtain ⟨A, n, c, rows⟩ := x
  simp only at *
  clear hx
  obtain ⟨e1, e2, e3⟩ := batErr_zero hE
  have HRS := Lib.hid (fun r (hr : r ∈ rows) => (e3 (Rw.con r) (List.mem_map.2 ⟨r, hr, rfl⟩)).elim fun ks h => row_small e1 h)
  have hn3 : n ≤ 300 := by have := hlen.out; simp only [List.length_map] at e2; omega
  have hpn := nput_le9 n
  clear hE e1 e2 e3
  go_enter Try.func64, Try.ntmps64
  go_wp2_with fail
  refine (rputNum_any (n : Int) _ (by omega) (by omega)).mono ?_; rintro e w3 ⟨rfl, hb3⟩
  replace H := Lib.hid (H.out.bel hb3); (try simp only [List.set_cons_zero, List.set_cons_succ, List.cons_append, List.nil_append, List.eraseIdx_cons_zero, List.eraseIdx_cons_succ, List.setIfInBounds_toArray, World.size_alloc, selR, List.getD_cons_zero, List.getD_cons_succ] at H)
  rw [Int.toNat_natCast]
  clear hb3
  go_wp2_with fail
  have HL : Hid (nput n = nput n ++ ((rows.map Rw.con).take 0).flatMap rowPut) := by show _ = _; simp
  go_loopg [3, 15] n (fun gg o i wr => ∃ (k : Nat) (l : List UInt8), gg = n - k ∧ k ≤ n ∧ i = .int .i64 k ∧ o = .string ⟨l.toArray⟩ ∧ l.length ≤ 10 + 500 * k ∧ Hid (SL No w wr [rList rRw []]) ∧ Hid (l = nput n ++ ((rows.map Rw.con).take k).flatMap rowPut))
  case atStart => exact ⟨0, _, rfl, by omega, rfl, rfl, by omega, H, HL⟩
  case round =>
    clear H HL
    obtain ⟨k, l, hgk, hk, rfl, rfl, hll, H, HL⟩ := hrel
    obtain ⟨W0, hW0⟩ : ∃ W0, W0 = wr := ⟨_, rfl⟩
    subst hW0
    have Hgk := Lib.hid hgk
    clear hgk
    by_cases hlt : k < n
    · obtain ⟨bb, oo, r, hA, hbb, hrk, hrr, hrg⟩ := (HX.out.mono H.out.to).rwAt (k := k) hlt
      simp only at hA
      subst hA
      have hrc : (rows.map Rw.con)[k]? = some r.con := by rw [List.getElem?_map, hrk]; rfl
      obtain ⟨s1, s2, s3⟩ := HRS.out r (List.mem_of_getElem? hrk)
      have hpl := rowPut_len (r := r.con) s1 s2 s3
      have HS3 := Lib.hid s3
      have HN : Hid (l ++ rowPut r.con = nput n ++ ((rows.map Rw.con).take (k + 1)).flatMap rowPut) := by show _ = _; rw [take_snoc_get hrc, List.flatMap_append, ← List.append_assoc, ← HL.out]; simp
      have HRg := Lib.hid hrg
      have hrl1 : Hid (r.ts.l.length = r.ts.n) := hrr.ts.len
      have hrl2 : Hid (r.vs.l.length = r.vs.n) := hrr.vs.len
      have HTS := Lib.hid (fun w' (hb : Bel W0 w') => (hrr.mono hb).ts)
      have HVS := Lib.hid (fun w' (hb : Bel W0 w') => (hrr.mono hb).vs)
      have HB : Hid (Bel W0 W0) := Bel.refl _
      clear hrk hrr hrg hrc hbb HL s3
      obtain ⟨⟨A3, n3, c3, ts⟩, ⟨A4, n4, c4, vs⟩⟩ := r
      simp only [Rw.cs, Rw.con] at *
      have hn16 : n3 ≤ 16 := by have := hrl1.out; omega
      have hn43 : n4 ≤ 3 := by have := hrl2.out; omega
      go_wp2_with (first | ((with_reducible show wpList _ _ _ (⟨some 18, _, _, _, _, _⟩ :: _) _ _); (refine wpList_load_row_at rfl rowRw (.tmp 17) rfl bb (oo + k * 2) rfl #[.slice A3 n3 c3, .slice A4 n4 c4] rfl HRg.out ?_)) | ((with_reducible show wpList _ _ _ (⟨_, .store _ (.tmp 5) _, _, _, _, _⟩ :: _) _ _); (refine wpList_store_new rfl rowRw (.tmp 5) (.tmp 18) rfl rfl rfl (#[.slice A3 n3 c3, .slice A4 n4 c4]) rfl rfl (by simp [Value.oneCell']) ?_; replace H := Lib.hid (H.out.alloc (#[.slice A3 n3 c3, .slice A4 n4 c4]) 88); (try simp only [List.set_cons_zero, List.set_cons_succ, List.cons_append, List.nil_append, List.eraseIdx_cons_zero, List.eraseIdx_cons_succ, List.setIfInBounds_toArray, World.size_alloc, selR, List.getD_cons_zero, List.getD_cons_succ] at H); have c0 := (H.out.blk 1 rfl).cell 0; simp only [List.getElem?_toArray, List.getElem?_cons_zero, List.getElem?_cons_succ] at c0; replace HB := Lib.hid (HB.out.alloc (.cells #[.slice A3 n3 c3, .slice A4 n4 c4] 88)))))
      clear c0
      generalize W0.heap.size = y at *
      generalize W0.alloc (.cells #[.slice A3 n3 c3, .slice A4 n4 c4] 88) = w5 at *
      have HL1 : Hid (l = l ++ (ts.take 0).flatMap ptext) := by show _ = _; simp
      go_loopg [3, 22] n3 (fun gg o i wx => ∃ (j : Nat) (l1 : List UInt8), gg = n3 - j ∧ j ≤ n3 ∧ i = .int .i64 j ∧ o = .string ⟨l1.toArray⟩ ∧ l1.length ≤ 10 + 500 * k + 26 * j ∧ Hid (SL No w wx [rList rRw [], rBlk y 88 #[.slice A3 n3 c3, .slice A4 n4 c4]]) ∧ Hid (Bel W0 wx) ∧ Hid (l1 = l ++ (ts.take j).flatMap ptext))
      case atStart => exact ⟨0, l, rfl, by omega, rfl, rfl, by omega, H, HB, HL1⟩
      case round =>
        clear H HB HL1
        obtain ⟨j, l1, hgj, hj, rfl, rfl, hl1, H, HB, HL1⟩ := hrel
        have Hgj := Lib.hid hgj
        clear hgj
        by_cases hjlt : j < n3
        · obtain ⟨b2, o2, t, hA2, htk, htl, q1⟩ := (HTS.out _ HB.out).textAt (k := j) hjlt
          simp only at hA2
          subst hA2
          have ht16 := HS3.out t (List.mem_of_getElem? htk)
          have hptl : (ptext t).length ≤ 26 := by unfold ptext; rw [List.length_append]; have := nput_le9 t.length; omega
          have HN2 : Hid (l1 ++ ptext t = l ++ (ts.take (j + 1)).flatMap ptext) := by show _ = _; rw [take_snoc_get htk, List.flatMap_append, ← List.append_assoc, ← HL1.out]; simp
          clear htk HL1
          go_wp2_with fail
          refine (rputText_any t _ (by omega)).mono ?_; rintro e w6 ⟨rfl, hb6⟩
          replace H := Lib.hid (H.out.bel hb6); (try simp only [List.set_cons_zero, List.set_cons_succ, List.cons_append, List.nil_append, List.eraseIdx_cons_zero, List.eraseIdx_cons_succ, List.setIfInBounds_toArray, World.size_alloc, selR, List.getD_cons_zero, List.getD_cons_succ] at H)
          replace HB := Lib.hid (HB.out.trans hb6)
          clear hb6 q1
          go_wp2
          go_roundg (n3 - (j + 1))
          case rel => exact ⟨j + 1, l1 ++ ptext t, rfl, by omega, by go_num, by simp only [str_append], by simp only [List.length_append]; omega, H, HB, HN2⟩
          case measure => rw [Hgj.out]; omega
        · have HL2 : Hid (l1 = l ++ ts.flatMap ptext) := by show _ = _; rw [HL1.out, List.take_of_length_le (by have := hrl1.out; omega)]
          have HL3 : Hid (l1 = l1 ++ (vs.take 0).flatMap (fun x => nput (nfold x))) := by show _ = _; simp
          have c0 := (H.out.blk 1 rfl).cell 1; simp only [List.getElem?_toArray, List.getElem?_cons_zero, List.getElem?_cons_succ] at c0
          clear HL1
          go_wp2_with fail
          clear c0
          go_loopg [3, 34] n4 (fun gg o i wx => ∃ (j : Nat) (l2 : List UInt8), gg = n4 - j ∧ j ≤ n4 ∧ i = .int .i64 j ∧ o = .string ⟨l2.toArray⟩ ∧ l2.length ≤ 10 + 500 * k + 26 * 16 + 9 * j ∧ Hid (SL No w wx [rList rRw [], rBlk y 88 #[.slice A3 n3 c3, .slice A4 n4 c4]]) ∧ Hid (Bel W0 wx) ∧ Hid (l2 = l1 ++ (vs.take j).flatMap (fun x => nput (nfold x))))
          case atStart => exact ⟨0, l1, rfl, by omega, rfl, rfl, by omega, H, HB, HL3⟩
          case round =>
            clear H HB HL3
            obtain ⟨j, l2, hgj, hj, rfl, rfl, hl2, H, HB, HL3⟩ := hrel
            have Hgj := Lib.hid hgj
            clear hgj
            by_cases hjlt : j < n4
            · obtain ⟨b2, o2, v, hA2, hvk, hv, q1⟩ := (HVS.out _ HB.out).intAt (k := j) hjlt
              simp only at hA2
              subst hA2
              obtain ⟨v0, v1⟩ := hv
              have hptl := nput_le9 (nfold v)
              have HN2 : Hid (l2 ++ nput (nfold v) = l1 ++ (vs.take (j + 1)).flatMap (fun x => nput (nfold x))) := by show _ = _; rw [take_snoc_get hvk, List.flatMap_append, ← List.append_assoc, ← HL3.out]; simp
              clear hvk HL3
              go_wp2_with fail
              refine (rputInt_any v _ v0 v1).mono ?_; rintro e w6 ⟨rfl, hb6⟩
              replace H := Lib.hid (H.out.bel hb6); (try simp only [List.set_cons_zero, List.set_cons_succ, List.cons_append, List.nil_append, List.eraseIdx_cons_zero, List.eraseIdx_cons_succ, List.setIfInBounds_toArray, World.size_alloc, selR, List.getD_cons_zero, List.getD_cons_succ] at H)
              replace HB := Lib.hid (HB.out.trans hb6)
              clear hb6 q1
              go_wp2
              go_roundg (n4 - (j + 1))
              case rel => exact ⟨j + 1, l2 ++ nput (nfold v), rfl, by omega, by go_num, by simp only [str_append], by simp only [List.length_append]; omega, H, HB, HN2⟩
              case measure => rw [Hgj.out]; omega
            · have HN3 : Hid (l2 = l ++ rowPut ⟨ts, vs⟩) := by
                show _ = _
                rw [HL3.out, List.take_of_length_le (by have := hrl2.out; omega), HL2.out]
                unfold rowPut
                rw [List.append_assoc]
              have HN4 : Hid (l2 = nput n ++ ((rows.map Rw.con).take (k + 1)).flatMap rowPut) := by show _ = _; rw [HN3.out]; exact HN.out
              have hl2l : l2.length ≤ 10 + 500 * (k + 1) := by rw [HN3.out, List.length_append]; omega
              replace H := Lib.hid (H.out.sel [0] (by decide) (by simp)); (try simp only [List.set_cons_zero, List.set_cons_succ, List.cons_append, List.nil_append, List.eraseIdx_cons_zero, List.eraseIdx_cons_succ, List.setIfInBounds_toArray, World.size_alloc, selR, List.getD_cons_zero, List.getD_cons_succ] at H)
              clear HL3 HN3 HL2
              go_wp2_with fail
              go_roundg (n - (k + 1))
              case rel => exact ⟨k + 1, l2, rfl, by omega, by go_num, rfl, hl2l, H, HN4⟩
              case measure => rw [Hgk.out]; omega
    · have HN : Hid (l = batPut (rows.map Rw.con)) := by
        show _ = _
        rw [HL.out, List.take_of_length_le (by have := hlen.out; simp; omega)]
        unfold batPut
        rw [List.length_map, hlen.out]
      clear HL
      go_wp2
      go_ret
      rw [← HN.out]
      exact ⟨rfl, H.out.to⟩


end Go.Proofs.Ytnjpoamebkehbaa
