/- Texts laid together: XBatF. -/
import Derived.Test.YtelnhhbefdfeoaaBs
import Derived.Test.YtelnhhbefdfeoaaBl
import Derived.Test.YtelnhhbefdfeoaaAggQ

namespace Go.Proofs.Ytelnhhbefdfeoaa
open Go.RowKit
set_option linter.unusedVariables false
set_option linter.unusedSimpArgs false

section
variable {P : Program}
/-- A struct built of two fields. -/
theorem wpList_build2 {ops : Array Oper} {rest : List Oper} {o : Oper} {a : Act} {w : World} {Q : Exit → Act → World → Prop} (hgd : o.guard = none) {t : TypeId} (x y : Operand) {i j : Nat} (ho : o.op = .build t #[(i, x), (j, y)])
    {vx vy v : Value} (hx : a.eval x = vx) (hy : a.eval y = vy) (hr : ∀ w, (Instr.build t #[(i, vx), (j, vy)]).run P w = .ok v w)
    (h : wpList P ops Q rest (a.put o.dst v) w) : wpList P ops Q (o :: rest) a w := by
  refine wpList_plain hgd fun K hK => ?_
  unfold Oper.wp execOp
  simp only [ho, List.map_toArray, List.map_cons, List.map_nil, hx, hy, Sem.run_bind, hr, Result.andThen_ok, Sem.run_pure]
  exact hK _ _ h
end
/-- A row's fact. -/
def facOf (s : SC) (r : RC) : List Int × Ag := ((match rowOf s r with | .ok ks => ks | .error _ => []), Ag.of r.vs)
theorem rowKeys_i64 {ds : List DC} : ∀ {ts : List (List UInt8)} {ks : List Int}, (∀ d ∈ ds, ∀ tr ∈ d.trs, tr.ts.length ≤ 200) → rowKeys ds ts = .ok ks → (∀ k ∈ ks, I64 k) ∧ ks.length ≤ ds.length := by
  induction ds with
  | nil => intro ts ks _ h; cases ts <;> (simp only [rowKeys] at h; injection h with h; subst h; exact ⟨(fun k hk => by cases hk), by simp⟩)
  | cons d ds ih =>
    intro ts ks hd h
    cases ts with
    | nil => simp only [rowKeys] at h; injection h with h; subst h; exact ⟨(fun k hk => by cases hk), by simp⟩
    | cons a r =>
      rw [rowKeys] at h
      split at h
      · cases h
      · rename_i tr rest htr
        split at h
        · cases h
        · rename_i k hp
          split at h
          · cases h
          · rename_i ks' hk
            obtain ⟨h1, h2⟩ := ih (fun d' hd' => hd d' (List.mem_cons_of_mem _ hd')) hk
            injection h with h
            subst h
            refine ⟨fun z hz => ?_, by simp; omega⟩
            rcases List.mem_cons.1 hz with rfl | hz
            · have h3 := posOf_lt hp
              have h4 := hd d (List.mem_cons_self ..) tr (by rw [htr]; exact List.mem_cons_self ..)
              unfold I64
              omega
            · exact h1 z hz
theorem rowOf_keys {s : SC} {r : RC} {ks : List Int} (hE : schErr s = 0) (h : rowOf s r = .ok ks) : (∀ k ∈ ks, I64 k) ∧ ks.length ≤ 16 := by
  obtain ⟨_, h2, h3, _, _, _⟩ := schErr_zero hE
  unfold rowOf at h
  split at h
  · cases h
  · obtain ⟨a, b⟩ := rowKeys_i64 (fun d hd tr htr => (dim_terms (h3 d hd) tr htr).2) h
    exact ⟨a, by omega⟩
theorem own_ok {α : Type} [Cel α] {w : World} {base : Nat} {e : TypeId} {x : Row α} (h : w.ownsRow base e (Cel.size α) (.slice x.A x.n x.c) x.n (x.l.flatMap Cel.cells)) (ha : ∀ a ∈ x.l, Cel.ok w a) (hz : x.n * Cel.bytes α ≤ 140737488351232) : x.ok w := by
  refine ⟨Rd.of_own h, ha, ?_, ?_, hz⟩
  · rcases h.2 with ⟨h0, h1⟩ | ⟨g', cap, cur, hv, hb, hh, hn, hm, hs, hx⟩
    · omega
    · injection hv with _ _ hv; omega
  · rcases h.2 with ⟨h0, h1⟩ | ⟨g', cap, cur, hv, hb, hh, hn, hm, hs, hx⟩
    · injection h0 with _ _ h0; omega
    · injection hv with _ _ hv; omega
theorem fct_ones (f : Fct) : ∀ u ∈ f.cs.toList, u.oneCell' = true := fun u hu => Array.all_eq_true_iff_forall_mem.1 (fct_one f) u (by simpa using hu)
abbrev rFk (f : Fct) : Res := ⟨(rRow 3 1 (.slice f.ks.A f.ks.n f.ks.c) f.ks.n (f.ks.l.map (Value.int .i64))).D, fun w => f.ok w⟩
theorem holds_fk {KA : Option Addr} {kd : Nat} {ks vs : List Int} {f : Fct} {w : World} (hf : f = ⟨⟨KA, ks.length, kd, ks⟩, Ag.of vs⟩) (h : (rRow 3 1 (.slice KA ks.length kd) ks.length (ks.map (Value.int .i64))).holds w) (hk : (∀ k ∈ ks, I64 k) ∧ ks.length ≤ 16) (ha : (Ag.of vs).ok) : (rFk f).holds w := by
  subst hf
  refine ⟨h.1, fun w' hs hkp => ⟨own_ok (e := 3) (base := 0) ?_ (fun k hk' => hk.1 k hk') ?_, ha⟩⟩
  · have := h.2 w' hs hkp
    rw [flat_ints]
    exact this
  · show ks.length * 8 ≤ _
    omega
theorem fk_D {KA : Option Addr} {kd : Nat} {ks vs : List Int} {f : Fct} (hf : f = ⟨⟨KA, ks.length, kd, ks⟩, Ag.of vs⟩) : ∀ g, (rFk f).D g → (rRow 3 1 (.slice KA ks.length kd) ks.length (ks.map (Value.int .i64))).D g := by
  subst hf
  exact fun g hg => hg
abbrev rFac (X : Row Fct) : Res := ⟨fun g => (rRow 84 11 (.slice X.A X.n X.c) X.n (X.l.flatMap Cel.cells)).D g ∨ (rList rFk X.l).D g, fun w => X.ok w ∧ X.n ≤ 300⟩
theorem holds_fac {X : Row Fct} {w : World} (h1 : (rRow 84 11 (.slice X.A X.n X.c) X.n (X.l.flatMap Cel.cells)).holds w) (h2 : (rList rFk X.l).holds w) (h3 : X.n ≤ 300) : (rFac X).holds w :=
  ⟨fun g hg => hg.elim (h1.1 g) (h2.1 g), fun w' hs hk => ⟨own_ok (base := 0) (e := 84) (h1.2 w' hs fun g hg => hk g (.inl hg)) (fun r hr => h2.2 w' hs (fun g hg => hk g (.inr hg)) r hr) (by show X.n * 104 ≤ _; omega), h3⟩⟩
/-- What the facts of a batch that may be are. -/
def FacPost (s : SC) (rows : List RC) (V : Row Fct → Value) (w : World) (e : Ending) (w' : World) : Prop := ∃ X : Row Fct, e = .returned (V X) ∧ X.n = rows.length ∧ X.l.map Fct.con = rows.map (facOf s) ∧ Bel w w' ∧ NewR w w' (rFac X)

set_option maxRecDepth 100000 in
set_option maxHeartbeats 2000000 in
theorem batfacts_any (s : Sch) (x : Row Rw) (w : World) (hs : s.rd w) (hx : x.rd w) (hn : s.dm.n ≤ 1000000) (hm : s.ms.n ≤ 1000000) (hd : ∀ d ∈ s.dm.l, d.tr.n ≤ 1000000 ∧ ∀ t ∈ d.tr.l, t.up.n ≤ 100000) (hE : batErr s.con (x.l.map Rw.con) = 0) :
    Calls Try.prog 32 #[.agg s.cs, .slice x.A x.n x.c] w (FacPost s.con (x.l.map Rw.con) (fun X => .tuple #[.slice X.A X.n X.c, .int .i64 0]) w) := by
  have HC := Lib.hid (fun w' (hb : Bel w w') => batcheck_any s x w' (hs.mono hb) (hx.mono hb) hn hm hd)
  have HE := Lib.hid (batErr_zero hE).1
  have HOK := Lib.hid (batErr_zero hE).2.2
  have hn300 : x.n ≤ 300 := by have h1 := (batErr_zero hE).2.1; have h2 : x.l.length = x.n := hx.len; simp at h1; omega
  rw [hE] at HC
  have HR := Lib.hid (fun r w' (hr : Rw.rd w' r) (hb : Bel w w') => schrow_any s r w' (hs.mono hb) hr hn (sch_rise hs HE.out))
  have hlen : Hid (x.l.length = x.n) := hx.len
  have HX := Lib.hid hx
  have n63 := hx.n63
  have H := Lib.hid ((SL.start No w).alloc s.cs 25)
  (try simp only [List.set_cons_zero, List.set_cons_succ, List.cons_append, List.nil_append, List.eraseIdx_cons_zero, List.eraseIdx_cons_succ, List.setIfInBounds_toArray, World.size_alloc, selR, List.getD_cons_zero, List.getD_cons_succ] at H)
  obtain ⟨A, n, c, rows⟩ := x
  simp only at *
  have hcs : s.cs = #[.slice s.dm.A s.dm.n s.dm.c, .slice s.ms.A s.ms.n s.ms.c] := rfl
  have HCS := Lib.hid hcs
  clear hs hx hd hcs hE
  have HR2 : Hid True := trivial
  go_enter Try.func32, Try.ntmps32
  rw [← HCS.out] at *
  go_wp2_with ((with_reducible show wpList _ _ _ (⟨some 14, _, _, _, _, _⟩ :: _) _ _); (refine wpList_load_blk rfl rowSch (.tmp 2) rfl _ rfl (H.out.blk 0 rfl) rfl ?_))
  refine (HC.out _ H.out.to).mono ?_; rintro e w1 ⟨rfl, hb1⟩
  replace H := Lib.hid (H.out.bel hb1); (try simp only [List.set_cons_zero, List.set_cons_succ, List.cons_append, List.nil_append, List.eraseIdx_cons_zero, List.eraseIdx_cons_succ, List.setIfInBounds_toArray, World.size_alloc, selR, List.getD_cons_zero, List.getD_cons_succ] at H)
  clear hb1 HC
  generalize w.heap.size = x at *
  go_wp2_with fail
  replace H := Lib.hid (H.out.addNil 84 11); (try simp only [List.set_cons_zero, List.set_cons_succ, List.cons_append, List.nil_append, List.eraseIdx_cons_zero, List.eraseIdx_cons_succ, List.setIfInBounds_toArray, World.size_alloc, selR, List.getD_cons_zero, List.getD_cons_succ] at H)
  replace H := Lib.hid (H.out.add (Bel.refl _) (rList rFk []) (holds_list_nil _ _) list_nil_D); (try simp only [List.set_cons_zero, List.set_cons_succ, List.cons_append, List.nil_append, List.eraseIdx_cons_zero, List.eraseIdx_cons_succ, List.setIfInBounds_toArray, World.size_alloc, selR, List.getD_cons_zero, List.getD_cons_succ] at H)
  have HL : Hid (([] : List Fct).map Fct.con = ((rows.map Rw.con).take 0).map (facOf s.con)) := rfl
  go_loopg [7, 22] n (fun gg s7 si wr => ∃ (k : Nat) (B : Option Addr) (c : Nat) (fs : List Fct), gg = n - k ∧ k ≤ n ∧ si = .int .i64 k ∧ s7 = .slice B k c ∧ Hid (SL No w wr [rBlk x 25 s.cs, rRow 84 11 (.slice B k c) k (fs.flatMap Cel.cells), rList rFk fs]) ∧ Hid (fs.map Fct.con = ((rows.map Rw.con).take k).map (facOf s.con)))
  case atStart => exact ⟨0, none, 0, [], rfl, by omega, rfl, rfl, H, HL⟩
  case round =>
    clear H HL
    obtain ⟨k, B, c, fs, hgk, hk, rfl, rfl, H, HL⟩ := hrel
    have Hgk := Lib.hid hgk
    clear hgk
    by_cases hlt : k < n
    · obtain ⟨bb, oo, r, hA, hbb, hrk, hrr, hrg⟩ := (HX.out.mono H.out.to).rwAt (k := k) hlt
      simp only at hA
      subst hA
      have hrc : (rows.map Rw.con)[k]? = some r.con := by rw [List.getElem?_map, hrk]; rfl
      obtain ⟨ks, hks⟩ := HOK.out r.con (List.mem_of_getElem? hrc)
      have HFC : Hid (facOf s.con r.con = (ks, Ag.of r.vs.l)) := by show _ = _; unfold facOf; rw [hks]
      obtain ⟨_, hvl, _⟩ := row_small HE.out hks
      have hv3 : r.vs.n ≤ 3 := by have h1 : r.vs.l.length = r.vs.n := hrr.vs.len; have h2 : r.vs.l.length ≤ 3 := hvl; omega
      have hkeys := rowOf_keys HE.out hks
      have HKeys := Lib.hid hkeys
      have hagok : (Ag.of r.vs.l).ok := of_ok (fun z hz => hrr.vs.all z hz)
      have HAg := Lib.hid hagok
      have HTK := Lib.hid (take_snoc_get hrc)
      have HRg := Lib.hid hrg
      have HRr := Lib.hid hrr
      have HVS := Lib.hid (fun w' (hb : Bel wr w') => (hrr.mono hb).vs.ints)
      clear hrk hrr hrg hrc hbb hvl hkeys hagok
      obtain ⟨W0, hW0⟩ : ∃ W0, W0 = wr := ⟨_, rfl⟩
      subst hW0
      have HB : Hid (Bel W0 W0) := Bel.refl _
      go_wp2_with (first | ((with_reducible show wpList _ _ _ (⟨some 25, _, _, _, _, _⟩ :: _) _ _); (refine wpList_load_row_at rfl rowRw (.tmp 24) rfl bb (oo + k * 2) rfl r.cs rfl HRg.out ?_)) | ((with_reducible show wpList _ _ _ (⟨_, .store _ (.tmp 9) _, _, _, _, _⟩ :: _) _ _); (refine wpList_store_new rfl rowRw (.tmp 9) (.tmp 25) rfl rfl rfl (r.cs) rfl rfl (rw_one r) ?_; replace H := Lib.hid (H.out.alloc (r.cs) 43); (try simp only [List.set_cons_zero, List.set_cons_succ, List.cons_append, List.nil_append, List.eraseIdx_cons_zero, List.eraseIdx_cons_succ, List.setIfInBounds_toArray, World.size_alloc, selR, List.getD_cons_zero, List.getD_cons_succ] at H); replace HB := Lib.hid (HB.out.alloc (.cells r.cs 43)))) | ((with_reducible show wpList _ _ _ (⟨some 27, _, _, _, _, _⟩ :: _) _ _); (refine wpList_load_blk rfl rowSch (.tmp 2) rfl _ rfl (H.out.blk 0 rfl) rfl ?_)) | ((with_reducible show wpList _ _ _ (⟨some 28, _, _, _, _, _⟩ :: _) _ _); (refine wpList_load_blk rfl rowRw (.tmp 9) rfl _ rfl (H.out.blk 3 rfl) rfl ?_)))
      have HRo := Lib.hid (HR.out r _ (HRr.out.mono HB.out) H.out.to)
      rw [hks] at HRo
      refine HRo.out.mono ?_; rintro e w2 ⟨KA, kd, rfl, hb2, hown⟩
      replace H := Lib.hid (H.out.addRow hb2 hown); (try simp only [List.set_cons_zero, List.set_cons_succ, List.cons_append, List.nil_append, List.eraseIdx_cons_zero, List.eraseIdx_cons_succ, List.setIfInBounds_toArray, World.size_alloc, selR, List.getD_cons_zero, List.getD_cons_succ] at H)
      replace HB := Lib.hid (HB.out.trans hb2)
      clear hb2 hown HRo HR2
      have c1 := (H.out.blk 3 rfl).cell 1; simp only [List.getElem?_toArray, List.getElem?_cons_zero, List.getElem?_cons_succ] at c1
      obtain ⟨f, hf⟩ : ∃ f : Fct, f = ⟨⟨KA, ks.length, kd, ks⟩, Ag.of r.vs.l⟩ := ⟨_, rfl⟩
      have Hbf : Hid (∀ w : World, (Instr.build 84 #[(0, .slice KA ks.length kd), (1, .agg (Ag.of r.vs.l).cs)]).run Try.prog w = .ok (.agg f.cs) w) := by show ∀ w, _; rw [hf]; exact build_fct ⟨KA, ks.length, kd, ks⟩ (Ag.of r.vs.l)
      have HF := Lib.hid hf
      clear hf
      go_wp2_with fail
      refine (of_any _ _ _ _ _ (HVS.out _ HB.out) hv3).mono ?_; rintro e w7 ⟨rfl, hb7⟩
      replace H := Lib.hid (H.out.bel hb7); (try simp only [List.set_cons_zero, List.set_cons_succ, List.cons_append, List.nil_append, List.eraseIdx_cons_zero, List.eraseIdx_cons_succ, List.setIfInBounds_toArray, World.size_alloc, selR, List.getD_cons_zero, List.getD_cons_succ] at H)
      clear hb7 c1
      go_upto_region 10 with ((with_reducible show wpList _ _ _ (⟨_, .store _ (.tmp 12) _, _, _, _, _⟩ :: _) _ _); (refine wpList_store_new rfl rowAg (.tmp 12) (.tmp 36) rfl rfl rfl ((Ag.of r.vs.l).cs) rfl rfl (ag_one _) ?_; replace H := Lib.hid (H.out.alloc ((Ag.of r.vs.l).cs) 82); (try simp only [List.set_cons_zero, List.set_cons_succ, List.cons_append, List.nil_append, List.eraseIdx_cons_zero, List.eraseIdx_cons_succ, List.setIfInBounds_toArray, World.size_alloc, selR, List.getD_cons_zero, List.getD_cons_succ] at H)))
      generalize w7.heap.size = u9 at *
      generalize w7.alloc (.cells (Ag.of r.vs.l).cs 82) = w8 at *
      go_wp2_with (first | ((with_reducible show wpList _ _ _ (⟨some 40, _, _, _, _, _⟩ :: _) _ _); (refine wpList_load_blk rfl rowAg (.tmp 12) rfl _ rfl (H.out.blk 5 rfl) rfl ?_)) | ((with_reducible show wpList _ _ _ (⟨some 41, _, _, _, _, _⟩ :: _) _ _); refine wpList_build2 (vx := .slice KA ks.length kd) (vy := .agg (Ag.of r.vs.l).cs) (v := .agg f.cs) rfl (.tmp 39) (.tmp 40) rfl rfl rfl (Hbf.out) ?_) | ((with_reducible show wpList _ _ _ (⟨some 42, _, _, _, _, _⟩ :: _) _ _); (refine wpList_buildSlice1 rfl E_fct (.tmp 41) rfl (f.cs) rfl (fct_size f) (by omega) ?_; replace H := Lib.hid (H.out.addRow ((Bel.refl _).alloc _) (own_made _ 84 (f.cs) 11 (fct_size f))); (try simp only [List.set_cons_zero, List.set_cons_succ, List.cons_append, List.nil_append, List.eraseIdx_cons_zero, List.eraseIdx_cons_succ, List.setIfInBounds_toArray, World.size_alloc, selR, List.getD_cons_zero, List.getD_cons_succ] at H))) | ((with_reducible show wpList _ _ _ (⟨some 43, _, _, _, _, _⟩ :: _) _ _); (refine wpList_append0 rfl (.tmp 38) (.tmp 42) _ rfl E_fct 0 (Nat.zero_le _) _ k _ rfl (H.out.row 1 rfl) _ 1 1 _ rfl (Rd.of_own (H.out.row 6 rfl)) (fct_ones f) (by unfold maxLen; omega) (by omega) ?_; intro vq wq howq hgq hatq; replace H := Lib.hid (H.out.setRow 1 rfl hgq howq hatq); (try simp only [List.set_cons_zero, List.set_cons_succ, List.cons_append, List.nil_append, List.eraseIdx_cons_zero, List.eraseIdx_cons_succ, List.setIfInBounds_toArray, World.size_alloc, selR, List.getD_cons_zero, List.getD_cons_succ] at H); clear howq hgq hatq; obtain ⟨B9, c9, rfl, _⟩ := own_slice (H.out.row 1 rfl))))
      replace H := Lib.hid (H.out.turn 4 rfl (rFk f) (holds_fk HF.out (H.out.get 4 rfl) HKeys.out HAg.out) (fk_D HF.out)); (try simp only [List.set_cons_zero, List.set_cons_succ, List.cons_append, List.nil_append, List.eraseIdx_cons_zero, List.eraseIdx_cons_succ, List.setIfInBounds_toArray, World.size_alloc, selR, List.getD_cons_zero, List.getD_cons_succ] at H)
      replace H := Lib.hid (H.out.both 2 4 (by omega) rfl rfl (rList rFk (fs ++ [f])) (holds_list_snoc (H.out.get 2 rfl) (H.out.get 4 rfl)) list_snoc_D); (try simp only [List.set_cons_zero, List.set_cons_succ, List.cons_append, List.nil_append, List.eraseIdx_cons_zero, List.eraseIdx_cons_succ, List.setIfInBounds_toArray, World.size_alloc, selR, List.getD_cons_zero, List.getD_cons_succ] at H)
      replace H := Lib.hid (H.out.sel [0, 1, 2] (by decide) (by simp)); (try simp only [List.set_cons_zero, List.set_cons_succ, List.cons_append, List.nil_append, List.eraseIdx_cons_zero, List.eraseIdx_cons_succ, List.setIfInBounds_toArray, World.size_alloc, selR, List.getD_cons_zero, List.getD_cons_succ] at H)
      have HL2 : Hid ((fs ++ [f]).map Fct.con = ((rows.map Rw.con).take (k + 1)).map (facOf s.con)) := by
        show _ = _
        rw [HTK.out, List.map_append, List.map_append, HL.out, List.map_cons, List.map_cons, HFC.out, HF.out]
        rfl
      clear HL
      go_wp2_with fail
      go_roundg (n - (k + 1))
      case rel => exact ⟨k + 1, B9, c9, fs ++ [f], rfl, by omega, by go_num, rfl, by rw [List.flatMap_append, List.flatMap_cons, List.flatMap_nil, List.append_nil]; exact H, HL2⟩
      case measure => rw [Hgk.out]; omega
    · replace H := Lib.hid (H.out.both 1 2 (by omega) rfl rfl (rFac ⟨B, k, c, fs⟩) (holds_fac (H.out.get 1 rfl) (H.out.get 2 rfl) (by show k ≤ 300; omega)) (fun g hg => hg)); (try simp only [List.set_cons_zero, List.set_cons_succ, List.cons_append, List.nil_append, List.eraseIdx_cons_zero, List.eraseIdx_cons_succ, List.setIfInBounds_toArray, World.size_alloc, selR, List.getD_cons_zero, List.getD_cons_succ] at H)
      go_wp2
      go_ret2
      have hl := hlen.out
      exact ⟨⟨B, k, c, fs⟩, rfl, by show k = (rows.map Rw.con).length; rw [List.length_map]; omega, by rw [HL.out, List.take_of_length_le (by simp; omega)], H.out.to, H.out.get 1 rfl, H.out.new 1 rfl⟩

set_option maxRecDepth 100000 in
set_option maxHeartbeats 2000000 in
theorem rbatfacts_any (s : Sch) (x : Row Rw) (w : World) (hs : s.rd w) (hx : x.rd w) (hn : s.dm.n ≤ 1000000) (hm : s.ms.n ≤ 1000000) (hd : ∀ d ∈ s.dm.l, d.tr.n ≤ 1000000 ∧ ∀ t ∈ d.tr.l, t.up.n ≤ 100000) (hE : batErr s.con (x.l.map Rw.con) = 0) :
    Calls Try.prog 14 #[.agg s.cs, .slice x.A x.n x.c] w (FacPost s.con (x.l.map Rw.con) (fun X => .slice X.A X.n X.c) w) := by
  have HE := Lib.hid (batErr_zero hE).1
  have HOK := Lib.hid (batErr_zero hE).2.2
  have hn300 : x.n ≤ 300 := by have h1 := (batErr_zero hE).2.1; have h2 : x.l.length = x.n := hx.len; simp at h1; omega
  have HR := Lib.hid (fun r w' (hr : Rw.rd w' r) (hb : Bel w w') => rrow2_any s r w' (hs.mono hb) hr hn)
  have hlen : Hid (x.l.length = x.n) := hx.len
  have HX := Lib.hid hx
  have n63 := hx.n63
  have H := Lib.hid ((SL.start No w).alloc s.cs 25)
  (try simp only [List.set_cons_zero, List.set_cons_succ, List.cons_append, List.nil_append, List.eraseIdx_cons_zero, List.eraseIdx_cons_succ, List.setIfInBounds_toArray, World.size_alloc, selR, List.getD_cons_zero, List.getD_cons_succ] at H)
  obtain ⟨A, n, c, rows⟩ := x
  simp only at *
  have hcs : s.cs = #[.slice s.dm.A s.dm.n s.dm.c, .slice s.ms.A s.ms.n s.ms.c] := rfl
  have HCS := Lib.hid hcs
  clear hs hx hd hcs hE
  have HR2 : Hid True := trivial
  go_enter Try.func14, Try.ntmps14
  rw [← HCS.out] at *
  go_wp2_with fail
  generalize w.heap.size = x at *
  replace H := Lib.hid (H.out.addNil 84 11); (try simp only [List.set_cons_zero, List.set_cons_succ, List.cons_append, List.nil_append, List.eraseIdx_cons_zero, List.eraseIdx_cons_succ, List.setIfInBounds_toArray, World.size_alloc, selR, List.getD_cons_zero, List.getD_cons_succ] at H)
  replace H := Lib.hid (H.out.add (Bel.refl _) (rList rFk []) (holds_list_nil _ _) list_nil_D); (try simp only [List.set_cons_zero, List.set_cons_succ, List.cons_append, List.nil_append, List.eraseIdx_cons_zero, List.eraseIdx_cons_succ, List.setIfInBounds_toArray, World.size_alloc, selR, List.getD_cons_zero, List.getD_cons_succ] at H)
  have HL : Hid (([] : List Fct).map Fct.con = ((rows.map Rw.con).take 0).map (facOf s.con)) := rfl
  go_loopg [5, 12] n (fun gg s7 si wr => ∃ (k : Nat) (B : Option Addr) (c : Nat) (fs : List Fct), gg = n - k ∧ k ≤ n ∧ si = .int .i64 k ∧ s7 = .slice B k c ∧ Hid (SL No w wr [rBlk x 25 s.cs, rRow 84 11 (.slice B k c) k (fs.flatMap Cel.cells), rList rFk fs]) ∧ Hid (fs.map Fct.con = ((rows.map Rw.con).take k).map (facOf s.con)))
  case atStart => exact ⟨0, none, 0, [], rfl, by omega, rfl, rfl, H, HL⟩
  case round =>
    clear H HL
    obtain ⟨k, B, c, fs, hgk, hk, rfl, rfl, H, HL⟩ := hrel
    have Hgk := Lib.hid hgk
    clear hgk
    by_cases hlt : k < n
    · obtain ⟨bb, oo, r, hA, hbb, hrk, hrr, hrg⟩ := (HX.out.mono H.out.to).rwAt (k := k) hlt
      simp only at hA
      subst hA
      have hrc : (rows.map Rw.con)[k]? = some r.con := by rw [List.getElem?_map, hrk]; rfl
      obtain ⟨ks, hks⟩ := HOK.out r.con (List.mem_of_getElem? hrc)
      have HFC : Hid (facOf s.con r.con = (ks, Ag.of r.vs.l)) := by show _ = _; unfold facOf; rw [hks]
      obtain ⟨_, hvl, _⟩ := row_small HE.out hks
      have hv3 : r.vs.n ≤ 3 := by have h1 : r.vs.l.length = r.vs.n := hrr.vs.len; have h2 : r.vs.l.length ≤ 3 := hvl; omega
      have hkeys := rowOf_keys HE.out hks
      have HKeys := Lib.hid hkeys
      have hagok : (Ag.of r.vs.l).ok := of_ok (fun z hz => hrr.vs.all z hz)
      have HAg := Lib.hid hagok
      have HTK := Lib.hid (take_snoc_get hrc)
      have HRg := Lib.hid hrg
      have HRr := Lib.hid hrr
      have HVS := Lib.hid (fun w' (hb : Bel wr w') => (hrr.mono hb).vs.ints)
      clear hrk hrr hrg hrc hbb hvl hkeys hagok
      obtain ⟨W0, hW0⟩ : ∃ W0, W0 = wr := ⟨_, rfl⟩
      subst hW0
      have HB : Hid (Bel W0 W0) := Bel.refl _
      go_wp2_with (first | ((with_reducible show wpList _ _ _ (⟨some 15, _, _, _, _, _⟩ :: _) _ _); (refine wpList_load_row_at rfl rowRw (.tmp 14) rfl bb (oo + k * 2) rfl r.cs rfl HRg.out ?_)) | ((with_reducible show wpList _ _ _ (⟨_, .store _ (.tmp 7) _, _, _, _, _⟩ :: _) _ _); (refine wpList_store_new rfl rowRw (.tmp 7) (.tmp 15) rfl rfl rfl (r.cs) rfl rfl (rw_one r) ?_; replace H := Lib.hid (H.out.alloc (r.cs) 43); (try simp only [List.set_cons_zero, List.set_cons_succ, List.cons_append, List.nil_append, List.eraseIdx_cons_zero, List.eraseIdx_cons_succ, List.setIfInBounds_toArray, World.size_alloc, selR, List.getD_cons_zero, List.getD_cons_succ] at H); replace HB := Lib.hid (HB.out.alloc (.cells r.cs 43)))) | ((with_reducible show wpList _ _ _ (⟨some 17, _, _, _, _, _⟩ :: _) _ _); (refine wpList_load_blk rfl rowSch (.tmp 2) rfl _ rfl (H.out.blk 0 rfl) rfl ?_)) | ((with_reducible show wpList _ _ _ (⟨some 18, _, _, _, _, _⟩ :: _) _ _); (refine wpList_load_blk rfl rowRw (.tmp 7) rfl _ rfl (H.out.blk 3 rfl) rfl ?_)))
      have HRo := Lib.hid (HR.out r _ (HRr.out.mono HB.out) H.out.to)
      rw [hks] at HRo
      refine HRo.out.mono ?_; rintro e w2 ⟨KA, kd, rfl, hb2, hown⟩
      replace H := Lib.hid (H.out.addRow hb2 hown); (try simp only [List.set_cons_zero, List.set_cons_succ, List.cons_append, List.nil_append, List.eraseIdx_cons_zero, List.eraseIdx_cons_succ, List.setIfInBounds_toArray, World.size_alloc, selR, List.getD_cons_zero, List.getD_cons_succ] at H)
      replace HB := Lib.hid (HB.out.trans hb2)
      clear hb2 hown HRo HR2
      have c1 := (H.out.blk 3 rfl).cell 1; simp only [List.getElem?_toArray, List.getElem?_cons_zero, List.getElem?_cons_succ] at c1
      obtain ⟨f, hf⟩ : ∃ f : Fct, f = ⟨⟨KA, ks.length, kd, ks⟩, Ag.of r.vs.l⟩ := ⟨_, rfl⟩
      have Hbf : Hid (∀ w : World, (Instr.build 84 #[(0, .slice KA ks.length kd), (1, .agg (Ag.of r.vs.l).cs)]).run Try.prog w = .ok (.agg f.cs) w) := by show ∀ w, _; rw [hf]; exact build_fct ⟨KA, ks.length, kd, ks⟩ (Ag.of r.vs.l)
      have HF := Lib.hid hf
      clear hf
      go_wp2_with fail
      refine (rof_any _ _ _ _ _ (HVS.out _ HB.out) hv3).mono ?_; rintro e w7 ⟨rfl, hb7⟩
      replace H := Lib.hid (H.out.bel hb7); (try simp only [List.set_cons_zero, List.set_cons_succ, List.cons_append, List.nil_append, List.eraseIdx_cons_zero, List.eraseIdx_cons_succ, List.setIfInBounds_toArray, World.size_alloc, selR, List.getD_cons_zero, List.getD_cons_succ] at H)
      clear hb7 c1
      go_wp2_with (first | ((with_reducible show wpList _ _ _ (⟨some 27, _, _, _, _, _⟩ :: _) _ _); refine wpList_build2 (vx := .slice KA ks.length kd) (vy := .agg (Ag.of r.vs.l).cs) (v := .agg f.cs) rfl (.tmp 23) (.tmp 26) rfl rfl rfl (Hbf.out) ?_) | ((with_reducible show wpList _ _ _ (⟨some 28, _, _, _, _, _⟩ :: _) _ _); (refine wpList_buildSlice1 rfl E_fct (.tmp 27) rfl (f.cs) rfl (fct_size f) (by omega) ?_; replace H := Lib.hid (H.out.addRow ((Bel.refl _).alloc _) (own_made _ 84 (f.cs) 11 (fct_size f))); (try simp only [List.set_cons_zero, List.set_cons_succ, List.cons_append, List.nil_append, List.eraseIdx_cons_zero, List.eraseIdx_cons_succ, List.setIfInBounds_toArray, World.size_alloc, selR, List.getD_cons_zero, List.getD_cons_succ] at H))) | ((with_reducible show wpList _ _ _ (⟨some 29, _, _, _, _, _⟩ :: _) _ _); (refine wpList_append0 rfl (.tmp 22) (.tmp 28) _ rfl E_fct 0 (Nat.zero_le _) _ k _ rfl (H.out.row 1 rfl) _ 1 1 _ rfl (Rd.of_own (H.out.row 5 rfl)) (fct_ones f) (by unfold maxLen; omega) (by omega) ?_; intro vq wq howq hgq hatq; replace H := Lib.hid (H.out.setRow 1 rfl hgq howq hatq); (try simp only [List.set_cons_zero, List.set_cons_succ, List.cons_append, List.nil_append, List.eraseIdx_cons_zero, List.eraseIdx_cons_succ, List.setIfInBounds_toArray, World.size_alloc, selR, List.getD_cons_zero, List.getD_cons_succ] at H); clear howq hgq hatq; obtain ⟨B9, c9, rfl, _⟩ := own_slice (H.out.row 1 rfl))))
      replace H := Lib.hid (H.out.turn 4 rfl (rFk f) (holds_fk HF.out (H.out.get 4 rfl) HKeys.out HAg.out) (fk_D HF.out)); (try simp only [List.set_cons_zero, List.set_cons_succ, List.cons_append, List.nil_append, List.eraseIdx_cons_zero, List.eraseIdx_cons_succ, List.setIfInBounds_toArray, World.size_alloc, selR, List.getD_cons_zero, List.getD_cons_succ] at H)
      replace H := Lib.hid (H.out.both 2 4 (by omega) rfl rfl (rList rFk (fs ++ [f])) (holds_list_snoc (H.out.get 2 rfl) (H.out.get 4 rfl)) list_snoc_D); (try simp only [List.set_cons_zero, List.set_cons_succ, List.cons_append, List.nil_append, List.eraseIdx_cons_zero, List.eraseIdx_cons_succ, List.setIfInBounds_toArray, World.size_alloc, selR, List.getD_cons_zero, List.getD_cons_succ] at H)
      replace H := Lib.hid (H.out.sel [0, 1, 2] (by decide) (by simp)); (try simp only [List.set_cons_zero, List.set_cons_succ, List.cons_append, List.nil_append, List.eraseIdx_cons_zero, List.eraseIdx_cons_succ, List.setIfInBounds_toArray, World.size_alloc, selR, List.getD_cons_zero, List.getD_cons_succ] at H)
      have HL2 : Hid ((fs ++ [f]).map Fct.con = ((rows.map Rw.con).take (k + 1)).map (facOf s.con)) := by
        show _ = _
        rw [HTK.out, List.map_append, List.map_append, HL.out, List.map_cons, List.map_cons, HFC.out, HF.out]
        rfl
      clear HL
      go_wp2_with fail
      go_roundg (n - (k + 1))
      case rel => exact ⟨k + 1, B9, c9, fs ++ [f], rfl, by omega, by go_num, rfl, by rw [List.flatMap_append, List.flatMap_cons, List.flatMap_nil, List.append_nil]; exact H, HL2⟩
      case measure => rw [Hgk.out]; omega
    · replace H := Lib.hid (H.out.both 1 2 (by omega) rfl rfl (rFac ⟨B, k, c, fs⟩) (holds_fac (H.out.get 1 rfl) (H.out.get 2 rfl) (by show k ≤ 300; omega)) (fun g hg => hg)); (try simp only [List.set_cons_zero, List.set_cons_succ, List.cons_append, List.nil_append, List.eraseIdx_cons_zero, List.eraseIdx_cons_succ, List.setIfInBounds_toArray, World.size_alloc, selR, List.getD_cons_zero, List.getD_cons_succ] at H)
      go_wp2
      go_ret
      have hl := hlen.out
      exact ⟨⟨B, k, c, fs⟩, rfl, by show k = (rows.map Rw.con).length; rw [List.length_map]; omega, by rw [HL.out, List.take_of_length_le (by simp; omega)], H.out.to, H.out.get 1 rfl, H.out.new 1 rfl⟩

end Go.Proofs.Ytelnhhbefdfeoaa
