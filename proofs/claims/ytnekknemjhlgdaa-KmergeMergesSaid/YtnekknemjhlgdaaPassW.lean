/- kmerge.Passes. -/
import Derived.Test.YtnekknemjhlgdaaPassP
namespace Go.Proofs.Ytnekknemjhlgdaa
open Go.RowKit Go.Shelf
attribute [local go_sem] Oper.semAt_some
set_option linter.unusedVariables false
set_option linter.unusedSimpArgs false


/-- How kmerge.Passes ends. -/
def PassPost (l : List Con) (k : Nat) (w : World) (e : Ending) (w' : World) : Prop := ∃ v fs, e = .returned (.tuple #[v, .int .i64 k, .int .i64 0]) ∧ Gath w w' v fs ∧ cons fs = l
def rowLen : Value → Nat
  | .slice _ m _ => m
  | _ => 0
theorem passF_le (fan : Nat) : ∀ (f n : Nat), passF fan f n ≤ f
  | 0, _ => Nat.le_refl _
  | f + 1, n => by
    rw [passF]
    split
    · omega
    · have := passF_le fan f ((n + fan - 1) / fan)
      omega
/-- Where the passes stand. -/
structure PIn (fan : Nat) (w0 : World) (N : Nat) (R : List (List Con)) (wr : World) (m k c : Nat) (A : Option Addr) (rs : List (Row Fct)) (ds : List Nat) : Prop where
  good : GoodR wr ⟨A, m, c, rs⟩
  bel : Bel w0 wr
  cnt : k + passN fan m = passN fan N
  kN : k ≤ 1000000
  srt : sortC (runsC rs).flatten = sortC R.flatten
  mks : Marked w0.heap.size wr ds
theorem Gath.put {w0 w : World} {v : Value} {fs : List Fct} (h : Gath w0 w v fs) {D : Nat} (hD : w0.heap.size ≤ D) (hK : w.heap[D]? = some (.deferred (some []))) : Gath w0 (w.putObj D (.deferred none)) v fs := by
  have hg := grownBy_putObj' w D (.deferred none)
  have hr : ∀ r, some D = some r → ∃ o : Obj, w.heap[r]? = some o ∧ o.isCells = false := fun r e => by injection e with e; subst e; exact ⟨_, hK, rfl⟩
  have hck : Ck w (w.putObj D (.deferred none)) := ⟨hg.size, fun p u hp => cell_kept hp hg hr⟩
  refine ⟨Below.trans h.bel (belowK_b (w := w0) (Nat.le_refl _) w D _ _ hD hK rfl rfl), ?_, fun f hf => fct_ck (h.ok f hf) hck, h.away, h.new⟩
  have hq := ownsRow_putObj h.own (.deferred none) hK rfl
  exact hq
theorem bel_put {w0 w : World} (h : Bel w0 w) {D : Nat} (hD : w0.heap.size ≤ D) (hK : w.heap[D]? = some (.deferred (some []))) : Bel w0 (w.putObj D (.deferred none)) := Below.trans h (belowK_b (w := w0) (Nat.le_refl _) w D _ _ hD hK rfl rfl)

set_option maxRecDepth 100000 in
set_option maxHeartbeats 4000000 in
theorem passes_in (n : Nat) (hn : 4 ≤ n) (fan : Nat) (x : Row (Row Fct)) (w : World) (hx : GoodR w x) (hf : 2 ≤ fan) (hf2 : fan ≤ 9223372036854775807) :
    CallsIn Fence.wide n Try.prog 52 #[.int .i64 fan, .slice x.A x.n x.c] w (PassPost (sortC (runsC x.l).flatten) (passN fan x.n) w) := by
  have h1 : 1 ≤ n := by omega
  have d : decide ((fan : Int) < 2) = false := by simp <;> omega
  refine callsIn_of_wp_marks Try.func52 rfl trivial ?_ rfl
  simp only [Try.ntmps52, List.size_toArray, List.length_cons, List.length_nil, Nat.reduceAdd, Nat.reduceSub, Array.replicate_succ, Array.replicate_zero, List.push_toArray, List.append_toArray, List.nil_append, List.cons_append]
  obtain ⟨XA, XN, XC, XL⟩ := x
  simp only at *
  obtain ⟨R, hR⟩ : ∃ R, R = runsC XL := ⟨_, rfl⟩
  rw [← hR]
  have HI0 : Hid (PIn fan w XN R w XN 0 XC XA XL []) := ⟨hx, Bel.refl _, by omega, by omega, by rw [hR], ⟨List.nodup_nil, fun D hD => by cases hD⟩⟩
  have hXN : XN ≤ 1000 := hx.n
  clear hx hR
  gi_wp2_with fail
  refine wpIn_loop (fun a wr => ∃ (m k c : Nat) (A : Option Addr) (rs : List (Row Fct)) (ds : List Nat) (u8 u12 u13 u14 u15 u16 u17 u18 u19 u26 : Value), a = { tmps := #[.int .i64 fan, .slice A m c, undef, undef, .slice none 0 0, .int .i64 0, .int .i64 0, .int .i64 k, u8, undef, .int .i64 fan, .bool false, u12, u13, u14, u15, u16, u17, u18, u19, undef, undef, undef, undef, undef, undef, u26, undef, undef, undef, undef, undef, undef, undef, undef, undef], defers := marks ds } ∧ Hid (PIn fan w XN R wr m k c A rs ds)) (fun a _ => rowLen (a.tmps.getD 1 undef)) ?_ ?_
  · exact ⟨XN, 0, XC, XA, XL, [], undef, undef, undef, undef, undef, undef, undef, undef, undef, undef, rfl, HI0⟩
  clear HI0
  rintro a wr ⟨m, k, c, A, rs, ds, u8, u12, u13, u14, u15, u16, u17, u18, u19, u26, rfl, HI⟩
  by_cases hm : 1 < m
  · have d1 : decide ((1 : Int) < m) = true := by simp <;> omega
    have hlen : rs.length = m := HI.out.good.ok.len
    have hm1000 : m ≤ 1000 := HI.out.good.n
    obtain ⟨b, o, hA⟩ : ∃ b o, A = some ⟨b, o, none⟩ := by
      obtain ⟨b, o, _, e, _⟩ := rd_at HI.out.good.ok.rd (k := 0) (by show 0 < m; omega)
      exact ⟨b, o, e⟩
    subst hA
    have Hl := Lib.hid hlen
    clear hlen
    gi_wp2_with fail
    refine ⟨trivial, ?_⟩
    refine (chunkR_in (n - 1) _ _ _ fan (by omega) _).mono ?_; rintro e w' ⟨rfl, rfl⟩
    gi_wp2
    have bO := ((Boxed.new wr 94 (.slice none 0 0)).alloc (.cells #[.slice (some ⟨b, o, none⟩) m c] 94)).alloc (.cells #[.int .i64 fan] 3)
    have bS := (Boxed.new (wr.alloc (.cells #[.slice none 0 0] 94)) 94 (.slice (some ⟨b, o, none⟩) m c)).alloc (.cells #[.int .i64 fan] 3)
    have bN := Boxed.new ((wr.alloc (.cells #[.slice none 0 0] 94)).alloc (.cells #[.slice (some ⟨b, o, none⟩) m c] 94)) 3 (.int .i64 fan)
    rw [World.size_alloc, World.size_alloc] at bN
    rw [World.size_alloc] at bS
    have hB0 : Bel wr (((wr.alloc (.cells #[.slice none 0 0] 94)).alloc (.cells #[.slice (some ⟨b, o, none⟩) m c] 94)).alloc (.cells #[.int .i64 fan] 3)) := (((Bel.refl wr).alloc _).alloc _).alloc _
    have hsz : (((wr.alloc (.cells #[.slice none 0 0] 94)).alloc (.cells #[.slice (some ⟨b, o, none⟩) m c] 94)).alloc (.cells #[.int .i64 fan] 3)).heap.size = wr.heap.size + 3 := by simp
    generalize ((wr.alloc (.cells #[.slice none 0 0] 94)).alloc (.cells #[.slice (some ⟨b, o, none⟩) m c] 94)).alloc (.cells #[.int .i64 fan] 3) = W0 at *
    have HsO := Lib.hid bO
    obtain ⟨i0, hi0, hz0, hz1, hz2⟩ := info_parts info_fcts
    have Hi0 := Lib.hid hi0
    have Hz0 := Lib.hid hz0
    have Hz1 := Lib.hid hz1
    have Hz2 := Lib.hid hz2
    clear hi0 hz0 hz1 hz2
    have P0 : Parts W0 W0 wr.heap.size (.slice none 0 0) [] := ⟨bO, ⟨rfl, .inl ⟨rfl, rfl⟩⟩, by simp, by simp, by simp⟩
    have hne1 : wr.heap.size + 1 < W0.heap.size := by omega
    have hne2 : wr.heap.size + 1 + 1 < W0.heap.size := by omega
    have Hsz := Lib.hid hsz
    clear hsz bO
    refine wpIn_rangeFunc_ownG rfl h1 (gf := 174) (lb := #[.pointer (some ⟨wr.heap.size + 1, 0, none⟩), .pointer (some ⟨wr.heap.size + 1 + 1, 0, none⟩)]) rfl trivial (enters_of Try.func174 (by kernel_rfl) rfl)
      (chunkR_stops (n - 1) (by omega) (wr.heap.size + 1) (wr.heap.size + 1 + 1) b o c m fan rs wr W0 HI.out.good (by omega) hf2 hne1 hne2 bS.cell bN.cell) KeepC.trans (fun W l o o' hl _ _ _ => keepC_putObj (by omega) (by omega)) (Below.refl _ _) (fun _ => rfl)
      (fun pre W => (∃ v rs', Parts W0 W wr.heap.size v rs' ∧ Hid (rs'.map (fun r => cons r.l) = pre.map (fun x => sortC (runsC x.1.l).flatten)) ∧ Hid (∀ r ∈ rs', r.n ≤ 1000)) ∧ Below wr.heap.size wr W ∧ W0.heap.size ≤ W.heap.size)
      (fun _ _ _ => False)
      (fun s A B row hs hg hr => by
        obtain ⟨⟨v, rs', h1, h2, h3⟩, h4, h5⟩ := hs
        exact ⟨⟨v, rs', h1.kept hg (fun r e => (hr r e).2), h2, h3⟩, h4.grown hg h4.size (fun k e => Nat.le_trans (by omega) (hr k e).1), Nat.le_trans h5 hg.size⟩)
      (fun _ _ _ _ _ hs _ _ => hs)
      ⟨⟨_, [], P0, rfl, fun r h => by simp at h⟩, hB0, Nat.le_refl _⟩
      (fun x => { tmps := #[.int .i64 fan, .slice (some ⟨b, o, none⟩) m c, undef, undef, .slice none 0 0, .int .i64 0, .int .i64 0, .int .i64 k, .pointer (some ⟨wr.heap.size, 0, none⟩), x.1.v, .int .i64 fan, .bool false, .slice (some ⟨b, o, none⟩) m c, .int .i64 m, .bool true, u15, u16, .slice (some ⟨b, o, none⟩) m c, .int .i64 fan, .func (.func 174) #[] #[.pointer (some ⟨wr.heap.size + 1, 0, none⟩), .pointer (some ⟨wr.heap.size + 1 + 1, 0, none⟩)], x.1.v, undef, undef, undef, undef, undef, u26, undef, undef, undef, undef, undef, undef, undef, undef, undef], defers := [] }) ?assign ?body ?done ?stop
    case assign =>
      intro l x W K hK
      gi_wp2
      exact hK
    case body =>
      rintro lp pre x W ⟨⟨v, rs, hP, hcon, hrn⟩, hB, hW0⟩ hlt
      obtain ⟨⟨xA, xn, xc, xl⟩, hxo⟩ := x
      simp only [Row.v] at *
      have hd : 1 ≤ n - 1 - 1 := by omega
      have hmx : Try.prog.follows .mixedOrders = true := by kernel_rfl
      have hc := hP.box.cell
      have hBw : Bel wr W.drew := (show Bel wr W from hB).drew
      have Hxo : Hid (GoodR W.drew ⟨xA, xn, xc, xl⟩) := ⟨hxo.ok.mono hBw, hxo.n, hxo.s, hxo.t⟩
      have hlen : rs.length = pre.length := by have := congrArg List.length hcon.out; simpa using this
      have hpl : pre.length ≤ 1000 := by have := Hl.out; omega
      have Hlen := Lib.hid hlen
      clear hlen
      have hPd : Parts W0 W.drew wr.heap.size v rs := hP.keep (Bel.refl W).drew
      gi_wp2
      refine wpIn_region_any (by kernel_rfl) ?_
      refine wpAnyIn_ready (rs := [0, 1]) (by kernel_rfl) (by simp) ?_
      refine AllReadyIn.cons rfl (fun K hK => ?_) (AllReadyIn.cons rfl (fun K hK => ?_) AllReadyIn.nil)
      · go_simp
        refine hK _ _ ?_; clear hK K
        refine wpAnyIn_ready (rs := [1]) (by kernel_rfl) (by simp) ?_
        refine AllReadyIn.cons rfl (fun K hK => ?_) AllReadyIn.nil
        go_simp
        refine hK _ _ ?_; clear hK K
        refine wpAnyIn_ready (rs := [2]) (by kernel_rfl) (by simp) ?_
        refine AllReadyIn.cons rfl (fun K hK => ?_) AllReadyIn.nil
        go_simp
        refine ⟨trivial, ?_⟩
        refine (CallsIn.inRound lp (callsIn_wide.2 (merge_any _ ⟨xA, xn, xc, xl⟩ Hxo.out.ok Hxo.out.n (by have := Hxo.out.t; omega) Hxo.out.s))).mono ?_
        rintro e w2 ⟨cv, fs, rfl, hGa, hcons⟩
        obtain ⟨⟨yA, yn, yc, yl⟩, rfl, hyo, hyl, hyn⟩ := gath_row hGa (by have h1 := congrArg List.length hcons; rw [cons_len, sortC_len] at h1; have h2 := Hxo.out.t; simp only at h1 h2; omega)
        have hP2 := hPd.keep hGa.bel
        have hP3 := hP2.keep ((Bel.refl w2).alloc (.cells #[.slice yA yn yc] 75))
        have hc2 := hP2.box.cell
        have hc3 := hP3.box.cell
        obtain ⟨v', w4, hrun, hown4, hg4, hat4⟩ := run_append_any (P := Try.prog) (w2.alloc (.cells #[.slice yA yn yc] 75)) W0.heap.size 94 94 75 i0 (.slice none 0 0) 1 24 Try.underlying94 Hi0.out Hz0.out Hz1.out Hz2.out rfl (by decide) v rs.length (rs.map Row.v) hP3.own _ (some ⟨w2.heap.size, 0, none⟩) 1 1 [.slice yA yn yc] (rd_new w2 _ _ 1 1 rfl) (by simp [Value.oneCell']) (by unfold maxLen; rw [Hlen.out]; omega) (by rw [Hlen.out]; omega) (by have := hGa.bel.size; simp at this ⊢; omega)
        obtain ⟨g', cap', rfl⟩ := ownsRow_succ hown4
        have hbx4 := hP3.box.kept hg4 (hP3.box.not_row (by decide) hP3.own)
        have hc4 := hbx4.cell
        have hf4 := hbx4.frozen
        have Hrun := Lib.hid hrun
        clear hrun
        simp only [Row.v]
        refine hK _ _ ?_; clear hK K
        refine wpAnyIn_ready (rs := [3]) (by kernel_rfl) (by simp) ?_
        refine AllReadyIn.cons rfl (fun K hK => ?_) AllReadyIn.nil
        go_simp
        refine hK _ _ ?_; clear hK K
        refine wpAnyIn_ready (rs := [4]) (by kernel_rfl) (by simp) ?_
        refine AllReadyIn.cons rfl (fun K hK => ?_) AllReadyIn.nil
        refine stepIn_append rfl (.tmp 21) (.tmp 24) _ rfl _ _ rfl rfl Hrun.out ?_
        refine hK _ _ ?_; clear hK K
        refine wpAnyIn_ready (rs := [5]) (by kernel_rfl) (by simp) ?_
        refine AllReadyIn.cons rfl (fun K hK => ?_) AllReadyIn.nil
        go_simp
        refine hK _ _ ?_; clear hK K
        refine wpAnyIn_done (by kernel_rfl) ?_ _
        obtain ⟨k1, k2, k3, k4, k5⟩ := cut_round hne1 hne2 (by omega) hP hW0 (show Bel wr W from hB) hGa hyo hyl hP3 hown4 hg4 hat4 hbx4
        refine ⟨k1, k2, ⟨_, rs ++ [⟨yA, yn, yc, yl⟩], k3, ?_, ?_⟩, k4, k5⟩
        · show _ = _
          rw [List.map_append, List.map_append, hcon.out]
          have e1 : cons yl = sortC (runsC xl).flatten := by have h1 : yl = fs := hyl; rw [h1]; exact hcons
          simp only [List.map_cons, List.map_nil, e1]
        · intro r hr
          rcases List.mem_append.1 hr with h | h
          · exact hrn.out r h
          · rw [List.mem_singleton] at h
            subst h
            have h1 := congrArg List.length hcons
            rw [cons_len, sortC_len] at h1
            have h2 := Hxo.out.t
            simp only at h1 h2 hyn ⊢
            omega
      · go_simp
        refine hK _ _ ?_; clear hK K
        refine wpAnyIn_ready (rs := [0, 2]) (by kernel_rfl) (by simp) ?_
        refine AllReadyIn.cons rfl (fun K hK => ?_) (AllReadyIn.cons rfl (fun K hK => ?_) AllReadyIn.nil)
        · go_simp
          refine hK _ _ ?_; clear hK K
          refine wpAnyIn_ready (rs := [2]) (by kernel_rfl) (by simp) ?_
          refine AllReadyIn.cons rfl (fun K hK => ?_) AllReadyIn.nil
          go_simp
          refine ⟨trivial, ?_⟩
          refine (CallsIn.inRound lp (callsIn_wide.2 (merge_any _ ⟨xA, xn, xc, xl⟩ Hxo.out.ok Hxo.out.n (by have := Hxo.out.t; omega) Hxo.out.s))).mono ?_
          rintro e w2 ⟨cv, fs, rfl, hGa, hcons⟩
          obtain ⟨⟨yA, yn, yc, yl⟩, rfl, hyo, hyl, hyn⟩ := gath_row hGa (by have h1 := congrArg List.length hcons; rw [cons_len, sortC_len] at h1; have h2 := Hxo.out.t; simp only at h1 h2; omega)
          have hP2 := hPd.keep hGa.bel
          have hP3 := hP2.keep ((Bel.refl w2).alloc (.cells #[.slice yA yn yc] 75))
          have hc2 := hP2.box.cell
          have hc3 := hP3.box.cell
          obtain ⟨v', w4, hrun, hown4, hg4, hat4⟩ := run_append_any (P := Try.prog) (w2.alloc (.cells #[.slice yA yn yc] 75)) W0.heap.size 94 94 75 i0 (.slice none 0 0) 1 24 Try.underlying94 Hi0.out Hz0.out Hz1.out Hz2.out rfl (by decide) v rs.length (rs.map Row.v) hP3.own _ (some ⟨w2.heap.size, 0, none⟩) 1 1 [.slice yA yn yc] (rd_new w2 _ _ 1 1 rfl) (by simp [Value.oneCell']) (by unfold maxLen; rw [Hlen.out]; omega) (by rw [Hlen.out]; omega) (by have := hGa.bel.size; simp at this ⊢; omega)
          obtain ⟨g', cap', rfl⟩ := ownsRow_succ hown4
          have hbx4 := hP3.box.kept hg4 (hP3.box.not_row (by decide) hP3.own)
          have hc4 := hbx4.cell
          have hf4 := hbx4.frozen
          have Hrun := Lib.hid hrun
          clear hrun
          simp only [Row.v]
          refine hK _ _ ?_; clear hK K
          refine wpAnyIn_ready (rs := [3]) (by kernel_rfl) (by simp) ?_
          refine AllReadyIn.cons rfl (fun K hK => ?_) AllReadyIn.nil
          go_simp
          refine hK _ _ ?_; clear hK K
          refine wpAnyIn_ready (rs := [4]) (by kernel_rfl) (by simp) ?_
          refine AllReadyIn.cons rfl (fun K hK => ?_) AllReadyIn.nil
          refine stepIn_append rfl (.tmp 21) (.tmp 24) _ rfl _ _ rfl rfl Hrun.out ?_
          refine hK _ _ ?_; clear hK K
          refine wpAnyIn_ready (rs := [5]) (by kernel_rfl) (by simp) ?_
          refine AllReadyIn.cons rfl (fun K hK => ?_) AllReadyIn.nil
          go_simp
          refine hK _ _ ?_; clear hK K
          refine wpAnyIn_done (by kernel_rfl) ?_ _
          obtain ⟨k1, k2, k3, k4, k5⟩ := cut_round hne1 hne2 (by omega) hP hW0 (show Bel wr W from hB) hGa hyo hyl hP3 hown4 hg4 hat4 hbx4
          refine ⟨k1, k2, ⟨_, rs ++ [⟨yA, yn, yc, yl⟩], k3, ?_, ?_⟩, k4, k5⟩
          · show _ = _
            rw [List.map_append, List.map_append, hcon.out]
            have e1 : cons yl = sortC (runsC xl).flatten := by have h1 : yl = fs := hyl; rw [h1]; exact hcons
            simp only [List.map_cons, List.map_nil, e1]
          · intro r hr
            rcases List.mem_append.1 hr with h | h
            · exact hrn.out r h
            · rw [List.mem_singleton] at h
              subst h
              have h1 := congrArg List.length hcons
              rw [cons_len, sortC_len] at h1
              have h2 := Hxo.out.t
              simp only at h1 h2 hyn ⊢
              omega
        · skip
          go_simp
          refine ⟨trivial, ?_⟩
          refine (CallsIn.inRound lp (callsIn_wide.2 (merge_any _ ⟨xA, xn, xc, xl⟩ Hxo.out.ok Hxo.out.n (by have := Hxo.out.t; omega) Hxo.out.s))).mono ?_
          rintro e w2 ⟨cv, fs, rfl, hGa, hcons⟩
          obtain ⟨⟨yA, yn, yc, yl⟩, rfl, hyo, hyl, hyn⟩ := gath_row hGa (by have h1 := congrArg List.length hcons; rw [cons_len, sortC_len] at h1; have h2 := Hxo.out.t; simp only at h1 h2; omega)
          have hP2 := hPd.keep hGa.bel
          have hP3 := hP2.keep ((Bel.refl w2).alloc (.cells #[.slice yA yn yc] 75))
          have hc2 := hP2.box.cell
          have hc3 := hP3.box.cell
          obtain ⟨v', w4, hrun, hown4, hg4, hat4⟩ := run_append_any (P := Try.prog) (w2.alloc (.cells #[.slice yA yn yc] 75)) W0.heap.size 94 94 75 i0 (.slice none 0 0) 1 24 Try.underlying94 Hi0.out Hz0.out Hz1.out Hz2.out rfl (by decide) v rs.length (rs.map Row.v) hP3.own _ (some ⟨w2.heap.size, 0, none⟩) 1 1 [.slice yA yn yc] (rd_new w2 _ _ 1 1 rfl) (by simp [Value.oneCell']) (by unfold maxLen; rw [Hlen.out]; omega) (by rw [Hlen.out]; omega) (by have := hGa.bel.size; simp at this ⊢; omega)
          obtain ⟨g', cap', rfl⟩ := ownsRow_succ hown4
          have hbx4 := hP3.box.kept hg4 (hP3.box.not_row (by decide) hP3.own)
          have hc4 := hbx4.cell
          have hf4 := hbx4.frozen
          have Hrun := Lib.hid hrun
          clear hrun
          simp only [Row.v]
          refine hK _ _ ?_; clear hK K
          refine wpAnyIn_ready (rs := [0, 3]) (by kernel_rfl) (by simp) ?_
          refine AllReadyIn.cons rfl (fun K hK => ?_) (AllReadyIn.cons rfl (fun K hK => ?_) AllReadyIn.nil)
          · go_simp
            refine hK _ _ ?_; clear hK K
            refine wpAnyIn_ready (rs := [3]) (by kernel_rfl) (by simp) ?_
            refine AllReadyIn.cons rfl (fun K hK => ?_) AllReadyIn.nil
            go_simp
            refine hK _ _ ?_; clear hK K
            refine wpAnyIn_ready (rs := [4]) (by kernel_rfl) (by simp) ?_
            refine AllReadyIn.cons rfl (fun K hK => ?_) AllReadyIn.nil
            refine stepIn_append rfl (.tmp 21) (.tmp 24) _ rfl _ _ rfl rfl Hrun.out ?_
            refine hK _ _ ?_; clear hK K
            refine wpAnyIn_ready (rs := [5]) (by kernel_rfl) (by simp) ?_
            refine AllReadyIn.cons rfl (fun K hK => ?_) AllReadyIn.nil
            go_simp
            refine hK _ _ ?_; clear hK K
            refine wpAnyIn_done (by kernel_rfl) ?_ _
            obtain ⟨k1, k2, k3, k4, k5⟩ := cut_round hne1 hne2 (by omega) hP hW0 (show Bel wr W from hB) hGa hyo hyl hP3 hown4 hg4 hat4 hbx4
            refine ⟨k1, k2, ⟨_, rs ++ [⟨yA, yn, yc, yl⟩], k3, ?_, ?_⟩, k4, k5⟩
            · show _ = _
              rw [List.map_append, List.map_append, hcon.out]
              have e1 : cons yl = sortC (runsC xl).flatten := by have h1 : yl = fs := hyl; rw [h1]; exact hcons
              simp only [List.map_cons, List.map_nil, e1]
            · intro r hr
              rcases List.mem_append.1 hr with h | h
              · exact hrn.out r h
              · rw [List.mem_singleton] at h
                subst h
                have h1 := congrArg List.length hcons
                rw [cons_len, sortC_len] at h1
                have h2 := Hxo.out.t
                simp only at h1 h2 hyn ⊢
                omega
          · go_simp
            refine hK _ _ ?_; clear hK K
            refine wpAnyIn_ready (rs := [0]) (by kernel_rfl) (by simp) ?_
            refine AllReadyIn.cons rfl (fun K hK => ?_) AllReadyIn.nil
            go_simp
            refine hK _ _ ?_; clear hK K
            refine wpAnyIn_ready (rs := [4]) (by kernel_rfl) (by simp) ?_
            refine AllReadyIn.cons rfl (fun K hK => ?_) AllReadyIn.nil
            refine stepIn_append rfl (.tmp 21) (.tmp 24) _ rfl _ _ rfl rfl Hrun.out ?_
            refine hK _ _ ?_; clear hK K
            refine wpAnyIn_ready (rs := [5]) (by kernel_rfl) (by simp) ?_
            refine AllReadyIn.cons rfl (fun K hK => ?_) AllReadyIn.nil
            go_simp
            refine hK _ _ ?_; clear hK K
            refine wpAnyIn_done (by kernel_rfl) ?_ _
            obtain ⟨k1, k2, k3, k4, k5⟩ := cut_round hne1 hne2 (by omega) hP hW0 (show Bel wr W from hB) hGa hyo hyl hP3 hown4 hg4 hat4 hbx4
            refine ⟨k1, k2, ⟨_, rs ++ [⟨yA, yn, yc, yl⟩], k3, ?_, ?_⟩, k4, k5⟩
            · show _ = _
              rw [List.map_append, List.map_append, hcon.out]
              have e1 : cons yl = sortC (runsC xl).flatten := by have h1 : yl = fs := hyl; rw [h1]; exact hcons
              simp only [List.map_cons, List.map_nil, e1]
            · intro r hr
              rcases List.mem_append.1 hr with h | h
              · exact hrn.out r h
              · rw [List.mem_singleton] at h
                subst h
                have h1 := congrArg List.length hcons
                rw [cons_len, sortC_len] at h1
                have h2 := Hxo.out.t
                simp only at h1 h2 hyn ⊢
                omega
    case done =>
      rintro D ys W hD ⟨K, hk1, hk2, rfl⟩ ⟨⟨v, rs', hP, hcon, hrn⟩, hB, hW0⟩ hK
      have hstep := passN_step hf hm (K := K) (by rw [← Hl.out]; exact hk1) (by rw [← Hl.out]; exact hk2)
      have HST := Lib.hid hstep
      have hrl : runsC rs' = upto (fun j => sortC (((runsC rs).drop (j * fan)).take fan).flatten) K := by
        have h := hcon.out
        rw [upto_map] at h
        show rs'.map (fun r => cons r.l) = _
        rw [h]
        congr 1
        funext j
        show sortC (runsC ((rs.drop (j * fan)).take fan)).flatten = _
        rw [runsC_part]
      have hKl : rs'.length = K := by have h := congrArg List.length hrl; rw [List.length_map, upto_length] at h; exact h
      obtain ⟨A', c', rfl, hle⟩ := own_slice hP.own
      have hRK : (runsC rs).length ≤ K * fan := by rw [List.length_map]; exact hk1
      have HNew : Hid (PIn fan w XN R W K (k + 1) c' A' rs' (D :: ds)) := by
        refine ⟨⟨own_okK (x := ⟨A', K, c', rs'⟩) (by rw [flat_fcts]; have h := hP.own; rw [hKl] at h; exact h) (fun r hr => hP.ok r hr) (by show K * 24 ≤ _; omega), by show K ≤ 1000; omega, fun r hr => ?_, ?_⟩, Below.trans HI.out.bel (hB.mono HI.out.bel.size), ?_, ?_, ?_, ?_, ?_⟩
        · have hr : r ∈ runsC rs' := hr
          rw [hrl] at hr
          obtain ⟨j, _, rfl⟩ := List.mem_map.1 hr
          exact srt_sort _
        · show (runsC rs').flatten.length ≤ 1000
          rw [hrl, chunks_len _ _ _ hRK]
          exact HI.out.good.t
        · have := HI.out.cnt; omega
        · have := HI.out.cnt; have h2 : passN fan XN ≤ XN := passF_le fan XN XN; show k + 1 ≤ 1000000; omega
        · rw [hrl, chunks_sort _ _ _ hRK]
          exact HI.out.srt
        · refine List.nodup_cons.2 ⟨fun hm2 => ?_, HI.out.mks.1⟩
          have h := (Array.getElem?_eq_some_iff.1 (HI.out.mks.2 D hm2).2).1
          omega
        · intro E hE
          rcases List.mem_cons.1 hE with rfl | hE
          · exact ⟨by have := HI.out.bel.size; omega, hK⟩
          · have h := HI.out.mks.2 E hE
            exact ⟨h.1, by rw [← h.2]; exact hB.block E (Array.getElem?_eq_some_iff.1 h.2).1⟩
      have hc := hP.box.cell
      rw [hKl] at hc
      have hkk : k ≤ 1000 := by have := HI.out.cnt; have h2 : passN fan XN ≤ XN := passF_le fan XN XN; omega
      clear hrl hcon hrn hP hk1 hk2 hstep hRK hle hKl
      gi_wp2
      exact ⟨⟨K, k + 1, c', A', rs', D :: ds, _, _, _, _, _, _, _, _, _, _, by first | rfl | (simp [marks]; done), HNew⟩, by show K < m; exact HST.out.2⟩
    case stop =>
      rintro D c pre W _ _ h _
      exact h.elim
  · have d1 : decide ((1 : Int) < m) = false := by simp <;> omega
    have hcnt : k = passN fan XN := by have h := HI.out.cnt; rw [passN_small (by omega)] at h; omega
    have HCn := Lib.hid hcnt
    clear hcnt
    by_cases hm0 : m = 0
    · subst hm0
      have hrs : rs = [] := List.eq_nil_of_length_eq_zero HI.out.good.ok.len
      have HE : Hid (cons [] = sortC R.flatten) := by show _ = _; rw [← HI.out.srt, hrs]; rfl
      clear hrs
      gi_wp2
      refine leave_marks (base := w.heap.size) (I := fun w' => Gath w w' (.slice none 0 0) []) (fun w' D h h1 h2 => h.put h1 h2) (fun w' h => ?_) ds wr ⟨HI.out.bel, World.ownsRow_nil _ _ _ _, by simp, by simp, by simp⟩ HI.out.mks
      refine ⟨.tuple #[.slice none 0 0, .int .i64 k, .int .i64 0], by kernel_rfl, .slice none 0 0, [], by rw [HCn.out], h, HE.out⟩
    · obtain rfl : m = 1 := by omega
      obtain ⟨b, o, r, hA, hr, q1⟩ := rd_cell rfl HI.out.good.ok.rd (k := 0) (by show 0 < 1; omega)
      simp only at hA
      subst hA
      have q1 := q1 _ rfl
      rw [Nat.add_zero] at q1
      have hl1 : rs.length = 1 := HI.out.good.ok.len
      have hrs : rs = [r] := by
        match rs, hl1, hr with
        | [z], _, h => injection h with h; rw [h]
      have hsr : sortC (cons r.l) = cons r.l := sortC_srt (HI.out.good.s _ (by rw [hrs]; exact List.mem_singleton.2 rfl))
      have HE : Hid (cons r.l = sortC R.flatten) := by
        show _ = _
        rw [← HI.out.srt, hrs]
        show cons r.l = sortC ([cons r.l].flatten)
        rw [List.flatten_singleton, hsr]
      have hrok : r.ok wr := HI.out.good.ok.all r (by rw [hrs]; exact List.mem_singleton.2 rfl)
      have hrn : r.n ≤ 1000 := by
        have h := HI.out.good.t
        rw [hrs] at h
        have h : ([cons r.l].flatten).length ≤ 1000 := h
        rw [List.flatten_singleton, cons_len, hrok.len] at h
        exact h
      have HCl := Lib.hid (clone_any r wr hrok (by omega))
      clear hrs hl1 hsr hrok hr
      obtain ⟨RA, rn, rc, rl⟩ := r
      simp only [Row.v] at *
      gi_wp2_with fail
      refine ⟨trivial, ?_⟩
      refine (callsIn_wide.2 HCl.out).mono ?_; rintro e w2 ⟨v, fs, rfl, hG, hc⟩
      have HG := Lib.hid (hG.from_ HI.out.bel)
      have HM : Hid (Marked w.heap.size w2 ds) := ⟨HI.out.mks.1, fun D hD => ⟨(HI.out.mks.2 D hD).1, by rw [← (HI.out.mks.2 D hD).2]; exact hG.bel.block D (Array.getElem?_eq_some_iff.1 (HI.out.mks.2 D hD).2).1⟩⟩
      have HE2 : Hid (cons fs = sortC R.flatten) := by show _ = _; rw [hc]; exact HE.out
      clear hG hc
      gi_wp2
      refine leave_marks (base := w.heap.size) (I := fun w' => Gath w w' v fs) (fun w' D h h1 h2 => h.put h1 h2) (fun w' h => ?_) ds w2 HG.out HM.out
      refine ⟨.tuple #[v, .int .i64 k, .int .i64 0], by kernel_rfl, v, fs, by rw [HCn.out], h, HE2.out⟩

end Go.Proofs.Ytnekknemjhlgdaa
