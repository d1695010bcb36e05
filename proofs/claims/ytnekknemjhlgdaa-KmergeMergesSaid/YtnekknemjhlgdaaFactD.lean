/- Walk of fact.Clone. -/
import Derived.Test.YtnekknemjhlgdaaFactC
import Derived.Test.YtnekknemjhlgdaaBb
namespace Go.Proofs.Ytnekknemjhlgdaa
open Go.RowKit
set_option linter.unusedVariables false
attribute [local go_sem] fct_get0

set_option maxRecDepth 100000 in
theorem build_fct (k : Row Int) (a : Ag) (w : World) : (Instr.build 174 #[(0, k.v), (1, .agg a.cs)]).run Try.prog w = .ok (.agg (Fct.mk k a).cs) w := by kernel_rfl
set_option maxRecDepth 100000 in
theorem build_fct0 (k : Row Int) (w : World) : (Instr.build 174 #[(0, k.v)]).run Try.prog w = .ok (.agg (Fct.mk k .zero).cs) w := by kernel_rfl
def Row.nil {α : Type} : Row α := ⟨none, 0, 0, []⟩
set_option maxRecDepth 100000 in
theorem build_fctN (w : World) : (Instr.build 174 #[]).run Try.prog w = .ok (.agg (Fct.mk .nil .zero).cs) w := by kernel_rfl
theorem bslice_fct (f : Fct) (w : World) : (Instr.buildSlice 75 1 #[(0, .agg f.cs)]).run Try.prog w = .ok (.slice (some ⟨w.heap.size, 0, none⟩) 1 1) (w.alloc (.cells f.cs 174)) := run_buildSlice1 E_fct (.agg f.cs) rfl (by omega) w

/-- A fact's tuple lies apart from a row. -/
def Away (v : Value) (f : Fct) : Prop := 0 < f.ks.n → ∀ ad, f.ks.A = some ad → v.ownBlock ≠ some ad.block
/-- Facts gathered in memory of the call's own. -/
structure Gath (w0 w : World) (v : Value) (fs : List Fct) : Prop where
  bel : Bel w0 w
  own : w.ownsRow w0.heap.size 174 11 v fs.length (fs.flatMap Cel.cells)
  ok : ∀ f ∈ fs, f.ok w
  away : ∀ f ∈ fs, Away v f
  new : ∀ f ∈ fs, 0 < f.ks.n → ∀ ad, f.ks.A = some ad → w0.heap.size ≤ ad.block
def cons (l : List Fct) : List (List Int × Ag) := l.map Fct.con
theorem Gath.keep {w0 w w' : World} {v : Value} {fs : List Fct} (h : Gath w0 w v fs) (hb : Bel w w') : Gath w0 w' v fs :=
  ⟨h.bel.trans hb, own_bel h.own hb, fun f hf => ⟨(h.ok f hf).ks.mono hb, (h.ok f hf).ag⟩, h.away, h.new⟩
theorem Row.ok.grown {w w' : World} {x : Row Int} {row : Option Nat} (h : x.ok w) (hg : w.grownBy w' row) (ha : 0 < x.n → ∀ ad, x.A = some ad → row ≠ some ad.block) : x.ok w' := by
  refine ⟨⟨h.rd.1, fun hn => ?_⟩, h.all, h.le, h.cap, h.reach⟩
  obtain ⟨ad, e, hb, hc⟩ := h.rd.2 hn
  refine ⟨ad, e, Nat.lt_of_lt_of_le hb hg.size, fun j u hu => ?_⟩
  rw [← hc j u hu]
  refine World.cell?_of_block ?_
  rw [block_of_add]
  exact hg.block _ hb (fun e' => ha hn ad e e'.symm)
theorem Gath.app {w0 w w' : World} {v v' : Value} {fs : List Fct} {f : Fct} (h : Gath w0 w v fs) (hf : f.ok w) (hA : Away v f) (hB : Bel w0 w') (hfn : 0 < f.ks.n → ∀ ad, f.ks.A = some ad → w0.heap.size ≤ ad.block) (ho : w'.ownsRow w0.heap.size 174 11 v' (fs.length + 1) (fs.flatMap Cel.cells ++ f.cs.toList)) (hg : w.grownBy w' v.ownBlock)
    (hv : v'.ownBlock = v.ownBlock ∨ v'.ownBlock = some w.heap.size) : Gath w0 w' v' (fs ++ [f]) := by
  have hall : ∀ g ∈ fs ++ [f], g.ok w ∧ Away v g ∧ (0 < g.ks.n → ∀ ad, g.ks.A = some ad → w0.heap.size ≤ ad.block) := fun g hg' => by
    rcases List.mem_append.1 hg' with h1 | h1
    · exact ⟨h.ok g h1, h.away g h1, h.new g h1⟩
    · rw [List.mem_singleton] at h1; subst h1; exact ⟨hf, hA, hfn⟩
  refine ⟨hB, by simpa [Cel.cells] using ho, fun g hg' => ?_, fun g hg' hn ad e => ?_, fun g hg' => (hall g hg').2.2⟩
  · obtain ⟨h1, h2, _⟩ := hall g hg'
    exact ⟨h1.ks.grown hg h2, h1.ag⟩
  · obtain ⟨h1, h2, _⟩ := hall g hg'
    rcases hv with hv | hv
    · rw [hv]; exact h2 hn ad e
    · rw [hv]
      obtain ⟨ad', e', hb, _⟩ := h1.ks.rd.2 hn
      rw [e] at e'
      injection e' with e'
      subst e'
      intro h3
      injection h3 with h3
      omega

set_option maxRecDepth 100000 in
set_option maxHeartbeats 1000000 in
theorem clone_any (x : Row Fct) (w : World) (hx : x.ok w) (hn : x.n ≤ 1000000) :
    Calls Try.prog 111 #[x.v] w fun e w' => ∃ v fs, e = .returned v ∧ Gath w w' v fs ∧ cons fs = cons x.l := by
  obtain ⟨A, n, c, l⟩ := x
  have Hx := Lib.hid hx
  have hlen : Hid (l.length = n) := hx.len
  clear hx
  simp only [Row.v] at *
  have u35 := Try.underlying114
  have i35 : ∀ a : Ag, (Try.prog.info? 114).map (·.size) = some a.cs.toList.length := fun a => by kernel_rfl
  go_enter Try.func111, Try.ntmps111
  go_wp2
  go_loopg [3, 8] n (fun g s i wr => ∃ (k : Nat) (fs : List Fct), g = n - k ∧ k ≤ n ∧ i = .int .i64 k ∧ Gath w wr s fs ∧ fs.length = k ∧ Hid (cons fs = cons (l.take k)))
  case atStart => exact ⟨0, [], rfl, by omega, rfl, ⟨Bel.refl _, ⟨rfl, .inl ⟨rfl, rfl⟩⟩, by simp, by simp, by simp⟩, rfl, rfl⟩
  case round =>
    obtain ⟨k, fs, hgk, hk, rfl, hG, hfl, hF⟩ := hrel
    have Hgk := Lib.hid hgk
    have Hfl := Lib.hid hfl
    clear hgk hfl
    by_cases hlt : k < n
    · obtain ⟨b, o, f, rfl, hb, hf, hrg⟩ := rd_range (Hx.out.rd.bel hG.bel) hlt
      have Hf := Lib.hid hf
      have hfo : f.ok wr := Cel.mono hG.bel (Hx.out.all f (List.mem_of_getElem? hf))
      have Hfo := Lib.hid hfo
      clear hf hfo
      go_wp2_with (first
        | ((with_reducible show wpList _ _ _ (⟨some 11, _, _, _, _, _⟩ :: _) _ _); refine wpList_load_row_at rfl rowFct (.tmp 10) rfl b (o + k * 11) rfl f.cs rfl hrg ?_)
        | ((with_reducible show wpList _ _ _ (⟨_, .store _ (.tmp 5) _, _, _, _, _⟩ :: _) _ _); refine wpList_store_new rfl rowFct (.tmp 5) (.tmp 11) rfl rfl rfl f.cs rfl rfl (fct_one _) ?_))
      have bk := Blk.new wr 174 f.cs
      have hne : u3.ownBlock ≠ some wr.heap.size := fun e => absurd (own_lt hG.own e) (Nat.lt_irrefl _)
      have hG1 := hG.keep ((Bel.refl wr).alloc (.cells f.cs 174))
      have Hfo1 : Hid (f.ok (wr.alloc (.cells f.cs 174))) := ⟨Hfo.out.ks.mono ((Bel.refl wr).alloc _), Hfo.out.ag⟩
      clear hG Hfo
      generalize wr.alloc (.cells f.cs 174) = W at *
      generalize wr.heap.size = g at *
      have hS : ∀ w', Bel W w' → w'.cell? ⟨g, 0, none⟩ = some f.ks.v ∧ w'.cell? ⟨g, 1, none⟩ = some (.int .i64 f.ag.c) ∧ w'.cell? ⟨g, 2, none⟩ = some (.int .i64 f.ag.p.s) ∧ w'.cell? ⟨g, 3, none⟩ = some (.int .i64 f.ag.p.mn) ∧ w'.cell? ⟨g, 4, none⟩ = some (.int .i64 f.ag.p.mx) ∧ w'.cell? ⟨g, 5, none⟩ = some (.int .i64 f.ag.q.s) ∧ w'.cell? ⟨g, 6, none⟩ = some (.int .i64 f.ag.q.mn) ∧ w'.cell? ⟨g, 7, none⟩ = some (.int .i64 f.ag.q.mx) ∧ w'.cell? ⟨g, 8, none⟩ = some (.int .i64 f.ag.r.s) ∧ w'.cell? ⟨g, 9, none⟩ = some (.int .i64 f.ag.r.mn) ∧ w'.cell? ⟨g, 10, none⟩ = some (.int .i64 f.ag.r.mx) := fun w' hb' => by
        have q := bk.bel hb'
        exact ⟨q.cell 0, q.cell 1, q.cell 2, q.cell 3, q.cell 4, q.cell 5, q.cell 6, q.cell 7, q.cell 8, q.cell 9, q.cell 10⟩
      have hT : ∀ w1 w', Bel W w1 → w1.grownBy w' u3.ownBlock → w'.cell? ⟨g, 0, none⟩ = some f.ks.v ∧ w'.cell? ⟨g, 1, none⟩ = some (.int .i64 f.ag.c) ∧ w'.cell? ⟨g, 2, none⟩ = some (.int .i64 f.ag.p.s) ∧ w'.cell? ⟨g, 3, none⟩ = some (.int .i64 f.ag.p.mn) ∧ w'.cell? ⟨g, 4, none⟩ = some (.int .i64 f.ag.p.mx) ∧ w'.cell? ⟨g, 5, none⟩ = some (.int .i64 f.ag.q.s) ∧ w'.cell? ⟨g, 6, none⟩ = some (.int .i64 f.ag.q.mn) ∧ w'.cell? ⟨g, 7, none⟩ = some (.int .i64 f.ag.q.mx) ∧ w'.cell? ⟨g, 8, none⟩ = some (.int .i64 f.ag.r.s) ∧ w'.cell? ⟨g, 9, none⟩ = some (.int .i64 f.ag.r.mn) ∧ w'.cell? ⟨g, 10, none⟩ = some (.int .i64 f.ag.r.mx) := fun w1 w' hb' hg' => by
        have q := (bk.bel hb').grown hg' (fun e => hne e.symm)
        exact ⟨q.cell 0, q.cell 1, q.cell 2, q.cell 3, q.cell 4, q.cell 5, q.cell 6, q.cell 7, q.cell 8, q.cell 9, q.cell 10⟩
      have HS := Lib.hid hS
      have HT := Lib.hid hT
      clear hS hT hrg bk i35
      have hB1 := hG1.bel
      have hfs : fs.length ≤ 1000000 := by rw [Hfl.out]; omega
      go_region_held3 (fun w' => w'.cell? ⟨g, 0, none⟩ = some f.ks.v ∧ w'.cell? ⟨g, 1, none⟩ = some (.int .i64 f.ag.c) ∧ w'.cell? ⟨g, 2, none⟩ = some (.int .i64 f.ag.p.s) ∧ w'.cell? ⟨g, 3, none⟩ = some (.int .i64 f.ag.p.mn) ∧ w'.cell? ⟨g, 4, none⟩ = some (.int .i64 f.ag.p.mx) ∧ w'.cell? ⟨g, 5, none⟩ = some (.int .i64 f.ag.q.s) ∧ w'.cell? ⟨g, 6, none⟩ = some (.int .i64 f.ag.q.mn) ∧ w'.cell? ⟨g, 7, none⟩ = some (.int .i64 f.ag.q.mx) ∧ w'.cell? ⟨g, 8, none⟩ = some (.int .i64 f.ag.r.s) ∧ w'.cell? ⟨g, 9, none⟩ = some (.int .i64 f.ag.r.mn) ∧ w'.cell? ⟨g, 10, none⟩ = some (.int .i64 f.ag.r.mx)) (first | exact HS.out _ (Bel.refl W).drew | exact HS.out _ ((Bel.refl W).drew.trans hb2) | exact HS.out _ (((Bel.refl W).drew.trans hb2).alloc _) | exact HT.out _ _ (((Bel.refl W).drew.trans hb2).alloc _) hg3 | go_keep) (first | (go_at_call 121; refine (cloneInts_any f.ks _ (Hfo1.out.ks.mono (Bel.refl W).drew)).mono ?_; rintro e w2 ⟨⟨⟨xA, xn, xc, xl⟩, rfl, hx2⟩, hb2⟩; simp only [Row.v]) | (refine step_append1 (by rfl) (.tmp 12) (.tmp 19) _ (by rfl) E_fct w ((hB1.trans ((Bel.refl W).drew.trans hb2)).alloc _) u3 fs.length (fs.flatMap Cel.cells) (by rfl) ((own_bel hG1.own ((Bel.refl W).drew.trans hb2)).alloc _) _ 1 1 (Fct.mk ⟨xA, xn, xc, xl⟩ f.ag).cs.toList (by rfl) (rd_new _ _ _ 1 11 rfl) (fun u hu => (Array.all_eq_true_iff_forall_mem.1 (fct_one (Fct.mk ⟨xA, xn, xc, xl⟩ f.ag))) u (by simpa using hu)) (by unfold maxLen; omega) (by omega) ?_; intro v3 w3 hown3 hB3 hg3 hat3))
      obtain ⟨hxl, hxo, hxn⟩ := hx2
      have hBW : Bel W w2 := (Bel.refl W).drew.trans hb2
      have hAw : Away u3 (Fct.mk ⟨xA, xn, xc, xl⟩ f.ag) := fun h0 ad e e2 => by
        have h1 := hxn h0 ad e
        have h2 := own_lt hG1.own e2
        simp at h1
        omega
      have hG3 := ((hG1.keep hBW).keep ((Bel.refl w2).alloc (.cells (Fct.mk ⟨xA, xn, xc, xl⟩ f.ag).cs 174))).app (f := ⟨⟨xA, xn, xc, xl⟩, f.ag⟩) ⟨hxo.mono ((Bel.refl w2).alloc _), Hfo1.out.ag⟩ hAw hB3 (fun h0 ad e => by have h1 := hxn h0 ad e; have h2 := hG1.bel.size; simp at h1; omega) hown3 hg3 hat3
      have HR : Hid (cons (fs ++ [⟨⟨xA, xn, xc, xl⟩, f.ag⟩]) = cons (l.take (k + 1))) := by
        show _ = _
        rw [List.take_add_one, Hf.out]
        have := hF.out
        simp only at hxl
        subst hxl
        simp only [cons, List.map_append, List.map_cons, List.map_nil, Fct.con, Option.toList] at this ⊢
        rw [this]
      have HG3 := Lib.hid hG3
      clear hG3 hG1 hown3 hg3 hat3 hb2 hB3 hF
      go_wp2
      go_roundg (n - (k + 1))
      case rel => exact ⟨k + 1, _, rfl, by omega, by go_num, HG3.out, by rw [List.length_append, Hfl.out]; rfl, HR⟩
      case measure => rw [Hgk.out]; omega
    · have HR : Hid (cons fs = cons l) := by show _ = _; rw [hF.out, List.take_of_length_le (by have := hlen.out; omega)]
      clear hF
      have HG := Lib.hid hG
      clear hG
      go_wp2
      go_ret
      exact ⟨_, fs, rfl, HG.out, HR.out⟩

end Go.Proofs.Ytnekknemjhlgdaa
