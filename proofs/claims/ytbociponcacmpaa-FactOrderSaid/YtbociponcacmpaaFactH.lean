/- Walk of fact.Find, in a row that rises; the chapter's example. -/
import Derived.Test.YtbociponcacmpaaFactG
namespace Go.Proofs.Ytbociponcacmpaa
open Go.RowKit
set_option linter.unusedVariables false
attribute [local go_sem] fct_get0

/-- No fact. -/
def Fct.zero : Fct := ⟨.nil, .zero⟩
/-- What fact.Find answers. -/
def FoundPost (l : List Fct) (t : List Int) (w : World) (e : Ending) (w' : World) : Prop :=
  ∃ p, IsAt l t p ∧ Bel w w' ∧ ((metAt l t p = false ∧ e = .returned (.tuple #[.agg Fct.zero.cs, .bool false])) ∨
    (metAt l t p = true ∧ ∃ f f' : Fct, l[p]? = some f ∧ f'.con = f.con ∧ f'.ok w' ∧ e = .returned (.tuple #[.agg f'.cs, .bool true])))

theorem own_row1 {w : World} {base : Nat} {v : Value} {f : Fct} (h : w.ownsRow base 79 11 v 1 (f.cs.toList)) : ∃ g c, v = .slice (some ⟨g, 0, none⟩) 1 c ∧ w.rangeAt g 0 f.cs.toList ∧ g < w.heap.size := by
  rcases h.2 with ⟨_, h0⟩ | ⟨g, cap, cur, rfl, _, hh, hc, _, hs, ht⟩
  · omega
  · refine ⟨g, cap, rfl, fun j u hu => ?_, (Array.getElem?_eq_some_iff.1 hh).1⟩
    have := Rd.of_own (A := some ⟨g, 0, none⟩) (c := cap) h
    obtain ⟨ad, e, _, hcc⟩ := this.2 (by omega)
    injection e with e
    subst e
    have := hcc j u hu
    rw [Addr.add_mid] at this
    exact this

set_option maxRecDepth 100000 in
set_option maxHeartbeats 4000000 in
theorem find_any (x : Row Fct) (k : Row Int) (w : World) (hx : x.ok w) (hk : k.ok w) (hn : x.n ≤ 1000000) (hr : risesF x.l = true) :
    Calls Try.prog 55 #[x.v, k.v] w (FoundPost x.l k.l w) := by
  have hlen : Hid (x.l.length = x.n) := hx.len
  have hcap : Hid (x.n ≤ x.c ∧ x.c ≤ maxLen) := ⟨hx.le, hx.cap⟩
  have Hx := Lib.hid hx
  have Hr := Lib.hid hr
  clear hr
  have Hko : Hid ((Fct.mk k .zero).ok w) := ⟨hk, zero_ok⟩
  clear hx hk
  obtain ⟨A, n, c, l⟩ := x
  obtain ⟨kA, kn, kc, kl⟩ := k
  simp only [Row.v] at *
  have b0 : Blk (w.alloc (.cells Fct.zero.cs 79)) w.heap.size 79 Fct.zero.cs := Blk.new w _ _
  have hB0 : Bel w (w.alloc (.cells Fct.zero.cs 79)) := (Bel.refl w).alloc _
  have Hs0 := Lib.hid hB0.size
  go_enter Try.func55, Try.ntmps55
  go_wp2_with fail
  refine (bsearch_any ⟨A, n, c, l⟩ ⟨⟨kA, kn, kc, kl⟩, .zero⟩ _ (Hx.out.mono hB0) ⟨Hko.out.ks.mono hB0, Hko.out.ag⟩ hn Hr.out).mono ?_
  rintro e w1 ⟨p, hat, rfl, hb1⟩
  have Hat := Lib.hid hat
  clear hat
  have b1 := b0.bel hb1
  have hB1 := hB0.trans hb1
  clear b0 hB0 hb1
  simp only at Hat
  cases hm : metAt l kl p with
  | false =>
    have Hm := Lib.hid hm
    clear hm
    go_wp2_with ((with_reducible show wpList _ _ _ (⟨_, .store _ (.tmp 4) _, _, _, _, _⟩ :: _) _ _); refine wpList_store_blk rfl rowFct (.tmp 4) (.tmp 17) rfl w.heap.size rfl b1 rfl Fct.zero.cs rfl rfl (fct_one _) ?_; intro w2 b2 g2)
    refine bodyPost_ret (v := .tuple #[.agg Fct.zero.cs, .bool false]) (results_blk Try.results55 rowFct rfl b2 rfl) rfl ?_
    exact ⟨p, Hat.out, hB1.grownAt g2 (Nat.le_refl _), .inl ⟨Hm.out, rfl⟩⟩
  | true =>
    have Hm := Lib.hid hm
    obtain ⟨f, Hf⟩ : ∃ f, Hid (l[p]? = some f) := by
      unfold metAt at hm
      cases h : l[p]? with
      | none => rw [h] at hm; cases hm
      | some f => exact ⟨f, rfl⟩
    have hp : p < n := by have h1 := (List.getElem?_eq_some_iff.1 Hf.out).1; have h2 : l.length = n := hlen.out; omega
    clear hm
    obtain ⟨b, o, f', e1, hb, hf', hfo, _, hrf, _⟩ := (Hx.out.mono hB1).fct hp
    simp only at e1
    subst e1
    have hff : f' = f := by have h1 : l[p]? = some f' := hf'; rw [Hf.out] at h1; injection h1 with h1; exact h1.symm
    subst hff
    clear hf'
    have hpc : p < c := by have h1 : n ≤ c := hcap.out.1; omega
    have hrow : Row.ok w1 (⟨some ⟨b, o + p * 11, none⟩, 1, c - p, [f']⟩ : Row Fct) := by
      refine ⟨⟨rfl, fun _ => ⟨_, rfl, hb, fun j u hu => ?_⟩⟩, fun a ha => ?_, by simp only; omega, by have := hcap.out.2; simp only at this ⊢; omega, by simp [Cel.bytes]⟩
      · rw [Addr.add_mid]
        refine hrf j u ?_
        simpa [Cel.cells] using hu
      · rw [List.mem_singleton] at ha
        subst ha
        exact hfo
    have Hrow := Lib.hid hrow
    clear hrow hrf hfo hb
    go_wp2_with fail
    refine (clone_any _ _ Hrow.out (by simp)).mono ?_
    rintro e w2 ⟨v, fs, rfl, hG, hcons⟩
    obtain ⟨f2, rfl⟩ : ∃ f2, fs = [f2] := by
      have h1 := congrArg List.length hcons
      rw [cons_len, cons_len] at h1
      match fs, h1 with
      | [f2], _ => exact ⟨f2, rfl⟩
    have Hcon : Hid (f2.con = f'.con) := by
      simp only [cons, List.map_cons, List.map_nil] at hcons
      injection hcons
    have hfo2 := hG.ok f2 (by simp)
    have hown := hG.own
    simp only [List.flatMap_cons, List.flatMap_nil, List.append_nil] at hown
    obtain ⟨g, c2, rfl, hrg, hgl⟩ := own_row1 hown
    have b2 := b1.bel hG.bel
    have hB2 := hB1.trans hG.bel
    have hnew := hG.new f2 (by simp)
    have Hfo2 := Lib.hid hfo2
    have Hnew := Lib.hid hnew
    clear hfo2 hown hcons hG hnew
    go_wp2_with (first
      | ((with_reducible show wpList _ _ _ (⟨some 25, _, _, _, _, _⟩ :: _) _ _); refine wpList_load_row_at rfl rowFct (.tmp 24) rfl g 0 rfl f2.cs rfl hrg ?_)
      | ((with_reducible show wpList _ _ _ (⟨_, .store _ (.tmp 4) _, _, _, _, _⟩ :: _) _ _); refine wpList_store_blk rfl rowFct (.tmp 4) (.tmp 25) rfl w.heap.size rfl b2 rfl f2.cs rfl rfl (fct_one _) ?_; intro w3 b3 g3))
    refine bodyPost_ret (v := .tuple #[.agg f2.cs, .bool true]) (results_blk Try.results55 rowFct rfl b3 rfl) rfl ?_
    have hlt1 : w.heap.size < w1.heap.size := b1.lt
    exact ⟨p, Hat.out, hB2.grownAt g3 (Nat.le_refl _), .inr ⟨Hm.out, f', f2, Hf.out, Hcon.out, ⟨Hfo2.out.ks.grown g3 (fun h0 ad e e2 => by have h1 := Hnew.out h0 ad e; injection e2 with e2; omega), Hfo2.out.ag⟩, rfl⟩⟩

end Go.Proofs.Ytbociponcacmpaa
