/- Texts laid together: XRunA XRunB XRunC XChunk XChunkR XCut XCutA XRuns XPassP XPassW XKmS. -/
import Derived.Test.YtelnhhbefdfeoaaBl
import Derived.Test.YtelnhhbefdfeoaaBm
import Derived.RangeFuncNested
import Derived.RangeFuncBound
import Derived.RangeFuncCalls
import Derived.RangeFuncLeaves
import Derived.Shelf.Abstract
import Derived.Shelf.RegionOpen
import Derived.OwnWalkIn
import Derived.TacticsInMore
import Derived.LoopNIn
import Derived.LoopIn
import Derived.RangeFuncBox
import Derived.Sort.QuietIn
import Derived.Maps.AppendAt
import Derived.Test.YtelnhhbefdfeoaaBn

namespace Go.Proofs.Ytelnhhbefdfeoaa
open Go.RowKit
set_option linter.unusedVariables false
attribute [local go_sem] fct_get0

theorem chain_take {r : List Int → List Int → Bool} {l : List (List Int)} {k : Nat} (h : chain r (l.drop k) = false) : chain r l = false := by
  induction k generalizing l with
  | zero => exact h
  | succ k ih =>
    cases l with
    | nil => simpa using h
    | cons a l =>
      rw [List.drop_succ_cons] at h
      have := ih h
      cases l with
      | nil => cases this
      | cons b l => rw [chain, this, Bool.and_false]
theorem sortedF_step {l : List Fct} {k : Nat} {f g : Fct} (hf : l[k]? = some f) (hg : l[k + 1]? = some g) (h : chain (fun a b => !lessK b a) ((keysOf l).drop (k + 1)) = true) :
    chain (fun a b => !lessK b a) ((keysOf l).drop k) = !lessK g.ks.l f.ks.l := by
  rw [chain_drop (keys_get hf) (keys_get hg), h, Bool.and_true]

end Go.Proofs.Ytelnhhbefdfeoaa

namespace Go.Proofs.Ytelnhhbefdfeoaa
open Go.RowKit
set_option linter.unusedVariables false
attribute [local go_sem] fct_get0

/-- A row while a fact is put in. -/
def mid (L : List Fct) (i k : Nat) (x : Fct) : List Fct := L.take k ++ x :: ((L.take i).drop k ++ L.drop (i + 1))
theorem mid_start {L : List Fct} {i : Nat} {f : Fct} (h : L[i]? = some f) : mid L i i f = L := by
  obtain ⟨hi, rfl⟩ := List.getElem?_eq_some_iff.1 h
  unfold mid
  rw [List.drop_of_length_le (by rw [List.length_take]; omega), List.nil_append, ← List.drop_eq_getElem_cons hi, List.take_append_drop]
theorem mid_set {L : List Fct} {i k : Nat} {x y : Fct} (hk : k ≤ L.length) : (mid L i k x).set k y = mid L i k y := by
  unfold mid
  rw [List.set_append_right _ _ (by rw [List.length_take]; omega), List.length_take, Nat.min_eq_left hk, Nat.sub_self, List.set_cons_zero]
theorem mid_shift {L : List Fct} {i k : Nat} {y : Fct} (h : L[k]? = some y) (hk : k < i) : mid L i (k + 1) y = mid L i k y := by
  obtain ⟨hl, rfl⟩ := List.getElem?_eq_some_iff.1 h
  unfold mid
  rw [List.take_succ_eq_append_getElem hl]
  have : (L.take i).drop k = L[k] :: (L.take i).drop (k + 1) := by
    rw [List.drop_eq_getElem_cons (by rw [List.length_take]; omega), List.getElem_take]
  rw [this]
  simp only [List.append_assoc, List.cons_append, List.nil_append]
theorem mid_get {L : List Fct} {i k : Nat} {x : Fct} (hk : k < L.length) : (mid L i (k + 1) x)[k]? = L[k]? := by
  unfold mid
  rw [List.getElem?_append_left (by rw [List.length_take]; omega), List.getElem?_take_of_lt (by omega)]
theorem mid_len {L : List Fct} {i k : Nat} {x : Fct} (hi : i < L.length) (hk : k ≤ i) : (mid L i k x).length = L.length := by
  unfold mid
  simp
  omega
theorem mid_take {L : List Fct} {i k : Nat} {f : Fct} (hi : i < L.length) (hk : k ≤ i) : (mid L i k f).take (i + 1) = L.take k ++ f :: (L.take i).drop k := by
  unfold mid
  rw [show L.take k ++ f :: ((L.take i).drop k ++ L.drop (i + 1)) = (L.take k ++ f :: (L.take i).drop k) ++ L.drop (i + 1) by simp]
  rw [List.take_append_of_le_length (by simp; omega), List.take_of_length_le (by simp; omega)]
theorem mid_drop {L : List Fct} {i k : Nat} {f : Fct} (hi : i < L.length) (hk : k ≤ i) : (mid L i k f).drop (i + 1) = L.drop (i + 1) := by
  unfold mid
  rw [show L.take k ++ f :: ((L.take i).drop k ++ L.drop (i + 1)) = (L.take k ++ f :: (L.take i).drop k) ++ L.drop (i + 1) by simp]
  rw [List.drop_append_of_le_length (by simp; omega), List.drop_of_length_le (by simp; omega), List.nil_append]
theorem cons_take (L : List Fct) (i : Nat) : cons (L.take i) = (cons L).take i := by unfold cons; rw [List.map_take]
theorem cons_drop (L : List Fct) (i : Nat) : cons (L.drop i) = (cons L).drop i := by unfold cons; rw [List.map_drop]
theorem cons_app (L M : List Fct) : cons (L ++ M) = cons L ++ cons M := by unfold cons; rw [List.map_append]
theorem mid_ins {L : List Fct} {i k : Nat} {f : Fct} (hi : i < L.length) (hk : k = posFrom f.con (cons (L.take i)) i) : cons ((mid L i k f).take (i + 1)) = insC f.con (cons (L.take i)) := by
  have hki : k ≤ i := by rw [hk]; exact posFrom_le _ _ _
  have hl : (cons (L.take i)).length = i := by rw [cons_len, List.length_take]; omega
  rw [mid_take hi hki]
  unfold insC
  rw [hl, ← hk, cons_app]
  have e1 : cons (L.take k) = (cons (L.take i)).take k := by rw [← cons_take, List.take_take, Nat.min_eq_left hki]
  have e2 : cons (f :: (L.take i).drop k) = f.con :: (cons (L.take i)).drop k := by rw [← cons_drop]; rfl
  rw [e1, e2]

theorem Gath.set {w0 w w' : World} {g n c : Nat} {M : List Fct} {k : Nat} {f : Fct} (h : Gath w0 w (.slice (some ⟨g, 0, none⟩) n c) M) (hn : n = M.length) (ho : w'.ownsRow w0.heap.size 84 11 (.slice (some ⟨g, 0, none⟩) n c) n ((M.set k f).flatMap Cel.cells)) (hg : w.grownBy w' (some g))
    (hf : f.ok w) (hA : Away (.slice (some ⟨g, 0, none⟩) n c) f) (hN : 0 < f.ks.n → ∀ ad, f.ks.A = some ad → w0.heap.size ≤ ad.block) : Gath w0 w' (.slice (some ⟨g, 0, none⟩) n c) (M.set k f) := by
  have hall : ∀ x ∈ M.set k f, x.ok w ∧ Away (.slice (some ⟨g, 0, none⟩) n c) x ∧ (0 < x.ks.n → ∀ ad, x.ks.A = some ad → w0.heap.size ≤ ad.block) := fun x hx => by
    rcases List.mem_or_eq_of_mem_set hx with h1 | rfl
    · exact ⟨h.ok x h1, h.away x h1, h.new x h1⟩
    · exact ⟨hf, hA, hN⟩
  exact ⟨h.bel.grownAt hg (own_ge h.own rfl), by rw [List.length_set, ← hn]; exact ho, fun x hx => ⟨(hall x hx).1.ks.grown hg (hall x hx).2.1, (hall x hx).1.ag⟩, fun x hx => (hall x hx).2.1, fun x hx => (hall x hx).2.2⟩

def SortPost (l : List Fct) (w : World) (e : Ending) (w' : World) : Prop := ∃ v fs, e = .returned v ∧ Gath w w' v fs ∧ cons fs = sortC (cons l)

set_option maxRecDepth 100000 in
set_option maxHeartbeats 1000000 in
theorem sort_any (x : Row Fct) (w : World) (hx : x.ok w) (hn : x.n ≤ 1000) :
    Calls Try.prog 75 #[x.v] w (SortPost x.l w) := by
  have hlen : Hid (x.l.length = x.n) := hx.len
  have Hx := Lib.hid hx
  clear hx
  obtain ⟨A, n, c0, l⟩ := x
  simp only [Row.v] at *
  go_enter Try.func75, Try.ntmps75
  go_wp2_with fail
  refine (clone_any ⟨A, n, c0, l⟩ _ Hx.out (by simp only; omega)).mono ?_
  rintro e w1 ⟨v, fs, rfl, hG, hcons⟩
  have Hcons := Lib.hid hcons
  have Hfl : Hid (fs.length = n) := by
    have h1 := congrArg List.length hcons
    rw [cons_len, cons_len] at h1
    have h2 : l.length = n := hlen.out
    exact h1.trans h2
  clear hcons
  by_cases hn1 : n ≤ 1
  · have HR : Hid (cons fs = sortC (cons l)) := by
      show _ = _
      have h1 : cons fs = cons l := Hcons.out
      rw [← h1, sortC_one _ (by rw [cons_len, Hfl.out]; exact hn1)]
    have hown := hG.own
    rw [Hfl.out] at hown
    obtain ⟨A2, c2, rfl, _⟩ := own_slice hown
    have HG := Lib.hid hG
    clear hG hown
    go_wp2
    refine wp_loop_rounds 1 ?_
    rw [rounds_succ]
    go_wp2
    go_ret
    exact ⟨_, fs, rfl, HG.out, HR.out⟩
  · obtain ⟨g, c, rfl⟩ : ∃ g c, v = .slice (some ⟨g, 0, none⟩) n c := by
      rcases hG.own.2 with ⟨_, h0⟩ | ⟨g, cap, cur, hv, _⟩
      · have := Hfl.out; omega
      · exact ⟨g, cap, by rw [hv, Hfl.out]⟩
    have H1 : Hid (cons (fs.take 1) = sortC ((cons l).take 1)) := by
      show _ = _
      have h1 : cons fs = cons l := Hcons.out
      rw [cons_take, h1, sortC_one _ (by rw [List.length_take]; omega)]
    go_wp2
    go_loopg [4] (n - 1) (fun gg s4 wr => ∃ (i : Nat) (L : List Fct), gg = n - i ∧ 1 ≤ i ∧ i ≤ n ∧ s4 = .int .i64 i ∧ Gath w wr (.slice (some ⟨g, 0, none⟩) n c) L ∧ Hid (L.length = n) ∧ Hid (cons (L.take i) = sortC ((cons l).take i)) ∧ Hid (cons (L.drop i) = (cons l).drop i))
    case atStart => exact ⟨1, fs, rfl, by omega, by omega, rfl, hG, Hfl, H1, by show _ = _; have h1 : cons fs = cons l := Hcons.out; rw [cons_drop, h1]⟩
    case round =>
      clear hG H1
      obtain ⟨i, L, hgk, hi1, hin, rfl, hG, hLn, hS, hD⟩ := hrel
      have Hgk := Lib.hid hgk
      clear hgk
      by_cases hlt : i < n
      · obtain ⟨f, Hf⟩ : ∃ f, Hid (L[i]? = some f) := ⟨L[i]'(by have := hLn.out; omega), by show _ = _; exact List.getElem?_eq_getElem _⟩
        have hownL : wr.ownsRow w.heap.size 84 11 (.slice (some ⟨g, 0, none⟩) n c) n (L.flatMap Cel.cells) := by have := hG.own; rw [hLn.out] at this; exact this
        obtain ⟨hrf, hgl⟩ := own_range (α := Fct) hownL Hf.out
        have b5 := Blk.new wr 84 f.cs
        have hne : wr.heap.size ≠ g := by omega
        have hG1 := hG.keep ((Bel.refl wr).alloc (.cells f.cs 84))
        have Hfm : Hid (f ∈ L) := List.mem_of_getElem? Hf.out
        have Hmid := Lib.hid (mid_start Hf.out)
        have HfA : Hid (Away (.slice (some ⟨g, 0, none⟩) n c) f) := hG.away f Hfm.out
        have HfN : Hid (0 < f.ks.n → ∀ ad, f.ks.A = some ad → w.heap.size ≤ ad.block) := hG.new f Hfm.out
        have hfo := hG1.ok f Hfm.out
        rw [← Hmid.out] at hG1
        have HG1 := Lib.hid hG1
        have Hfo1 := Lib.hid hfo
        have Hb5 := Lib.hid b5
        clear hG hownL hfo hG1 b5
        have hrf' : wr.rangeAt g (i * 11) f.cs.toList := hrf
        clear hrf
        go_wp2_with (first
          | ((with_reducible show wpList _ _ _ (⟨some 18, _, _, _, _, _⟩ :: _) _ _); refine wpList_load_row_at rfl rowFct (.tmp 17) rfl g (i * 11) rfl f.cs rfl hrf' ?_)
          | ((with_reducible show wpList _ _ _ (⟨_, .store _ (.tmp 5) _, _, _, _, _⟩ :: _) _ _); refine wpList_store_new rfl rowFct (.tmp 5) (.tmp 18) rfl rfl rfl f.cs rfl rfl (fct_one _) ?_))
        generalize wr.alloc (.cells f.cs 84) = W at *
        generalize wr.heap.size = g5 at *
        obtain ⟨wo, rfl⟩ : ∃ wo : World, wo = wr := ⟨_, rfl⟩
        go_loopg [6] i (fun gg s6 wx => ∃ (k : Nat) (x : Fct), gg = k ∧ k ≤ i ∧ s6 = .int .i64 k ∧ Gath w wx (.slice (some ⟨g, 0, none⟩) n c) (mid L i k x) ∧ Blk wx g5 84 f.cs ∧ f.ok wx ∧ Hid (posFrom f.con (cons (L.take i)) i = posFrom f.con (cons (L.take i)) k))
        case atStart => exact ⟨i, f, rfl, by omega, rfl, HG1.out, Hb5.out, Hfo1.out, rfl⟩
        case round =>
          clear HG1 Hb5 Hfo1 hrf' hgl
          obtain ⟨k0, xx, hgj, hk, rfl, hG, b5, hfo, hP⟩ := hrel
          have Hgj := Lib.hid hgj
          have Hfo := Lib.hid hfo
          clear hgj hfo
          have hLl : Hid (i < L.length) := by rw [hLn.out]; exact hlt
          cases k0 with
          | zero =>
            have hK : Hid (0 = posFrom f.con (cons (L.take i)) i) := by show _ = _; rw [hP.out]; rfl
            have HML : Hid (n = (mid L i 0 xx).length) := by show _ = _; rw [mid_len hLl.out (by omega)]; exact hLn.out.symm
            have hownM : wr.ownsRow w.heap.size 84 11 (.slice (some ⟨g, 0, none⟩) n c) n ((mid L i 0 xx).flatMap Cel.cells) := by have := hG.own; rw [← HML.out] at this; exact this
            have HR1 : Hid (cons ((mid L i (0) f).take (i + 1)) = sortC ((cons l).take (i + 1))) := by
              show _ = _
              rw [mid_ins hLl.out hK.out, hS.out]
              have h1 : cons (L.drop i) = (cons l).drop i := hD.out
              have h2 : ((cons l).drop i)[0]? = some f.con := by rw [← h1]; exact cons_get (by rw [List.getElem?_drop]; exact Hf.out)
              rw [List.getElem?_drop, Nat.add_zero] at h2
              rw [List.take_add_one, h2]
              exact (sortC_snoc _ _).symm
            have HR2 : Hid (cons ((mid L i (0) f).drop (i + 1)) = (cons l).drop (i + 1)) := by
              show _ = _
              have h1 : cons (L.drop i) = (cons l).drop i := hD.out
              rw [mid_drop hLl.out (by omega)]
              have h2 := congrArg (List.drop 1) h1
              rw [← cons_drop, List.drop_drop, List.drop_drop] at h2
              exact h2
            have HR3 : Hid ((mid L i (0) f).length = n) := by show _ = _; rw [mid_len hLl.out (by omega)]; exact hLn.out
            clear hP
            have d0 : decide ((0 : Int) < 0) = false := rfl
            go_wp2_with fail
            go_quiet (fail)
            go_wp2_with (first
              | ((with_reducible show wpList _ _ _ (⟨some 44, _, _, _, _, _⟩ :: _) _ _); refine wpList_load_blkG (by first | rfl | go_simp) rowFct (.tmp 5) (by rfl) g5 (by rfl) (b5.drewN _) rfl ?_)
              | ((with_reducible show wpList _ _ _ (⟨_, .store _ (.tmp 45) _, _, _, _, _⟩ :: _) _ _); refine wpList_store_own (α := Fct) rfl rowFct (.tmp 45) (.tmp 44) rfl rfl (0) rfl (own_bel hownM (Bel.drewN (Bel.refl _) _)) (by omega) f f.cs rfl rfl (fct_one _) ?_; intro w9 hown9 hg9))
            rw [mid_set (by have := hLl.out; omega)] at hown9
            have hG9 := (hG.keep (Bel.drewN (Bel.refl _) _)).set (k := 0) (f := f) HML.out (by rw [mid_set (by have := hLl.out; omega)]; exact hown9) hg9 ⟨Hfo.out.ks.mono (Bel.drewN (Bel.refl _) _), Hfo.out.ag⟩ HfA.out HfN.out
            rw [mid_set (by have := hLl.out; omega)] at hG9
            have HG9 := Lib.hid hG9
            clear hG9 hown9 hg9
            go_wp2
            go_roundg (n - (i + 1))
            case rel => exact ⟨i + 1, mid L i (0) f, rfl, by omega, by omega, by go_num, HG9.out, HR3, HR1, HR2⟩
            case measure => rw [Hgk.out]; omega
          | succ k =>
            obtain ⟨y, Hy⟩ : ∃ y, Hid (L[k]? = some y) := ⟨L[k]'(by have := hLl.out; omega), by show _ = _; exact List.getElem?_eq_getElem _⟩
            have hMy : (mid L i (k + 1) xx)[k]? = some y := by rw [mid_get (by have := hLl.out; omega)]; exact Hy.out
            have HML : Hid (n = (mid L i (k + 1) xx).length) := by show _ = _; rw [mid_len hLl.out hk]; exact hLn.out.symm
            have hownM : wr.ownsRow w.heap.size 84 11 (.slice (some ⟨g, 0, none⟩) n c) n ((mid L i (k + 1) xx).flatMap Cel.cells) := by have := hG.own; rw [← HML.out] at this; exact this
            obtain ⟨hry0, hgl⟩ := own_range (α := Fct) hownM hMy
            have hry : wr.rangeAt g (k * 11) y.cs.toList := hry0
            have hr5 := b5.range
            have h5l := b5.lt
            have Hym : Hid (y ∈ mid L i (k + 1) xx) := List.mem_of_getElem? hMy
            have Hyo : Hid (y.ok wr) := hG.ok y Hym.out
            clear hMy hry0
            have hrange := cmpK_range y.ks.l f.ks.l
            have hsw := cmpK_swap y.ks.l f.ks.l
            obtain ⟨r, HC⟩ : ∃ r, Hid (cmpK y.ks.l f.ks.l = r) := ⟨_, rfl⟩
            have HLs : Hid (lessC f.con y.con = (r == 1)) := by
              show lessK f.ks.l y.ks.l = _
              unfold lessK
              rw [hsw, HC.out, Bool.eq_iff_iff, beq_iff_eq, beq_iff_eq]
              omega
            rw [HC.out] at hrange
            have HPS : Hid (posFrom f.con (cons (L.take i)) (k + 1) = if (r == 1) = true then posFrom f.con (cons (L.take i)) k else k + 1) := by
              show _ = _
              rw [posFrom]
              have hg' : (cons (L.take i))[k]? = some y.con := cons_get (by rw [List.getElem?_take_of_lt (by omega)]; exact Hy.out)
              rw [hg']
              simp only [Option.any_some, HLs.out]
            clear hsw HLs
            have d1 : decide (0 < ((k : Int) + 1)) = true := by rw [decide_eq_true_eq]; omega
            have w1 : IntKind.i64.wrap ((k : Int) + 1 - 1) = (k : Int) := by rw [show (k : Int) + 1 - 1 = k by omega]; exact IntWalk.i64_in _ (by omega)
            by_cases hr : 0 < r
            · have hr1 : r = 1 := by omega
              have HPK : Hid (posFrom f.con (cons (L.take i)) i = posFrom f.con (cons (L.take i)) k) := by show _ = _; rw [hP.out, HPS.out, hr1]; rfl
              have d2 : decide (0 < r) = true := by simp; omega
              clear hP HPS hrange hr1
              go_wp2_with fail
              refine wp_region_over (by kernel_rfl) (by kernel_rfl) ?_
              repeat (first
                | ((with_reducible show wpQuiet _ _ _ _ (⟨some 27, _, _, _, _, _⟩ :: _) _); refine wpQuiet_load_row rfl rowFct (.tmp 26) rfl g (k * 11) rfl y.cs rfl hgl hry ?_; simp only [Act.put, List.setIfInBounds_toArray, List.set_cons_zero, List.set_cons_succ])
                | ((with_reducible show wpQuiet _ _ _ _ (⟨some 28, _, _, _, _, _⟩ :: _) _); refine wpQuiet_load_row rfl rowFct (.tmp 5) rfl g5 (0) rfl f.cs rfl h5l hr5 ?_; simp only [Act.put, List.setIfInBounds_toArray, List.set_cons_zero, List.set_cons_succ])
                | go_big_quiet_step (((go_at_call 40; exact calls_over (fcompare_val HC.out (Hyo.out.over _) (Hfo.out.over _))))))
              refine wpQuiet_nil ?_
              rintro _ ⟨u, rfl⟩
              have hGu := hG.keep u.bel
              have hownU := own_bel hownM u.bel
              have hryU := rangeAt_bel hgl hry u.bel
              have b5U := b5.bel u.bel
              have HfoU : Hid (f.ok u.wd) := Hfo.out.over u
              clear hG hownM hry b5 Hyo Hfo hr5 h5l
              have HyA : Hid (Away (.slice (some ⟨g, 0, none⟩) n c) y) := hGu.away y Hym.out
              have HyN : Hid (0 < y.ks.n → ∀ ad, y.ks.A = some ad → w.heap.size ≤ ad.block) := hGu.new y Hym.out
              have HyoU : Hid (y.ok u.wd) := hGu.ok y Hym.out
              go_wp2_with (first
                | ((with_reducible show wpList _ _ _ (⟨some 40, _, _, _, _, _⟩ :: _) _ _); refine wpList_load_row_at rfl rowFct (.tmp 39) rfl g (k * 11) rfl y.cs rfl hryU ?_)
                | ((with_reducible show wpList _ _ _ (⟨_, .store _ (.tmp 41) _, _, _, _, _⟩ :: _) _ _); refine wpList_store_own (α := Fct) rfl rowFct (.tmp 41) (.tmp 40) rfl rfl (k + 1) rfl hownU (by omega) y y.cs rfl rfl (fct_one _) ?_; intro w9 hown9 hg9))
              rw [mid_set (by have := hLl.out; omega)] at hown9
              have hG9 := hGu.set (k := k + 1) (f := y) HML.out (by rw [mid_set (by have := hLl.out; omega)]; exact hown9) hg9 HyoU.out HyA.out HyN.out
              rw [mid_set (by have := hLl.out; omega), mid_shift Hy.out (by omega)] at hG9
              have b59 := b5U.grown hg9 (by simpa using hne)
              have Hfo9 : Hid (f.ok w9) := ⟨HfoU.out.ks.grown hg9 HfA.out, HfoU.out.ag⟩
              have HG9 := Lib.hid hG9
              clear hG9 hown9 hg9 hGu hownU
              go_wp2
              go_roundg k
              case rel => exact ⟨k, y, rfl, by omega, by go_num, HG9.out, b59, Hfo9.out, HPK⟩
              case measure => rw [Hgj.out]; omega
            · have hK : Hid (k + 1 = posFrom f.con (cons (L.take i)) i) := by
                show _ = _
                rw [hP.out, HPS.out, if_neg (by simp; omega)]
              have d2 : decide (0 < r) = false := by simp; omega
              have HR1 : Hid (cons ((mid L i (k + 1) f).take (i + 1)) = sortC ((cons l).take (i + 1))) := by
                show _ = _
                rw [mid_ins hLl.out hK.out, hS.out]
                have h1 : cons (L.drop i) = (cons l).drop i := hD.out
                have h2 : ((cons l).drop i)[0]? = some f.con := by rw [← h1]; exact cons_get (by rw [List.getElem?_drop]; exact Hf.out)
                rw [List.getElem?_drop, Nat.add_zero] at h2
                rw [List.take_add_one, h2]
                exact (sortC_snoc _ _).symm
              have HR2 : Hid (cons ((mid L i (k + 1) f).drop (i + 1)) = (cons l).drop (i + 1)) := by
                show _ = _
                have h1 : cons (L.drop i) = (cons l).drop i := hD.out
                rw [mid_drop hLl.out (by omega)]
                have h2 := congrArg (List.drop 1) h1
                rw [← cons_drop, List.drop_drop, List.drop_drop] at h2
                exact h2
              have HR3 : Hid ((mid L i (k + 1) f).length = n) := by show _ = _; rw [mid_len hLl.out (by omega)]; exact hLn.out
              clear hP HPS hrange
              go_wp2_with fail
              refine wp_region_over (by kernel_rfl) (by kernel_rfl) ?_
              repeat (first
                | ((with_reducible show wpQuiet _ _ _ _ (⟨some 27, _, _, _, _, _⟩ :: _) _); refine wpQuiet_load_row rfl rowFct (.tmp 26) rfl g (k * 11) rfl y.cs rfl hgl hry ?_; simp only [Act.put, List.setIfInBounds_toArray, List.set_cons_zero, List.set_cons_succ])
                | ((with_reducible show wpQuiet _ _ _ _ (⟨some 28, _, _, _, _, _⟩ :: _) _); refine wpQuiet_load_row rfl rowFct (.tmp 5) rfl g5 (0) rfl f.cs rfl h5l hr5 ?_; simp only [Act.put, List.setIfInBounds_toArray, List.set_cons_zero, List.set_cons_succ])
                | go_big_quiet_step (((go_at_call 40; exact calls_over (fcompare_val HC.out (Hyo.out.over _) (Hfo.out.over _))))))
              refine wpQuiet_nil ?_
              rintro _ ⟨u, rfl⟩
              have hGu := hG.keep u.bel
              have hownU := own_bel hownM u.bel
              have b5U := b5.bel u.bel
              have HfoU : Hid (f.ok u.wd) := Hfo.out.over u
              clear hG hownM hry b5 Hyo Hfo hr5 h5l
              go_wp2_with (first
                | ((with_reducible show wpList _ _ _ (⟨some 44, _, _, _, _, _⟩ :: _) _ _); refine wpList_load_blkG (by first | rfl | go_simp) rowFct (.tmp 5) (by rfl) g5 (by rfl) b5U rfl ?_)
                | ((with_reducible show wpList _ _ _ (⟨_, .store _ (.tmp 45) _, _, _, _, _⟩ :: _) _ _); refine wpList_store_own (α := Fct) rfl rowFct (.tmp 45) (.tmp 44) rfl rfl (k + 1) rfl hownU (by omega) f f.cs rfl rfl (fct_one _) ?_; intro w9 hown9 hg9))
              rw [mid_set (by have := hLl.out; omega)] at hown9
              have hG9 := (hGu).set (k := k + 1) (f := f) HML.out (by rw [mid_set (by have := hLl.out; omega)]; exact hown9) hg9 HfoU.out HfA.out HfN.out
              rw [mid_set (by have := hLl.out; omega)] at hG9
              have HG9 := Lib.hid hG9
              clear hG9 hown9 hg9
              go_wp2
              go_roundg (n - (i + 1))
              case rel => exact ⟨i + 1, mid L i (k + 1) f, rfl, by omega, by omega, by go_num, HG9.out, HR3, HR1, HR2⟩
              case measure => rw [Hgk.out]; omega
      · obtain rfl : i = n := by omega
        have HR : Hid (cons L = sortC (cons l)) := by
          show _ = _
          have h1 := hS.out
          have h2 : l.length = i := hlen.out
          rw [List.take_of_length_le (by rw [hLn.out]; exact Nat.le_refl _), List.take_of_length_le (by rw [cons_len]; omega)] at h1
          exact h1
        have HG := Lib.hid hG
        clear hG hS hD
        go_wp2
        go_ret
        exact ⟨_, L, rfl, HG.out, HR.out⟩

end Go.Proofs.Ytelnhhbefdfeoaa

namespace Go.Proofs.Ytelnhhbefdfeoaa
open Go.RowKit
set_option linter.unusedVariables false
attribute [local go_sem] fct_get0

theorem own_baseC {w : World} {base base' : Nat} {e : TypeId} {size n : Nat} {v : Value} {xs : List Value} (h : w.ownsRow base e size v n xs) (hb : base' ≤ base) : w.ownsRow base' e size v n xs := by
  refine ⟨h.1, ?_⟩
  rcases h.2 with h0 | ⟨g, cap, cur, h1, h2, h3⟩
  · exact .inl h0
  · exact .inr ⟨g, cap, cur, h1, Nat.le_trans hb h2, h3⟩
/-- A row of facts in new memory, whose tuples lie where they lay. -/
structure Kept (w0 w : World) (v : Value) (L : List Fct) : Prop where
  bel : Bel w0 w
  own : w.ownsRow w0.heap.size 84 11 v L.length (L.flatMap Cel.cells)
  ok : ∀ f ∈ L, f.ok w0
theorem Kept.keep {w0 w w' : World} {v : Value} {L : List Fct} (h : Kept w0 w v L) (hb : Bel w w') : Kept w0 w' v L := ⟨h.bel.trans hb, own_bel h.own hb, h.ok⟩
theorem Kept.row {w0 w : World} {v : Value} {fs : List Fct} (h : Kept w0 w v fs) (hn : fs.length ≤ 1000) : ∃ x : Row Fct, v = x.v ∧ x.ok w ∧ x.l = fs ∧ x.n = fs.length := by
  have hcap := own_cap h.own
  have hr : ∀ A c, v = .slice A fs.length c → Rd w 11 A fs.length (fs.flatMap Cel.cells) := fun A c e => by have := h.own; rw [e] at this; exact Rd.of_own this
  obtain ⟨A, c, rfl, hc⟩ := own_slice h.own
  exact ⟨⟨A, fs.length, c, fs⟩, rfl, ⟨hr A c rfl, fun f hf => Cel.mono h.bel (h.ok f hf), hc, hcap A c rfl, by simp only [Cel.bytes]; omega⟩, rfl, rfl⟩
theorem fct_cells_one (L : List Fct) : ∀ u ∈ L.flatMap Cel.cells, u.oneCell' = true := fun u hu => by
  obtain ⟨f, _, hf⟩ := List.mem_flatMap.1 hu
  exact (Array.all_eq_true_iff_forall_mem.1 (fct_one f)) u (by simpa [Cel.cells] using hf)
def RSortPost (l : List Fct) (w : World) (e : Ending) (w' : World) : Prop := ∃ v fs, e = .returned v ∧ Kept w w' v fs ∧ cons fs = sortC (cons l)

set_option maxRecDepth 100000 in
set_option maxHeartbeats 1000000 in
theorem rsort_any (x : Row Fct) (w : World) (hx : x.ok w) (hn : x.n ≤ 1000) :
    Calls Try.prog 13 #[x.v] w (RSortPost x.l w) := by
  have hlen : Hid (x.l.length = x.n) := hx.len
  have Hx := Lib.hid hx
  clear hx
  obtain ⟨A, n, c0, l⟩ := x
  simp only [Row.v] at *
  have hbs : ∀ w : World, (Instr.buildSlice 30 0 #[]).run Try.prog w = .ok (.slice (some ⟨w.heap.size, 0, none⟩) 0 0) (w.alloc (.cells #[] 84)) := fun _ => by kernel_rfl
  have Hbs := Lib.hid hbs
  clear hbs
  go_enter Try.func13, Try.ntmps13
  go_wp2
  go_loopg [3, 10] n (fun gg s3 i wr => ∃ (k : Nat) (L : List Fct), gg = n - k ∧ k ≤ n ∧ i = .int .i64 k ∧ Kept w wr s3 L ∧ Hid (L.length = k) ∧ Hid (cons L = sortC ((cons l).take k)))
  case atStart => exact ⟨0, [], rfl, by omega, rfl, ⟨Bel.refl _, ⟨rfl, .inl ⟨rfl, rfl⟩⟩, by simp⟩, rfl, rfl⟩
  case round =>
    obtain ⟨k, L, hgk, hk, rfl, hK, hLn, hS⟩ := hrel
    have Hgk := Lib.hid hgk
    clear hgk
    by_cases hlt : k < n
    · obtain ⟨b, o, f, rfl, hb, hf, hfo, _, hrf, _⟩ := (Hx.out.mono hK.bel).fct hlt
      have Hf := Lib.hid hf
      have Hfw : Hid (f.ok w) := Hx.out.all f (List.mem_of_getElem? hf)
      clear hf hfo
      obtain ⟨A3, c3, rfl, hc3⟩ := own_slice hK.own
      rw [hLn.out] at hc3
      have hK1 := hK.keep ((Bel.refl wr).alloc (.cells f.cs 84))
      have b5 := Blk.new wr 84 f.cs
      rw [hLn.out]
      rw [hLn.out] at hK1
      clear hK
      go_wp2_with (first
        | ((with_reducible show wpList _ _ _ (⟨some 13, _, _, _, _, _⟩ :: _) _ _); refine wpList_load_row_at rfl rowFct (.tmp 12) rfl b (o + k * 11) rfl f.cs rfl hrf ?_)
        | ((with_reducible show wpList _ _ _ (⟨_, .store _ (.tmp 5) _, _, _, _, _⟩ :: _) _ _); refine wpList_store_new rfl rowFct (.tmp 5) (.tmp 13) rfl rfl rfl f.cs rfl rfl (fct_one _) ?_))
      generalize wr.alloc (.cells f.cs 84) = W at *
      generalize wr.heap.size = g5 at *
      obtain ⟨wo, rfl⟩ : ∃ wo : World, wo = wr := ⟨_, rfl⟩
      go_loopg [6] k (fun gg s6 wx => ∃ j : Nat, gg = j ∧ j ≤ k ∧ s6 = .int .i64 j ∧ Bel W wx ∧ Hid (posFrom f.con (cons L) k = posFrom f.con (cons L) j))
      case atStart => exact ⟨k, rfl, by omega, rfl, Bel.refl _, rfl⟩
      case round =>
        obtain ⟨j0, hgj, hj, rfl, hB, hP⟩ := hrel
        have Hgj := Lib.hid hgj
        clear hgj
        have hK2 := hK1.keep hB
        have b5x := b5.bel hB
        cases j0 with
        | zero =>
          have hPos : Hid (0 = posFrom f.con (cons L) k) := by show _ = _; rw [hP.out]; rfl
          clear hP
          have d0 : decide ((0 : Int) < 0) = false := rfl
          go_wp2_with fail
          go_quiet (fail)
          obtain ⟨Wc, hWc⟩ : ∃ Wc : World, Wc = wr.drewN nq := ⟨_, rfl⟩
          have HBc : Hid (Bel W Wc) := by rw [hWc]; exact hB.drewN _
          rw [← hWc]
          clear hWc
          have HR : Hid (cons (L.take (0) ++ f :: L.drop (0)) = sortC ((cons l).take (k + 1))) := by
            show _ = _
            have h2 : (cons l)[k]? = some f.con := cons_get Hf.out
            have h3 : (cons l).take (k + 1) = (cons l).take k ++ [f.con] := by rw [List.take_add_one, h2]; rfl
            rw [h3]
            refine Eq.trans ?_ (sortC_snoc _ _).symm
            rw [← hS.out]
            unfold insC
            rw [cons_len, hLn.out, ← hPos.out, cons_app]
            have e1 : cons (L.take (0)) = (cons L).take (0) := cons_take _ _
            have e2 : cons (f :: L.drop (0)) = f.con :: (cons L).drop (0) := by rw [← cons_drop]; rfl
            rw [e1, e2]
          have HRn : Hid ((L.take (0) ++ f :: L.drop (0)).length = k + 1) := by show _ = _; rw [List.length_append, List.length_cons, List.length_take, List.length_drop, hLn.out]; omega
          have HRo : Hid (∀ a ∈ L.take (0) ++ f :: L.drop (0), a.ok w) := fun a ha => by
            rcases List.mem_append.1 ha with h | h
            · exact hK1.ok a (List.mem_of_mem_take h)
            · rcases List.mem_cons.1 h with rfl | h
              · exact Hfw.out
              · exact hK1.ok a (List.mem_of_mem_drop h)
          have hKW := hK1.keep HBc.out
          have b5W := b5.bel HBc.out
          have rd0 : Rd (Wc) 11 A3 k (L.flatMap Cel.cells) := by have := hKW.own; rw [hLn.out] at this; exact Rd.of_own this
          have rdP : Rd (Wc) 11 A3 (0) ((L.take (0)).flatMap Cel.cells) := by have := rd0.take (k := 0) (by omega); rwa [show (0) * 11 = (0) * Cel.size Fct from rfl, flat_take] at this
          have rdQ := rd0
          have hown0 : ((Wc).alloc (.cells #[] 84)).ownsRow (Wc).heap.size 84 11 (.slice (some ⟨(Wc).heap.size, 0, none⟩) 0 0) 0 [] := ⟨rfl, .inr ⟨(Wc).heap.size, 0, #[], rfl, Nat.le_refl _, heap_alloc_new _ _, Nat.le_refl _, Nat.zero_le _, rfl, rfl⟩⟩
          have HwB : Hid (Bel w (Wc)) := hKW.bel
          clear hKW hS
          have hbs := Hbs.out
          by_cases hcp : c3 = 0
          · skip
            go_wp2_with (first
              | ((with_reducible show wpList _ _ _ (⟨some 33, _, _, _, _, _⟩ :: _) _ _); refine wpList_append1 rfl (.tmp 29) (.tmp 32) _ rfl E_fct Wc ((Bel.refl _).alloc _) _ (0) ([]) rfl hown0 _ (0) _ ((L.take (0)).flatMap Cel.cells) rfl (rdP.bel ((Bel.refl _).alloc _)) (fct_cells_one _) (by unfold maxLen; omega) (by omega) ?_; intro v7 w7 hown7 hB7 hg7 hat7; have b57 := b5W.bel hB7)
              | ((with_reducible show wpList _ _ _ (⟨some 35, _, _, _, _, _⟩ :: _) _ _); refine wpList_load_blkG (by first | rfl | go_simp) rowFct (.tmp 5) (by rfl) g5 (by rfl) b57 rfl ?_)
              | ((with_reducible show wpList _ _ _ (⟨some 36, _, _, _, _, _⟩ :: _) _ _); refine wpList_buildSlice1 rfl E_fct (.tmp 35) rfl f.cs rfl rfl (by omega) ?_)
              | ((with_reducible show wpList _ _ _ (⟨some 37, _, _, _, _, _⟩ :: _) _ _); refine wpList_append1 rfl (.tmp 34) (.tmp 36) _ rfl E_fct Wc (hB7.alloc _) v7 (0 + (0)) ([] ++ (L.take (0)).flatMap Cel.cells) rfl (hown7.alloc _) _ (1) _ (f.cs.toList) rfl (rd_new _ _ _ 1 11 rfl) (fun u hu => (Array.all_eq_true_iff_forall_mem.1 (fct_one f)) u (by simpa using hu)) (by unfold maxLen; omega) (by omega) ?_; intro v8 w8 hown8 hB8 hg8 hat8)
              | ((with_reducible show wpList _ _ _ (⟨some 42, _, _, _, _, _⟩ :: _) _ _); refine wpList_append1 rfl (.tmp 38) (.tmp 41) _ rfl E_fct Wc hB8 v8 (0 + (0) + 1) (([] ++ (L.take (0)).flatMap Cel.cells) ++ f.cs.toList) rfl hown8 _ (k) _ (L.flatMap Cel.cells) rfl (rdQ.bel hB8) (fct_cells_one _) (by unfold maxLen; omega) (by omega) ?_; intro v9 w9 hown9 hB9 hg9 hat9))
            have hown : w9.ownsRow w.heap.size 84 11 v9 (L.take (0) ++ f :: L.drop (0)).length ((L.take (0) ++ f :: L.drop (0)).flatMap Cel.cells) := by
              have h1 := own_baseC hown9 HwB.out.size
              rw [HRn.out, List.flatMap_append, List.flatMap_cons]
              have e1 : 0 + (0) + 1 + k = k + 1 := by omega
              rw [e1, List.nil_append, List.append_assoc] at h1
              exact h1
            have HKN : Hid (Kept w w9 v9 (L.take (0) ++ f :: L.drop (0))) := ⟨HwB.out.trans hB9, hown, HRo.out⟩
            clear hown hown9 hown8 hown7 hg7 hg8 hg9 hat7 hat8 hat9
            go_wp2
            go_roundg (n - (k + 1))
            case rel => exact ⟨k + 1, _, rfl, by omega, by go_num, HKN.out, HRn, HR⟩
            case measure => rw [Hgk.out]; omega
          · skip
            go_wp2_with (first
              | ((with_reducible show wpList _ _ _ (⟨some 33, _, _, _, _, _⟩ :: _) _ _); refine wpList_append1 rfl (.tmp 29) (.tmp 32) _ rfl E_fct Wc ((Bel.refl _).alloc _) _ (0) ([]) rfl hown0 _ (0) _ ((L.take (0)).flatMap Cel.cells) rfl (rdP.bel ((Bel.refl _).alloc _)) (fct_cells_one _) (by unfold maxLen; omega) (by omega) ?_; intro v7 w7 hown7 hB7 hg7 hat7; have b57 := b5W.bel hB7)
              | ((with_reducible show wpList _ _ _ (⟨some 35, _, _, _, _, _⟩ :: _) _ _); refine wpList_load_blkG (by first | rfl | go_simp) rowFct (.tmp 5) (by rfl) g5 (by rfl) b57 rfl ?_)
              | ((with_reducible show wpList _ _ _ (⟨some 36, _, _, _, _, _⟩ :: _) _ _); refine wpList_buildSlice1 rfl E_fct (.tmp 35) rfl f.cs rfl rfl (by omega) ?_)
              | ((with_reducible show wpList _ _ _ (⟨some 37, _, _, _, _, _⟩ :: _) _ _); refine wpList_append1 rfl (.tmp 34) (.tmp 36) _ rfl E_fct Wc (hB7.alloc _) v7 (0 + (0)) ([] ++ (L.take (0)).flatMap Cel.cells) rfl (hown7.alloc _) _ (1) _ (f.cs.toList) rfl (rd_new _ _ _ 1 11 rfl) (fun u hu => (Array.all_eq_true_iff_forall_mem.1 (fct_one f)) u (by simpa using hu)) (by unfold maxLen; omega) (by omega) ?_; intro v8 w8 hown8 hB8 hg8 hat8)
              | ((with_reducible show wpList _ _ _ (⟨some 42, _, _, _, _, _⟩ :: _) _ _); refine wpList_append1 rfl (.tmp 38) (.tmp 41) _ rfl E_fct Wc hB8 v8 (0 + (0) + 1) (([] ++ (L.take (0)).flatMap Cel.cells) ++ f.cs.toList) rfl hown8 _ (k) _ (L.flatMap Cel.cells) rfl (rdQ.bel hB8) (fct_cells_one _) (by unfold maxLen; omega) (by omega) ?_; intro v9 w9 hown9 hB9 hg9 hat9))
            have hown : w9.ownsRow w.heap.size 84 11 v9 (L.take (0) ++ f :: L.drop (0)).length ((L.take (0) ++ f :: L.drop (0)).flatMap Cel.cells) := by
              have h1 := own_baseC hown9 HwB.out.size
              rw [HRn.out, List.flatMap_append, List.flatMap_cons]
              have e1 : 0 + (0) + 1 + k = k + 1 := by omega
              rw [e1, List.nil_append, List.append_assoc] at h1
              exact h1
            have HKN : Hid (Kept w w9 v9 (L.take (0) ++ f :: L.drop (0))) := ⟨HwB.out.trans hB9, hown, HRo.out⟩
            clear hown hown9 hown8 hown7 hg7 hg8 hg9 hat7 hat8 hat9
            go_wp2
            go_roundg (n - (k + 1))
            case rel => exact ⟨k + 1, _, rfl, by omega, by go_num, HKN.out, HRn, HR⟩
            case measure => rw [Hgk.out]; omega
        | succ j =>
          obtain ⟨y, Hy⟩ : ∃ y, Hid (L[j]? = some y) := ⟨L[j]'(by have := hLn.out; omega), by show _ = _; exact List.getElem?_eq_getElem _⟩
          obtain ⟨gA, rfl⟩ : ∃ gA, A3 = some ⟨gA, 0, none⟩ := by
            rcases hK2.own.2 with ⟨_, h0⟩ | ⟨g', cap, cur, hv, _⟩
            · have := hLn.out; omega
            · injection hv with h1; exact ⟨g', h1⟩
          have hownX : wr.ownsRow w.heap.size 84 11 (.slice (some ⟨gA, 0, none⟩) k c3) k (L.flatMap Cel.cells) := by have := hK2.own; rw [hLn.out] at this; exact this
          obtain ⟨hry0, hgl⟩ := own_range (α := Fct) hownX Hy.out
          have hry : wr.rangeAt gA (j * 11) y.cs.toList := hry0
          have hr5 := b5x.range
          have h5l := b5x.lt
          have Hyo : Hid (y.ok wr) := ⟨(hK2.ok y (List.mem_of_getElem? Hy.out)).ks.mono hK2.bel, (hK2.ok y (List.mem_of_getElem? Hy.out)).ag⟩
          have HfoX : Hid (f.ok wr) := ⟨Hfw.out.ks.mono hK2.bel, Hfw.out.ag⟩
          have HPS : Hid (posFrom f.con (cons L) (j + 1) = if lessK f.ks.l y.ks.l = true then posFrom f.con (cons L) j else j + 1) := by
            show _ = _
            rw [posFrom, cons_get Hy.out]
            rfl
          clear hownX hry0
          have d1 : decide (0 < ((j : Int) + 1)) = true := by rw [decide_eq_true_eq]; omega
          have w1 : IntKind.i64.wrap ((j : Int) + 1 - 1) = (j : Int) := by rw [show (j : Int) + 1 - 1 = j by omega]; exact IntWalk.i64_in _ (by omega)
          cases hL : lessK f.ks.l y.ks.l with
          | true =>
            have HL := Lib.hid hL
            have HPK : Hid (posFrom f.con (cons L) k = posFrom f.con (cons L) j) := by show _ = _; rw [hP.out, HPS.out, if_pos hL]
            clear hL hP HPS
            go_wp2_with fail
            refine wp_region_over (by kernel_rfl) (by kernel_rfl) ?_
            repeat (first
              | ((with_reducible show wpQuiet _ _ _ _ (⟨some 19, _, _, _, _, _⟩ :: _) _); refine wpQuiet_load_row rfl rowFct (.tmp 5) rfl g5 (0) rfl f.cs rfl h5l hr5 ?_; simp only [Act.put, List.setIfInBounds_toArray, List.set_cons_zero, List.set_cons_succ])
              | ((with_reducible show wpQuiet _ _ _ _ (⟨some 24, _, _, _, _, _⟩ :: _) _); refine wpQuiet_load_row rfl rowFct (.tmp 23) rfl gA (j * 11) rfl y.cs rfl hgl hry ?_; simp only [Act.put, List.setIfInBounds_toArray, List.set_cons_zero, List.set_cons_succ])
              | go_big_quiet_step (((go_at_call 36; exact calls_over (less_val HL.out (HfoX.out.over _) (Hyo.out.over _))))))
            refine wpQuiet_nil ?_
            rintro _ ⟨u, rfl⟩
            clear hry hr5 h5l hgl
            go_wp2
            go_roundg j
            case rel => exact ⟨j, rfl, by omega, by go_num, hB.trans u.bel, HPK⟩
            case measure => rw [Hgj.out]; omega
          | false =>
            have HL := Lib.hid hL
            have hPos : Hid (j + 1 = posFrom f.con (cons L) k) := by show _ = _; rw [hP.out, HPS.out, if_neg (by rw [hL]; simp)]
            clear hL hP HPS
            go_wp2_with fail
            refine wp_region_over (by kernel_rfl) (by kernel_rfl) ?_
            repeat (first
              | ((with_reducible show wpQuiet _ _ _ _ (⟨some 19, _, _, _, _, _⟩ :: _) _); refine wpQuiet_load_row rfl rowFct (.tmp 5) rfl g5 (0) rfl f.cs rfl h5l hr5 ?_; simp only [Act.put, List.setIfInBounds_toArray, List.set_cons_zero, List.set_cons_succ])
              | ((with_reducible show wpQuiet _ _ _ _ (⟨some 24, _, _, _, _, _⟩ :: _) _); refine wpQuiet_load_row rfl rowFct (.tmp 23) rfl gA (j * 11) rfl y.cs rfl hgl hry ?_; simp only [Act.put, List.setIfInBounds_toArray, List.set_cons_zero, List.set_cons_succ])
              | go_big_quiet_step (((go_at_call 36; exact calls_over (less_val HL.out (HfoX.out.over _) (Hyo.out.over _))))))
            refine wpQuiet_nil ?_
            rintro _ ⟨u, rfl⟩
            clear hry hr5 h5l hgl hK2 b5x
            have HBc : Hid (Bel W u.wd) := hB.trans u.bel
            generalize u.wd = Wc at *
            obtain ⟨A3, HA3⟩ : ∃ A3 : Option Addr, Hid (some ⟨gA, 0, none⟩ = A3) := ⟨_, rfl⟩
            rw [HA3.out] at hK1 ⊢
            have HR : Hid (cons (L.take (j + 1) ++ f :: L.drop (j + 1)) = sortC ((cons l).take (k + 1))) := by
              show _ = _
              have h2 : (cons l)[k]? = some f.con := cons_get Hf.out
              have h3 : (cons l).take (k + 1) = (cons l).take k ++ [f.con] := by rw [List.take_add_one, h2]; rfl
              rw [h3]
              refine Eq.trans ?_ (sortC_snoc _ _).symm
              rw [← hS.out]
              unfold insC
              rw [cons_len, hLn.out, ← hPos.out, cons_app]
              have e1 : cons (L.take (j + 1)) = (cons L).take (j + 1) := cons_take _ _
              have e2 : cons (f :: L.drop (j + 1)) = f.con :: (cons L).drop (j + 1) := by rw [← cons_drop]; rfl
              rw [e1, e2]
            have HRn : Hid ((L.take (j + 1) ++ f :: L.drop (j + 1)).length = k + 1) := by show _ = _; rw [List.length_append, List.length_cons, List.length_take, List.length_drop, hLn.out]; omega
            have HRo : Hid (∀ a ∈ L.take (j + 1) ++ f :: L.drop (j + 1), a.ok w) := fun a ha => by
              rcases List.mem_append.1 ha with h | h
              · exact hK1.ok a (List.mem_of_mem_take h)
              · rcases List.mem_cons.1 h with rfl | h
                · exact Hfw.out
                · exact hK1.ok a (List.mem_of_mem_drop h)
            have hKW := hK1.keep HBc.out
            have b5W := b5.bel HBc.out
            have rd0 : Rd (Wc) 11 A3 k (L.flatMap Cel.cells) := by have := hKW.own; rw [hLn.out] at this; exact Rd.of_own this
            have rdP : Rd (Wc) 11 A3 (j + 1) ((L.take (j + 1)).flatMap Cel.cells) := by have := rd0.take (k := j + 1) (by omega); rwa [show (j + 1) * 11 = (j + 1) * Cel.size Fct from rfl, flat_take] at this
            have rdQ := rd0.drop (k := j + 1) (cap := c3) (by omega) hc3
            rw [show (j + 1) * 11 = (j + 1) * Cel.size Fct from rfl, flat_drop] at rdQ
            have hown0 : ((Wc).alloc (.cells #[] 84)).ownsRow (Wc).heap.size 84 11 (.slice (some ⟨(Wc).heap.size, 0, none⟩) 0 0) 0 [] := ⟨rfl, .inr ⟨(Wc).heap.size, 0, #[], rfl, Nat.le_refl _, heap_alloc_new _ _, Nat.le_refl _, Nat.zero_le _, rfl, rfl⟩⟩
            have HwB : Hid (Bel w (Wc)) := hKW.bel
            clear hKW rd0 hS
            have hbs := Hbs.out
            by_cases hcp : c3 = j + 1
            · rw [if_pos hcp] at rdQ
              go_wp2_with (first
                | ((with_reducible show wpList _ _ _ (⟨some 33, _, _, _, _, _⟩ :: _) _ _); refine wpList_append1 rfl (.tmp 29) (.tmp 32) _ rfl E_fct Wc ((Bel.refl _).alloc _) _ (0) ([]) rfl hown0 _ (j + 1) _ ((L.take (j + 1)).flatMap Cel.cells) rfl (rdP.bel ((Bel.refl _).alloc _)) (fct_cells_one _) (by unfold maxLen; omega) (by omega) ?_; intro v7 w7 hown7 hB7 hg7 hat7; have b57 := b5W.bel hB7)
                | ((with_reducible show wpList _ _ _ (⟨some 35, _, _, _, _, _⟩ :: _) _ _); refine wpList_load_blkG (by first | rfl | go_simp) rowFct (.tmp 5) (by rfl) g5 (by rfl) b57 rfl ?_)
                | ((with_reducible show wpList _ _ _ (⟨some 36, _, _, _, _, _⟩ :: _) _ _); refine wpList_buildSlice1 rfl E_fct (.tmp 35) rfl f.cs rfl rfl (by omega) ?_)
                | ((with_reducible show wpList _ _ _ (⟨some 37, _, _, _, _, _⟩ :: _) _ _); refine wpList_append1 rfl (.tmp 34) (.tmp 36) _ rfl E_fct Wc (hB7.alloc _) v7 (0 + (j + 1)) ([] ++ (L.take (j + 1)).flatMap Cel.cells) rfl (hown7.alloc _) _ (1) _ (f.cs.toList) rfl (rd_new _ _ _ 1 11 rfl) (fun u hu => (Array.all_eq_true_iff_forall_mem.1 (fct_one f)) u (by simpa using hu)) (by unfold maxLen; omega) (by omega) ?_; intro v8 w8 hown8 hB8 hg8 hat8)
                | ((with_reducible show wpList _ _ _ (⟨some 42, _, _, _, _, _⟩ :: _) _ _); refine wpList_append1 rfl (.tmp 38) (.tmp 41) _ rfl E_fct Wc hB8 v8 (0 + (j + 1) + 1) (([] ++ (L.take (j + 1)).flatMap Cel.cells) ++ f.cs.toList) rfl hown8 _ (k - (j + 1)) _ ((L.drop (j + 1)).flatMap Cel.cells) rfl (rdQ.bel hB8) (fct_cells_one _) (by unfold maxLen; omega) (by omega) ?_; intro v9 w9 hown9 hB9 hg9 hat9))
              have hown : w9.ownsRow w.heap.size 84 11 v9 (L.take (j + 1) ++ f :: L.drop (j + 1)).length ((L.take (j + 1) ++ f :: L.drop (j + 1)).flatMap Cel.cells) := by
                have h1 := own_baseC hown9 HwB.out.size
                rw [HRn.out, List.flatMap_append, List.flatMap_cons]
                have e1 : 0 + (j + 1) + 1 + (k - (j + 1)) = k + 1 := by omega
                rw [e1, List.nil_append, List.append_assoc] at h1
                exact h1
              have HKN : Hid (Kept w w9 v9 (L.take (j + 1) ++ f :: L.drop (j + 1))) := ⟨HwB.out.trans hB9, hown, HRo.out⟩
              clear hown hown9 hown8 hown7 hg7 hg8 hg9 hat7 hat8 hat9
              go_wp2
              go_roundg (n - (k + 1))
              case rel => exact ⟨k + 1, _, rfl, by omega, by go_num, HKN.out, HRn, HR⟩
              case measure => rw [Hgk.out]; omega
            · rw [if_neg hcp] at rdQ
              go_wp2_with (first
                | ((with_reducible show wpList _ _ _ (⟨some 33, _, _, _, _, _⟩ :: _) _ _); refine wpList_append1 rfl (.tmp 29) (.tmp 32) _ rfl E_fct Wc ((Bel.refl _).alloc _) _ (0) ([]) rfl hown0 _ (j + 1) _ ((L.take (j + 1)).flatMap Cel.cells) rfl (rdP.bel ((Bel.refl _).alloc _)) (fct_cells_one _) (by unfold maxLen; omega) (by omega) ?_; intro v7 w7 hown7 hB7 hg7 hat7; have b57 := b5W.bel hB7)
                | ((with_reducible show wpList _ _ _ (⟨some 35, _, _, _, _, _⟩ :: _) _ _); refine wpList_load_blkG (by first | rfl | go_simp) rowFct (.tmp 5) (by rfl) g5 (by rfl) b57 rfl ?_)
                | ((with_reducible show wpList _ _ _ (⟨some 36, _, _, _, _, _⟩ :: _) _ _); refine wpList_buildSlice1 rfl E_fct (.tmp 35) rfl f.cs rfl rfl (by omega) ?_)
                | ((with_reducible show wpList _ _ _ (⟨some 37, _, _, _, _, _⟩ :: _) _ _); refine wpList_append1 rfl (.tmp 34) (.tmp 36) _ rfl E_fct Wc (hB7.alloc _) v7 (0 + (j + 1)) ([] ++ (L.take (j + 1)).flatMap Cel.cells) rfl (hown7.alloc _) _ (1) _ (f.cs.toList) rfl (rd_new _ _ _ 1 11 rfl) (fun u hu => (Array.all_eq_true_iff_forall_mem.1 (fct_one f)) u (by simpa using hu)) (by unfold maxLen; omega) (by omega) ?_; intro v8 w8 hown8 hB8 hg8 hat8)
                | ((with_reducible show wpList _ _ _ (⟨some 42, _, _, _, _, _⟩ :: _) _ _); refine wpList_append1 rfl (.tmp 38) (.tmp 41) _ rfl E_fct Wc hB8 v8 (0 + (j + 1) + 1) (([] ++ (L.take (j + 1)).flatMap Cel.cells) ++ f.cs.toList) rfl hown8 _ (k - (j + 1)) _ ((L.drop (j + 1)).flatMap Cel.cells) rfl (rdQ.bel hB8) (fct_cells_one _) (by unfold maxLen; omega) (by omega) ?_; intro v9 w9 hown9 hB9 hg9 hat9))
              have hown : w9.ownsRow w.heap.size 84 11 v9 (L.take (j + 1) ++ f :: L.drop (j + 1)).length ((L.take (j + 1) ++ f :: L.drop (j + 1)).flatMap Cel.cells) := by
                have h1 := own_baseC hown9 HwB.out.size
                rw [HRn.out, List.flatMap_append, List.flatMap_cons]
                have e1 : 0 + (j + 1) + 1 + (k - (j + 1)) = k + 1 := by omega
                rw [e1, List.nil_append, List.append_assoc] at h1
                exact h1
              have HKN : Hid (Kept w w9 v9 (L.take (j + 1) ++ f :: L.drop (j + 1))) := ⟨HwB.out.trans hB9, hown, HRo.out⟩
              clear hown hown9 hown8 hown7 hg7 hg8 hg9 hat7 hat8 hat9
              go_wp2
              go_roundg (n - (k + 1))
              case rel => exact ⟨k + 1, _, rfl, by omega, by go_num, HKN.out, HRn, HR⟩
              case measure => rw [Hgk.out]; omega
    · obtain rfl : k = n := by omega
      have HR : Hid (cons L = sortC (cons l)) := by
        show _ = _
        rw [hS.out, List.take_of_length_le (by rw [cons_len]; have h2 : l.length = k := hlen.out; omega)]
      have HK := Lib.hid hK
      clear hK hS
      go_wp2
      go_ret
      exact ⟨_, L, rfl, HK.out, HR.out⟩

end Go.Proofs.Ytelnhhbefdfeoaa

namespace Go.Proofs.Ytelnhhbefdfeoaa
open Go.RowKit Go.Shelf
set_option linter.unusedVariables false
attribute [local go_sem] Oper.semAt_some

/-- The k-th piece of a row, of m. -/
def piece (b o m : Nat) (l : List Fct) (k : Nat) : Row Fct := ⟨some ⟨b, o + k * m * 11, none⟩, min m (l.length - k * m), min m (l.length - k * m), (l.drop (k * m)).take m⟩
def upto {α : Type} (f : Nat → α) (k : Nat) : List α := (List.range k).map f
theorem upto_succ {α : Type} (f : Nat → α) (k : Nat) : upto f (k + 1) = upto f k ++ [f k] := by simp [upto, List.range_succ]
theorem upto_length {α : Type} (f : Nat → α) (k : Nat) : (upto f k).length = k := by simp [upto]

/-- Two variables hold what they held. -/
def KeepC (Bs Bn : Nat) (W W' : World) : Prop := W'.cell? ⟨Bs, 0, none⟩ = W.cell? ⟨Bs, 0, none⟩ ∧ W'.cell? ⟨Bn, 0, none⟩ = W.cell? ⟨Bn, 0, none⟩
theorem KeepC.trans {Bs Bn : Nat} {A B C : World} (h : KeepC Bs Bn A B) (k : KeepC Bs Bn B C) : KeepC Bs Bn A C := ⟨k.1.trans h.1, k.2.trans h.2⟩
theorem grown_drewN (w : World) (n : Nat) : w.grownBy (w.drewN n) none := ⟨rfl, rfl, rfl, Nat.le_refl _, fun _ _ _ => rfl⟩

set_option maxRecDepth 100000 in
set_option maxHeartbeats 1000000 in
theorem chunk1_in (n : Nat) (hn : 1 ≤ n) (lp Bs Bn b o c m : Nat) (l : List Fct) (hm1 : 1 ≤ m) (hm2 : m ≤ 9223372036854775807) (hl : l.length ≤ 1000) (hc : l.length ≤ c) (hc2 : c ≤ 9223372036854775807) (Pd : Row Fct → Prop) (hP : ∀ k, Pd (piece b o m l k)) (J Jx : List {x : Row Fct // Pd x} → World → Prop) (hJd : ∀ s A B, J s A → A.grownBy B none → J s B)
    (hY : ∀ pre (x : {x : Row Fct // Pd x}) W, J pre W → pre.length < l.length → YieldAt Fence.wide (n - 1) Try.prog lp #[x.1.v] W fun e W' =>
      (e = .returned (.bool true) ∧ J (pre ++ [x]) W' ∧ KeepC Bs Bn W W') ∨ (e = .returned (.bool false) ∧ Jx (pre ++ [x]) W'))
    (W : World) (hBs : W.cell? ⟨Bs, 0, none⟩ = some (.slice (some ⟨b, o, none⟩) l.length c)) (hBn : W.cell? ⟨Bn, 0, none⟩ = some (.int .i64 m)) (h0 : J [] W) :
    CallsIn Fence.wide n Try.prog 110 #[.func (.yield lp) #[] #[], .pointer (some ⟨Bs, 0, none⟩), .pointer (some ⟨Bn, 0, none⟩)] W fun e W' => (∃ v, e = .returned v) ∧
      ((∃ k ys, l.length ≤ k * m ∧ (k = 0 ∨ (k - 1) * m < l.length) ∧ ys = upto (fun j => (⟨piece b o m l j, hP j⟩ : {x : Row Fct // Pd x})) k ∧ J ys W') ∨ (∃ pre, Jx pre W')) := by
  have hlen : Hid (∃ n1, n1 = l.length) := ⟨_, rfl⟩
  refine callsIn_of_wp Try.func110 rfl trivial ?_ rfl
  simp only [Try.ntmps110, List.size_toArray, List.length_cons, List.length_nil, Nat.reduceAdd, Nat.reduceSub, Array.replicate_succ, Array.replicate_zero, List.push_toArray, List.append_toArray, List.nil_append, List.cons_append]
  gi_wp2
  gi_loopw [4] (fun i wr => ∃ k : Nat, (k = 0 ∨ (k - 1) * m < l.length) ∧ k ≤ l.length ∧ i = .int .i64 (k * m : Nat) ∧ J (upto (fun j => (⟨piece b o m l j, hP j⟩ : {x : Row Fct // Pd x})) k) wr ∧ KeepC Bs Bn W wr)
    (fun i _ => l.length - (intOf i).toNat)
  case atStart => exact ⟨0, .inl rfl, Nat.zero_le _, by simp, h0, ⟨rfl, rfl⟩⟩
  case round =>
    obtain ⟨k, hk, hkl, rfl, hJs, hnx⟩ := hrel
    have c1 := hnx.1.trans hBs
    have c2 := hnx.2.trans hBn
    generalize hi : k * m = i at *
    by_cases hlt : i < l.length
    · obtain ⟨e, he⟩ : ∃ e, e = min m (l.length - i) := ⟨_, rfl⟩
      have he1 : 1 ≤ e := by omega
      have he2 : i + e ≤ l.length := by omega
      have hi0 : (0 : Int) ≤ (i : Int) := by omega
      have hi1 : (i : Int) ≤ (l.length : Int) := by omega
      have hmin : min (m : Int) ((l.length - i : Nat) : Int) = (e : Int) := by omega
      have HE := Lib.hid he
      have HI := Lib.hid hi
      clear he hi
      gi_wp2_with fail
      gi_quiet (fail)
      have HX : Hid (piece b o m l k = ⟨some ⟨b, o + i * 11, none⟩, e, e, (l.drop i).take m⟩) := by show _ = _; unfold piece; rw [HI.out, ← HE.out]
      have hJ2 : J (upto (fun j => (⟨piece b o m l j, hP j⟩ : {x : Row Fct // Pd x})) k) (wr.drewN nq) := hJd _ _ _ hJs (grown_drewN wr nq)
      have hnx2 : KeepC Bs Bn W (wr.drewN nq) := hnx
      have c12 : (wr.drewN nq).cell? ⟨Bs, 0, none⟩ = some (.slice (some ⟨b, o, none⟩) l.length c) := c1
      have c22 : (wr.drewN nq).cell? ⟨Bn, 0, none⟩ = some (.int .i64 m) := c2
      have hkl2 : k < l.length := by have h1 := HI.out; have : k ≤ k * m := Nat.le_mul_of_pos_right _ hm1; omega
      generalize wr.drewN nq = V at *
      obtain ⟨fn, tmps, assign, body, hy, hR⟩ := hY _ ⟨(⟨some ⟨b, o + i * 11, none⟩, e, e, (l.drop i).take m⟩ : Row Fct), by rw [← HX.out]; exact hP k⟩ V hJ2 (by rw [upto_length]; exact hkl2)
      simp only [Row.v] at hy
      clear c1 c2 hJs hnx hmin
      gi_wp2
      refine hR.mono ?_
      rintro e' W3 (⟨rfl, hJ3, hk3⟩ | ⟨rfl, hJx3⟩)
      · have c13 := hk3.1.trans c12
        have c23 := hk3.2.trans c22
        have him : i + m ≤ 9223372036854775807 := by
          have h1 := HI.out
          cases k with
          | zero => simp at h1; omega
          | succ k => have : m ≤ (k + 1) * m := Nat.le_mul_of_pos_left _ (by omega); omega
        have Him : Hid ((k + 1) * m = i + m) := by show _ = _; rw [Nat.add_mul, HI.out, Nat.one_mul]
        have hJ4 : J (upto (fun j => (⟨piece b o m l j, hP j⟩ : {x : Row Fct // Pd x})) (k + 1)) W3 := by
          rw [upto_succ]
          have e1 : (⟨piece b o m l k, hP k⟩ : {x : Row Fct // Pd x}) = ⟨(⟨some ⟨b, o + i * 11, none⟩, e, e, (l.drop i).take m⟩ : Row Fct), by rw [← HX.out]; exact hP k⟩ := Subtype.ext HX.out
          rw [e1]
          exact hJ3
        clear hJ3
        gi_wp2
        go_roundw
        case rel => exact ⟨k + 1, .inr (by rw [show k + 1 - 1 = k by omega, HI.out]; exact hlt), by omega, by rw [Him.out]; go_num, hJ4, hnx2.trans hk3⟩
        case measure => simp [intOf]; omega
      · gi_wp2
        refine bodyPost_ret (results_none rfl _ _ _) rfl ?_
        exact ⟨⟨_, rfl⟩, .inr ⟨_, hJx3⟩⟩
    · gi_wp2
      go_end0
      exact ⟨⟨_, rfl⟩, .inl ⟨k, _, by rw [hi]; omega, hk, rfl, hJs⟩⟩

set_option maxRecDepth 100000 in
set_option maxHeartbeats 1000000 in
/-- .. of no facts: no round. -/
theorem chunk1_nil_in (n : Nat) (lp Bs Bn : Nat) {α : Type} (J : List α → World → Prop) (A : Option Addr) (c : Nat) (W : World) (hBs : W.cell? ⟨Bs, 0, none⟩ = some (.slice A 0 c)) (h0 : J [] W) :
    CallsIn Fence.wide n Try.prog 110 #[.func (.yield lp) #[] #[], .pointer (some ⟨Bs, 0, none⟩), .pointer (some ⟨Bn, 0, none⟩)] W fun e W' => (∃ v, e = .returned v) ∧ J [] W' := by
  refine callsIn_of_wp Try.func110 rfl trivial ?_ rfl
  simp only [Try.ntmps110, List.size_toArray, List.length_cons, List.length_nil, Nat.reduceAdd, Nat.reduceSub, Array.replicate_succ, Array.replicate_zero, List.push_toArray, List.append_toArray, List.nil_append, List.cons_append]
  gi_wp2
  gi_loopw [4] (fun i wr => i = .int .i64 0 ∧ wr = W) (fun _ _ => 0)
  case atStart => exact ⟨rfl, rfl⟩
  case round =>
    obtain ⟨rfl, rfl⟩ := hrel
    gi_wp2
    go_end0
    exact ⟨⟨_, rfl⟩, h0⟩

set_option maxRecDepth 100000 in
set_option maxHeartbeats 1000000 in
theorem chunk_in (n : Nat) (A : Option Addr) (len c m : Nat) (hm : 1 ≤ m) (w : World) :
    CallsIn Fence.wide n Try.prog 98 #[.slice A len c, .int .i64 m] w fun e w' => e = .returned (.func (.func 110) #[] #[.pointer (some ⟨w.heap.size, 0, none⟩), .pointer (some ⟨w.heap.size + 1, 0, none⟩)]) ∧ w' = (w.alloc (.cells #[.slice A len c] 30)).alloc (.cells #[.int .i64 m] 3) := by
  have d : decide ((m : Int) < 1) = false := by simp; omega
  refine callsIn_of_wp Try.func98 rfl trivial ?_ rfl
  simp only [Try.ntmps98, List.size_toArray, List.length_cons, List.length_nil, Nat.reduceAdd, Nat.reduceSub, Array.replicate_succ, Array.replicate_zero, List.push_toArray, List.append_toArray, List.nil_append, List.cons_append]
  gi_wp2
  go_ret
  exact ⟨rfl, rfl⟩

end Go.Proofs.Ytelnhhbefdfeoaa

namespace Go.Proofs.Ytelnhhbefdfeoaa
open Go.RowKit Go.Shelf
set_option linter.unusedVariables false
attribute [local go_sem] Oper.semAt_some

/-- The k-th pieceR of a row of runs, of m. -/
def pieceR (b o m : Nat) (l : List (Row Fct)) (k : Nat) : Row (Row Fct) := ⟨some ⟨b, o + k * m, none⟩, min m (l.length - k * m), min m (l.length - k * m), (l.drop (k * m)).take m⟩

set_option maxRecDepth 100000 in
set_option maxHeartbeats 1000000 in
theorem chunkR1_in (n : Nat) (hn : 1 ≤ n) (lp Bs Bn b o c m : Nat) (l : List (Row Fct)) (hm1 : 1 ≤ m) (hm2 : m ≤ 9223372036854775807) (hl : l.length ≤ 1000) (hc : l.length ≤ c) (hc2 : c ≤ 9223372036854775807) (Pd : Row (Row Fct) → Prop) (hP : ∀ k, Pd (pieceR b o m l k)) (J Jx : List {x : Row (Row Fct) // Pd x} → World → Prop) (hJd : ∀ s A B, J s A → A.grownBy B none → J s B)
    (hY : ∀ pre (x : {x : Row (Row Fct) // Pd x}) W, J pre W → pre.length < l.length → YieldAt Fence.wide (n - 1) Try.prog lp #[x.1.v] W fun e W' =>
      (e = .returned (.bool true) ∧ J (pre ++ [x]) W' ∧ KeepC Bs Bn W W') ∨ (e = .returned (.bool false) ∧ Jx (pre ++ [x]) W'))
    (W : World) (hBs : W.cell? ⟨Bs, 0, none⟩ = some (.slice (some ⟨b, o, none⟩) l.length c)) (hBn : W.cell? ⟨Bn, 0, none⟩ = some (.int .i64 m)) (h0 : J [] W) :
    CallsIn Fence.wide n Try.prog 99 #[.func (.yield lp) #[] #[], .pointer (some ⟨Bs, 0, none⟩), .pointer (some ⟨Bn, 0, none⟩)] W fun e W' => (∃ v, e = .returned v) ∧
      ((∃ k ys, l.length ≤ k * m ∧ (k = 0 ∨ (k - 1) * m < l.length) ∧ ys = upto (fun j => (⟨pieceR b o m l j, hP j⟩ : {x : Row (Row Fct) // Pd x})) k ∧ J ys W') ∨ (∃ pre, Jx pre W')) := by
  have hlen : Hid (∃ n1, n1 = l.length) := ⟨_, rfl⟩
  refine callsIn_of_wp Try.func99 rfl trivial ?_ rfl
  simp only [Try.ntmps99, List.size_toArray, List.length_cons, List.length_nil, Nat.reduceAdd, Nat.reduceSub, Array.replicate_succ, Array.replicate_zero, List.push_toArray, List.append_toArray, List.nil_append, List.cons_append]
  gi_wp2
  gi_loopw [4] (fun i wr => ∃ k : Nat, (k = 0 ∨ (k - 1) * m < l.length) ∧ k ≤ l.length ∧ i = .int .i64 (k * m : Nat) ∧ J (upto (fun j => (⟨pieceR b o m l j, hP j⟩ : {x : Row (Row Fct) // Pd x})) k) wr ∧ KeepC Bs Bn W wr)
    (fun i _ => l.length - (intOf i).toNat)
  case atStart => exact ⟨0, .inl rfl, Nat.zero_le _, by simp, h0, ⟨rfl, rfl⟩⟩
  case round =>
    obtain ⟨k, hk, hkl, rfl, hJs, hnx⟩ := hrel
    have c1 := hnx.1.trans hBs
    have c2 := hnx.2.trans hBn
    generalize hi : k * m = i at *
    by_cases hlt : i < l.length
    · obtain ⟨e, he⟩ : ∃ e, e = min m (l.length - i) := ⟨_, rfl⟩
      have he1 : 1 ≤ e := by omega
      have he2 : i + e ≤ l.length := by omega
      have hi0 : (0 : Int) ≤ (i : Int) := by omega
      have hi1 : (i : Int) ≤ (l.length : Int) := by omega
      have hmin : min (m : Int) ((l.length - i : Nat) : Int) = (e : Int) := by omega
      have HE := Lib.hid he
      have HI := Lib.hid hi
      clear he hi
      gi_wp2_with fail
      gi_quiet (fail)
      have HX : Hid (pieceR b o m l k = ⟨some ⟨b, o + i, none⟩, e, e, (l.drop i).take m⟩) := by show _ = _; unfold pieceR; rw [HI.out, ← HE.out]
      have hJ2 : J (upto (fun j => (⟨pieceR b o m l j, hP j⟩ : {x : Row (Row Fct) // Pd x})) k) (wr.drewN nq) := hJd _ _ _ hJs (grown_drewN wr nq)
      have hnx2 : KeepC Bs Bn W (wr.drewN nq) := hnx
      have c12 : (wr.drewN nq).cell? ⟨Bs, 0, none⟩ = some (.slice (some ⟨b, o, none⟩) l.length c) := c1
      have c22 : (wr.drewN nq).cell? ⟨Bn, 0, none⟩ = some (.int .i64 m) := c2
      have hkl2 : k < l.length := by have h1 := HI.out; have : k ≤ k * m := Nat.le_mul_of_pos_right _ hm1; omega
      generalize wr.drewN nq = V at *
      obtain ⟨fn, tmps, assign, body, hy, hR⟩ := hY _ ⟨(⟨some ⟨b, o + i, none⟩, e, e, (l.drop i).take m⟩ : Row (Row Fct)), by rw [← HX.out]; exact hP k⟩ V hJ2 (by rw [upto_length]; exact hkl2)
      simp only [Row.v] at hy
      clear c1 c2 hJs hnx hmin
      gi_wp2
      refine hR.mono ?_
      rintro e' W3 (⟨rfl, hJ3, hk3⟩ | ⟨rfl, hJx3⟩)
      · have c13 := hk3.1.trans c12
        have c23 := hk3.2.trans c22
        have him : i + m ≤ 9223372036854775807 := by
          have h1 := HI.out
          cases k with
          | zero => simp at h1; omega
          | succ k => have : m ≤ (k + 1) * m := Nat.le_mul_of_pos_left _ (by omega); omega
        have Him : Hid ((k + 1) * m = i + m) := by show _ = _; rw [Nat.add_mul, HI.out, Nat.one_mul]
        have hJ4 : J (upto (fun j => (⟨pieceR b o m l j, hP j⟩ : {x : Row (Row Fct) // Pd x})) (k + 1)) W3 := by
          rw [upto_succ]
          have e1 : (⟨pieceR b o m l k, hP k⟩ : {x : Row (Row Fct) // Pd x}) = ⟨(⟨some ⟨b, o + i, none⟩, e, e, (l.drop i).take m⟩ : Row (Row Fct)), by rw [← HX.out]; exact hP k⟩ := Subtype.ext HX.out
          rw [e1]
          exact hJ3
        clear hJ3
        gi_wp2
        go_roundw
        case rel => exact ⟨k + 1, .inr (by rw [show k + 1 - 1 = k by omega, HI.out]; exact hlt), by omega, by rw [Him.out]; go_num, hJ4, hnx2.trans hk3⟩
        case measure => simp [intOf]; omega
      · gi_wp2
        refine bodyPost_ret (results_none rfl _ _ _) rfl ?_
        exact ⟨⟨_, rfl⟩, .inr ⟨_, hJx3⟩⟩
    · gi_wp2
      go_end0
      exact ⟨⟨_, rfl⟩, .inl ⟨k, _, by rw [hi]; omega, hk, rfl, hJs⟩⟩

set_option maxRecDepth 100000 in
set_option maxHeartbeats 1000000 in
/-- .. of no facts: no round. -/
theorem chunkR1_nil_in (n : Nat) (lp Bs Bn : Nat) {α : Type} (J : List α → World → Prop) (A : Option Addr) (c : Nat) (W : World) (hBs : W.cell? ⟨Bs, 0, none⟩ = some (.slice A 0 c)) (h0 : J [] W) :
    CallsIn Fence.wide n Try.prog 99 #[.func (.yield lp) #[] #[], .pointer (some ⟨Bs, 0, none⟩), .pointer (some ⟨Bn, 0, none⟩)] W fun e W' => (∃ v, e = .returned v) ∧ J [] W' := by
  refine callsIn_of_wp Try.func99 rfl trivial ?_ rfl
  simp only [Try.ntmps99, List.size_toArray, List.length_cons, List.length_nil, Nat.reduceAdd, Nat.reduceSub, Array.replicate_succ, Array.replicate_zero, List.push_toArray, List.append_toArray, List.nil_append, List.cons_append]
  gi_wp2
  gi_loopw [4] (fun i wr => i = .int .i64 0 ∧ wr = W) (fun _ _ => 0)
  case atStart => exact ⟨rfl, rfl⟩
  case round =>
    obtain ⟨rfl, rfl⟩ := hrel
    gi_wp2
    go_end0
    exact ⟨⟨_, rfl⟩, h0⟩

set_option maxRecDepth 100000 in
set_option maxHeartbeats 1000000 in
theorem chunkR_in (n : Nat) (A : Option Addr) (len c m : Nat) (hm : 1 ≤ m) (w : World) :
    CallsIn Fence.wide n Try.prog 76 #[.slice A len c, .int .i64 m] w fun e w' => e = .returned (.func (.func 99) #[] #[.pointer (some ⟨w.heap.size, 0, none⟩), .pointer (some ⟨w.heap.size + 1, 0, none⟩)]) ∧ w' = (w.alloc (.cells #[.slice A len c] 105)).alloc (.cells #[.int .i64 m] 3) := by
  have d : decide ((m : Int) < 1) = false := by simp; omega
  refine callsIn_of_wp Try.func76 rfl trivial ?_ rfl
  simp only [Try.ntmps76, List.size_toArray, List.length_cons, List.length_nil, Nat.reduceAdd, Nat.reduceSub, Array.replicate_succ, Array.replicate_zero, List.push_toArray, List.append_toArray, List.nil_append, List.cons_append]
  gi_wp2
  go_ret
  exact ⟨rfl, rfl⟩

end Go.Proofs.Ytelnhhbefdfeoaa

namespace Go.Proofs.Ytelnhhbefdfeoaa
open Go.RowKit Go.Shelf
set_option linter.unusedVariables false
attribute [local go_sem] Oper.semAt_some

theorem E_fcts : ElemInfo Try.prog 105 30 1 24 := ElemInfo.mk' (z := .slice none 0 0) Try.underlying105 (by kernel_rfl) rfl (by omega)
theorem info_fcts : (Try.prog.info? 30).map (fun i => (i.zero, i.size, i.bytes)) = some (some (.slice none 0 0), 1, 24) := by kernel_rfl

/-- A piece of a row that may be read may be read. -/
theorem piece_ok {w : World} {b o n c m : Nat} {l : List Fct} (h : Row.ok w (⟨some ⟨b, o, none⟩, n, c, l⟩ : Row Fct)) (hn : n ≤ 1000) (k : Nat) : Row.ok w (piece b o m l k) ∧ (piece b o m l k).n ≤ 1000 := by
  have hl : l.length = n := h.len
  have hlen : ((l.drop (k * m)).take m).length = min m (l.length - k * m) := by rw [List.length_take, List.length_drop]
  refine ⟨⟨⟨?_, fun h0 => ?_⟩, fun a ha => h.all a (List.mem_of_mem_drop (List.mem_of_mem_take ha)), Nat.le_refl _, ?_, ?_⟩, ?_⟩
  · rw [cells_len]; exact congrArg (· * 11) hlen
  · have h1 : k * m < l.length := by simp only [piece] at h0; omega
    obtain ⟨ad, e, hb, hc⟩ := h.rd.2 (by simp only; omega)
    injection e with e
    subst e
    refine ⟨_, rfl, hb, fun j u hu => ?_⟩
    have hj : j < ((l.drop (k * m)).take m).length * 11 := by
      rcases Nat.lt_or_ge j (((l.drop (k * m)).take m).length * 11) with h' | h'
      · exact h'
      · rw [List.getElem?_eq_none (by rw [cells_len]; exact h')] at hu; cases hu
    have hq : (l.flatMap Cel.cells)[k * m * 11 + j]? = some u := by
      rw [← hu]
      have e1 : (piece b o m l k).l.flatMap Cel.cells = ((l.flatMap Cel.cells).drop (k * m * 11)).take (m * 11) := by
        show ((l.drop (k * m)).take m).flatMap Cel.cells = _
        rw [show k * m * 11 = k * m * Cel.size Fct from rfl, flat_drop, show m * 11 = m * Cel.size Fct from rfl, flat_take]
      rw [e1, List.getElem?_take_of_lt (by rw [hlen] at hj; have : min m (l.length - k * m) * 11 ≤ m * 11 := Nat.mul_le_mul_right _ (Nat.min_le_left _ _); omega), List.getElem?_drop]
    have := hc _ _ hq
    rw [Addr.add_mid] at this ⊢
    rw [Nat.add_assoc]
    exact this
  · simp only [piece]; unfold maxLen; omega
  · simp only [piece, Cel.bytes]; omega
  · simp only [piece]; omega

/-- All cells hold what they held. -/
structure Ck (w w' : World) : Prop where
  size : w.heap.size ≤ w'.heap.size
  cell : ∀ p v, w.cell? p = some v → w'.cell? p = some v
theorem Rd.ck {w w' : World} {size n : Nat} {A : Option Addr} {xs : List Value} (h : Rd w size A n xs) (hk : Ck w w') : Rd w' size A n xs :=
  ⟨h.1, fun hn => by obtain ⟨ad, e, hb, hc⟩ := h.2 hn; exact ⟨ad, e, Nat.lt_of_lt_of_le hb hk.size, fun j u hu => hk.cell _ _ (hc j u hu)⟩⟩
theorem ints_ck {w w' : World} {x : Row Int} (h : x.ok w) (hk : Ck w w') : x.ok w' := ⟨h.rd.ck hk, h.all, h.le, h.cap, h.reach⟩
theorem fct_ck {w w' : World} {f : Fct} (h : f.ok w) (hk : Ck w w') : f.ok w' := ⟨ints_ck h.ks hk, h.ag⟩
theorem fcts_ck {w w' : World} {x : Row Fct} (h : x.ok w) (hk : Ck w w') : x.ok w' := ⟨h.rd.ck hk, fun f hf => fct_ck (h.all f hf) hk, h.le, h.cap, h.reach⟩

/-- A row and its tuples lie outside of a block. -/
structure OffR (row : Option Nat) (r : Row Fct) : Prop where
  a : 0 < r.n → ∀ ad, r.A = some ad → row ≠ some ad.block
  k : ∀ f ∈ r.l, 0 < f.ks.n → ∀ ad, f.ks.A = some ad → row ≠ some ad.block
theorem fcts_grown {w w' : World} {row : Option Nat} {x : Row Fct} (h : x.ok w) (hg : w.grownBy w' row) (ho : OffR row x) : x.ok w' := by
  refine ⟨⟨h.rd.1, fun hn => ?_⟩, fun f hf => ⟨(h.all f hf).ks.grown hg (ho.k f hf), (h.all f hf).ag⟩, h.le, h.cap, h.reach⟩
  obtain ⟨ad, e, hb, hc⟩ := h.rd.2 hn
  refine ⟨ad, e, Nat.lt_of_lt_of_le hb hg.size, fun j u hu => ?_⟩
  rw [← hc j u hu]
  refine World.cell?_of_block ?_
  rw [block_of_add]
  exact hg.block _ hb (fun e' => ho.a hn ad e e'.symm)
theorem off_new {w : World} {x : Row Fct} (h : x.ok w) : OffR (some w.heap.size) x := by
  refine ⟨fun hn ad e e2 => ?_, fun f hf hn ad e e2 => ?_⟩
  · obtain ⟨ad', e', hb, _⟩ := h.rd.2 hn
    rw [e] at e'
    injection e' with e'
    subst e'
    injection e2 with e2
    omega
  · obtain ⟨ad', e', hb, _⟩ := (h.all f hf).ks.rd.2 hn
    rw [e] at e'
    injection e' with e'
    subst e'
    injection e2 with e2
    omega
theorem off_gath {w0 w : World} {v : Value} {fs : List Fct} (h : Gath w0 w v fs) {x : Row Fct} (hv : v = x.v) (hl : x.l = fs) {b : Nat} (hb : b < w0.heap.size) : OffR (some b) x := by
  refine ⟨fun hn ad e e2 => ?_, fun f hf hn ad e e2 => ?_⟩
  · have h1 : v.ownBlock = some ad.block := by rw [hv]; simp [Row.v, e, Value.ownBlock]
    have := own_ge h.own h1
    injection e2 with e2
    omega
  · rw [hl] at hf
    have := h.new f hf hn ad e
    injection e2 with e2
    omega

/-- Runs, gathered in a variable. -/
structure Parts (w0 w : World) (B : Nat) (v : Value) (rs : List (Row Fct)) : Prop where
  box : Boxed w B 105 v
  own : w.ownsRow w0.heap.size 30 1 v rs.length (rs.map Row.v)
  ok : ∀ r ∈ rs, r.ok w
  offV : ∀ r ∈ rs, OffR v.ownBlock r
  offB : ∀ r ∈ rs, OffR (some B) r
theorem Parts.kept {w0 w w' : World} {B : Nat} {v : Value} {rs : List (Row Fct)} (h : Parts w0 w B v rs) {row : Option Nat} (hg : w.grownBy w' row) (hr : ∀ r, row = some r → ∃ o : Obj, w.heap[r]? = some o ∧ o.isCells = false) : Parts w0 w' B v rs := by
  have hck : Ck w w' := ⟨hg.size, fun p u hp => cell_kept hp hg hr⟩
  refine ⟨h.box.kept hg (fun e => ?_), h.own.kept hg ?_, fun r hr' => fcts_ck (h.ok r hr') hck, h.offV, h.offB⟩
  · obtain ⟨o, ho, hc⟩ := hr B e.symm
    have hb := h.box
    unfold Boxed at hb
    rw [hb] at ho
    injection ho with ho
    subst ho
    cases hc
  · cases hu : v.ownBlock with
    | none => exact .inl rfl
    | some k =>
      refine .inr fun e => ?_
      obtain ⟨o, ho, hc⟩ := hr k e.symm
      obtain ⟨cs, hcs⟩ := own_blk h.own hu
      unfold Blk at hcs
      rw [hcs] at ho
      injection ho with ho
      subst ho
      cases hc
theorem Parts.keep {w0 w w' : World} {B : Nat} {v : Value} {rs : List (Row Fct)} (h : Parts w0 w B v rs) (hb : Bel w w') : Parts w0 w' B v rs :=
  h.kept (grown_of_bel hb none) (fun _ e => by cases e)

theorem gath_row {w0 w : World} {v : Value} {fs : List Fct} (h : Gath w0 w v fs) (hn : fs.length ≤ 1000) : ∃ x : Row Fct, v = x.v ∧ x.ok w ∧ x.l = fs ∧ x.n = fs.length := by
  have hcap := own_cap h.own
  have hr : ∀ A c, v = .slice A fs.length c → Rd w 11 A fs.length (fs.flatMap Cel.cells) := fun A c e => by have := h.own; rw [e] at this; exact Rd.of_own this
  obtain ⟨A, c, rfl, hc⟩ := own_slice h.own
  exact ⟨⟨A, fs.length, c, fs⟩, rfl, ⟨hr A c rfl, h.ok, hc, hcap A c rfl, by simp only [Cel.bytes]; omega⟩, rfl, rfl⟩

theorem stepIn_append {F : Fence} {nF : Nat} {P : Program} {w w' : World} {ops : Array Oper} {o : Oper} {a : Act} {K : Act → World → Prop} {Q : Exit → Act → World → Prop} {X : Prop} (hgd : o.guard = none) (s x : Operand) (t : TypeId)
    (ho : o.op = .call { callee := .builtin .append, args := #[s, x], argTypes := #[t, t] }) (v y : Value) {v' : Value} (hs : a.eval s = v) (hx : a.eval x = y) (hrun : (Builtin.append_ #[t, t] o.type #[v, y]).run P w = .ok v' w') (h : K (a.put o.dst v') w') :
    if Region.wanted o (yielded ops a.tmps) = true then Oper.wpIn F nF P o a w K Q else X := by
  have hw : Region.wanted o (yielded ops a.tmps) = true := by simp [Region.wanted, hgd]
  rw [if_pos hw]
  unfold Oper.wpIn
  refine ⟨by simp [Oper.about, ho, resolve, Target.leads, Sem.run_pure], ?_⟩
  rw [Oper.semAt_plain F _ _ (by rw [ho]; intro c hc'; cases hc')]
  simp [execOp, ho, resolve, invoke, builtin, hs, hx, hrun, Result.andThen]
  exact h

/-- What a round of run.Cut leaves. -/
theorem cut_round {w W0 W w2 w4 : World} {B Bs Bn : Nat} {v v' : Value} {rs : List (Row Fct)} {fs : List Fct} {yA : Option Addr} {yn yc : Nat} {yl : List Fct} (hne1 : Bs < W0.heap.size) (hne2 : Bn < W0.heap.size) (hBB : B ≠ Bs ∧ B ≠ Bn ∧ B = w.heap.size ∧ B < W0.heap.size)
    (hP : Parts W0 W B v rs) (hW0 : W0.heap.size ≤ W.heap.size) (hB : Bel w W) (hGa : Gath W.drew w2 (Row.v (⟨yA, yn, yc, yl⟩ : Row Fct)) fs) (hyo : Row.ok w2 (⟨yA, yn, yc, yl⟩ : Row Fct)) (hyl : (⟨yA, yn, yc, yl⟩ : Row Fct).l = fs)
    (hP3 : Parts W0 (w2.alloc (.cells #[.slice yA yn yc] 30)) B v rs) (hown : w4.ownsRow W0.heap.size 30 1 v' (rs.length + 1) (rs.map Row.v ++ [.slice yA yn yc])) (hg : (w2.alloc (.cells #[.slice yA yn yc] 30)).grownBy w4 v.ownBlock)
    (hat : v'.ownBlock = v.ownBlock ∨ v'.ownBlock = some (w2.alloc (.cells #[.slice yA yn yc] 30)).heap.size) (hbx : Boxed w4 B 105 v) :
    KeepsFrom W0.heap.size W (w4.setCell ⟨B, 0, none⟩ v') ∧ KeepC Bs Bn W (w4.setCell ⟨B, 0, none⟩ v') ∧ Parts W0 (w4.setCell ⟨B, 0, none⟩ v') B v' (rs ++ [⟨yA, yn, yc, yl⟩]) ∧ Below w.heap.size w (w4.setCell ⟨B, 0, none⟩ v') ∧ W0.heap.size ≤ (w4.setCell ⟨B, 0, none⟩ v').heap.size := by
  have hb2 : Bel W w2 := (Bel.refl W).drew.trans hGa.bel
  have hb3 : Bel W (w2.alloc (.cells #[.slice yA yn yc] 30)) := hb2.alloc _
  have hBlt : B < W.heap.size := by omega
  have hs5 : (w4.setCell ⟨B, 0, none⟩ v').heap.size = w4.heap.size := by simp [World.setCell]
  have hs3 := hb3.size
  have hs4 := hg.size
  have hset : w4.grownBy (w4.setCell ⟨B, 0, none⟩ v') (some B) := grownBy_setCell' w4 B v'
  have hvB : ∀ b', v.ownBlock = some b' → W0.heap.size ≤ b' := fun b' e => own_ge hP3.own e
  refine ⟨?_, ?_, ?_, ?_, by omega⟩
  · refine KeepsOthers.from ?_ _
    have k1 : KeepsOthers W (w2.alloc (.cells #[.slice yA yn yc] 30)) := ⟨hs3, fun k o hk _ => (hb3.block k (Array.getElem?_eq_some_iff.1 hk).1).trans hk⟩
    refine (k1.trans (KeepsOthers.of_grownBy hg fun j o ej hj => ?_)).trans (KeepsOthers.setCell _ _ _)
    obtain ⟨cs, hcs⟩ := own_blk hP3.own ej
    unfold Blk at hcs
    rw [hcs] at hj
    injection hj with hj
    subst hj
    rfl
  · have key : ∀ q, q < W0.heap.size → q ≠ B → (w4.setCell ⟨B, 0, none⟩ v').cell? ⟨q, 0, none⟩ = W.cell? ⟨q, 0, none⟩ := fun q hq hqB => by
      refine World.cell?_of_block ?_
      rw [hset.block q (by omega) (fun e => by injection e with e; exact hqB e), hg.block q (by omega) (fun e => by have := hvB q e.symm; omega)]
      exact hb3.block q (by omega)
    exact ⟨key Bs hne1 (Ne.symm hBB.1), key Bn hne2 (Ne.symm hBB.2.1)⟩
  · have hoy : OffR v.ownBlock (⟨yA, yn, yc, yl⟩ : Row Fct) := by
      cases hu : v.ownBlock with
      | none => exact ⟨(fun _ _ _ e => by cases e), (fun _ _ _ _ _ e => by cases e)⟩
      | some k => exact off_gath hGa rfl hyl (by have := own_lt hP.own hu; exact this)
    have hoyB : OffR (some B) (⟨yA, yn, yc, yl⟩ : Row Fct) := off_gath hGa rfl hyl hBlt
    have hy3 : Row.ok (w2.alloc (.cells #[.slice yA yn yc] 30)) (⟨yA, yn, yc, yl⟩ : Row Fct) := hyo.mono ((Bel.refl w2).alloc _)
    have hall : ∀ r ∈ rs ++ [(⟨yA, yn, yc, yl⟩ : Row Fct)], r.ok (w2.alloc (.cells #[.slice yA yn yc] 30)) ∧ OffR v.ownBlock r ∧ OffR (some B) r := fun r hr => by
      rcases List.mem_append.1 hr with h | h
      · exact ⟨hP3.ok r h, hP3.offV r h, hP3.offB r h⟩
      · rw [List.mem_singleton] at h
        subst h
        exact ⟨hy3, hoy, hoyB⟩
    refine ⟨hbx.set v', ?_, fun r hr => ?_, fun r hr => ?_, fun r hr => (hall r hr).2.2⟩
    · rw [List.length_append, List.map_append]
      exact hown.kept hset (.inr (hbx.not_row (by decide) hown).symm)
    · exact fcts_grown (fcts_grown (hall r hr).1 hg (hall r hr).2.1) hset (hall r hr).2.2
    · rcases hat with e | e
      · rw [e]; exact (hall r hr).2.1
      · rw [e]; exact off_new (hall r hr).1
  · exact (((hB.trans hb3).grown hg fun k e => by have := hvB k e; omega).grown hset fun k e => by injection e with e; omega)

/-- What a run is, of a row. -/
abbrev PieceOf (w : World) := {x : Row Fct // x.ok w ∧ x.n ≤ 1000}
/-- What run.Cut gives. -/
def CutPost (cs : List (List Con)) (w : World) (e : Ending) (w' : World) : Prop :=
  ∃ (v : Value) (rs : List (Row Fct)), e = .returned (.tuple #[v, .int .i64 0]) ∧ w'.ownsRow w.heap.size 30 1 v rs.length (rs.map Row.v) ∧ (∀ r ∈ rs, r.ok w' ∧ r.n ≤ 1000 ∧ OffR v.ownBlock r) ∧ rs.map (fun r => cons r.l) = cs ∧ Bel w w'

theorem keepC_putObj {W : World} {Bs Bn l : Nat} {o' : Obj} (h1 : Bs < l) (h2 : Bn < l) : KeepC Bs Bn W (W.putObj l o') := by
  constructor
  · refine World.cell?_of_block ?_
    simp [World.putObj, Array.getElem?_setIfInBounds]
    omega
  · refine World.cell?_of_block ?_
    simp [World.putObj, Array.getElem?_setIfInBounds]
    omega

theorem chunk_stops (n : Nat) (hn : 1 ≤ n) (Bs Bn b o c ln m : Nat) (l : List Fct) (w0 w : World) (hx : Row.ok w0 (⟨some ⟨b, o, none⟩, ln, c, l⟩ : Row Fct)) (h1000 : ln ≤ 1000) (hm1 : 1 ≤ m) (hm2 : m ≤ 9223372036854775807)
    (hs : Bs < w.heap.size) (hb : Bn < w.heap.size) (hBs : w.cell? ⟨Bs, 0, none⟩ = some (.slice (some ⟨b, o, none⟩) ln c)) (hBn : w.cell? ⟨Bn, 0, none⟩ = some (.int .i64 m)) :
    SeqStopsK Fence.wide n Try.prog 110 #[.pointer (some ⟨Bs, 0, none⟩), .pointer (some ⟨Bn, 0, none⟩)] (fun x : PieceOf w0 => #[x.1.v]) (KeepC Bs Bn)
      (fun xs => ∃ k, l.length ≤ k * m ∧ (k = 0 ∨ (k - 1) * m < l.length) ∧ xs = upto (fun j => (⟨piece b o m l j, piece_ok hx h1000 j⟩ : PieceOf w0)) k) (fun _ => True) l.length w := fun lp J Jx W hW hJ _ hY h0 => by
  have hl : l.length = ln := hx.len
  have hc := hx.le
  have hc2 := hx.cap
  unfold maxLen at hc2
  subst hl
  refine (chunk1_in n hn lp Bs Bn b o c m l hm1 hm2 h1000 hc hc2 (fun x => x.ok w0 ∧ x.n ≤ 1000) (piece_ok hx h1000) J Jx (fun s A B hA hg => hJ s A B none hA hg (fun r e => by cases e)) hY W ((hW.cell (p := ⟨Bs, 0, none⟩) hs).trans hBs) ((hW.cell (p := ⟨Bn, 0, none⟩) hb).trans hBn) h0).mono ?_
  rintro e W' ⟨he, ⟨k, ys, h1, h2, rfl, hj⟩ | ⟨pre, hj⟩⟩
  · exact ⟨he, .inl ⟨_, ⟨k, h1, h2, rfl⟩, hj⟩⟩
  · exact ⟨he, .inr ⟨_, trivial, hj⟩⟩

theorem upto_map {α β : Type} (g : α → β) (f : Nat → α) (k : Nat) : (upto f k).map g = upto (fun j => g (f j)) k := by
  simp [upto, List.map_map, Function.comp_def]

set_option maxRecDepth 100000 in
set_option maxHeartbeats 1000000 in
theorem cut_in (n : Nat) (hn : 3 ≤ n) (b o ln c m : Nat) (l : List Fct) (w : World) (hx : Row.ok w (⟨some ⟨b, o, none⟩, ln, c, l⟩ : Row Fct)) (h1000 : ln ≤ 1000) (hm1 : 1 ≤ m) (hm2 : m ≤ 9223372036854775807) :
    CallsIn Fence.wide n Try.prog 74 #[.int .i64 m, .slice (some ⟨b, o, none⟩) ln c] w fun e w' => ∃ k, l.length ≤ k * m ∧ (k = 0 ∨ (k - 1) * m < l.length) ∧ CutPost (upto (fun j => cons ((l.drop (j * m)).take m)) k) w e w' := by
  have h1 : 1 ≤ n := by omega
  have hl : l.length = ln := hx.len
  have d : decide ((m : Int) < 1) = false := by simp; omega
  have Hx := Lib.hid hx
  have Hl := Lib.hid hl
  clear hx hl
  refine callsIn_of_wp_marks Try.func74 rfl trivial ?_ rfl
  simp only [Try.ntmps74, List.size_toArray, List.length_cons, List.length_nil, Nat.reduceAdd, Nat.reduceSub, Array.replicate_succ, Array.replicate_zero, List.push_toArray, List.append_toArray, List.nil_append, List.cons_append]
  gi_wp2_with fail
  refine ⟨trivial, ?_⟩
  refine (chunk_in (n - 1) _ _ _ m hm1 _).mono ?_; rintro e w' ⟨rfl, rfl⟩
  gi_wp2
  have bO := ((Boxed.new w 105 (.slice none 0 0)).alloc (.cells #[.slice (some ⟨b, o, none⟩) ln c] 30)).alloc (.cells #[.int .i64 m] 3)
  have bS := (Boxed.new (w.alloc (.cells #[.slice none 0 0] 105)) 30 (.slice (some ⟨b, o, none⟩) ln c)).alloc (.cells #[.int .i64 m] 3)
  have bN := Boxed.new ((w.alloc (.cells #[.slice none 0 0] 105)).alloc (.cells #[.slice (some ⟨b, o, none⟩) ln c] 30)) 3 (.int .i64 m)
  rw [World.size_alloc, World.size_alloc] at bN
  rw [World.size_alloc] at bS
  have hB0 : Bel w (((w.alloc (.cells #[.slice none 0 0] 105)).alloc (.cells #[.slice (some ⟨b, o, none⟩) ln c] 30)).alloc (.cells #[.int .i64 m] 3)) := (((Bel.refl w).alloc _).alloc _).alloc _
  have hsz : (((w.alloc (.cells #[.slice none 0 0] 105)).alloc (.cells #[.slice (some ⟨b, o, none⟩) ln c] 30)).alloc (.cells #[.int .i64 m] 3)).heap.size = w.heap.size + 3 := by simp
  generalize ((w.alloc (.cells #[.slice none 0 0] 105)).alloc (.cells #[.slice (some ⟨b, o, none⟩) ln c] 30)).alloc (.cells #[.int .i64 m] 3) = W0 at *
  have HsO := Lib.hid bO
  obtain ⟨i0, hi0, hz0, hz1, hz2⟩ := info_parts info_fcts
  have Hi0 := Lib.hid hi0
  have Hz0 := Lib.hid hz0
  have Hz1 := Lib.hid hz1
  have Hz2 := Lib.hid hz2
  clear hi0 hz0 hz1 hz2
  have P0 : Parts W0 W0 w.heap.size (.slice none 0 0) [] := ⟨bO, ⟨rfl, .inl ⟨rfl, rfl⟩⟩, by simp, by simp, by simp⟩
  have hne1 : w.heap.size + 1 < W0.heap.size := by omega
  have hne2 : w.heap.size + 1 + 1 < W0.heap.size := by omega
  have Hsz := Lib.hid hsz
  clear hsz bO
  refine wpIn_rangeFunc_ownG rfl h1 (gf := 110) (lb := #[.pointer (some ⟨w.heap.size + 1, 0, none⟩), .pointer (some ⟨w.heap.size + 1 + 1, 0, none⟩)]) rfl trivial (enters_of Try.func110 (by kernel_rfl) rfl)
    (chunk_stops (n - 1) (by omega) (w.heap.size + 1) (w.heap.size + 1 + 1) b o c ln m l w W0 Hx.out h1000 hm1 hm2 hne1 hne2 bS.cell bN.cell) KeepC.trans (fun W l o o' hl _ _ _ => keepC_putObj (by omega) (by omega)) (Below.refl _ _) (fun _ => rfl)
    (fun pre W => (∃ v rs, Parts W0 W w.heap.size v rs ∧ Hid (rs.map (fun r => cons r.l) = pre.map (fun x => cons x.1.l)) ∧ Hid (∀ r ∈ rs, r.n ≤ 1000)) ∧ Below w.heap.size w W ∧ W0.heap.size ≤ W.heap.size)
    (fun _ _ _ => False)
    (fun s A B row hs hg hr => by
      obtain ⟨⟨v, rs, h1, h2, h3⟩, h4, h5⟩ := hs
      exact ⟨⟨v, rs, h1.kept hg (fun r e => (hr r e).2), h2, h3⟩, h4.grown hg h4.size (fun k e => Nat.le_trans (by omega) (hr k e).1), Nat.le_trans h5 hg.size⟩)
    (fun _ _ _ _ _ hs _ _ => hs)
    ⟨⟨_, [], P0, rfl, fun r h => by simp at h⟩, hB0, Nat.le_refl _⟩
    (fun x => { tmps := #[.int .i64 m, .slice (some ⟨b, o, none⟩) ln c, undef, undef, .slice none 0 0, .int .i64 0, .pointer (some ⟨w.heap.size, 0, none⟩), x.1.v, .int .i64 m, .bool false, .slice (some ⟨b, o, none⟩) ln c, .int .i64 m, .func (.func 110) #[] #[.pointer (some ⟨w.heap.size + 1, 0, none⟩), .pointer (some ⟨w.heap.size + 1 + 1, 0, none⟩)], x.1.v, undef, undef, undef, undef, undef, undef], defers := [] }) ?assign ?body ?done ?stop
  case assign =>
    intro l x W K hK
    gi_wp2
    exact hK
  case body =>
    rintro lp pre x W ⟨⟨v, rs, hP, hcon, hrn⟩, hB, hW0⟩ hlt
    obtain ⟨⟨xA, xn, xc, xl⟩, hxo, hxn⟩ := x
    simp only [Row.v] at *
    have hd : 1 ≤ n - 1 - 1 := by omega
    have hmx : Try.prog.follows .mixedOrders = true := by kernel_rfl
    have hc := hP.box.cell
    have hBw : Bel w W.drew := (show Bel w W from hB).drew
    have Hxo : Hid (Row.ok W.drew (⟨xA, xn, xc, xl⟩ : Row Fct)) := hxo.mono hBw
    have hlen : rs.length = pre.length := by have := congrArg List.length hcon.out; simpa using this
    have hpl : pre.length ≤ 1000 := by have := Hl.out; omega
    have Hlen := Lib.hid hlen
    clear hlen
    have hPd : Parts W0 W.drew w.heap.size v rs := hP.keep (Bel.refl W).drew
    gi_wp2
    refine wpIn_region_any (by kernel_rfl) ?_
    refine wpAnyIn_ready (rs := [0, 1]) (by kernel_rfl) (by simp) ?_
    refine AllReadyIn.cons rfl (fun K hK => ?_) (AllReadyIn.cons rfl (fun K hK => ?_) AllReadyIn.nil)
    · go_simp
      refine hK _ _ ?_; clear hK K
      refine wpAnyIn_ready (rs := [1]) (by kernel_rfl) (by simp) ?_
      refine AllReadyIn.cons rfl (fun K hK => ?_) AllReadyIn.nil
      go_simp
      refine hK _ _ ?_; clear hK K
      refine wpAnyIn_ready (rs := [2]) (by kernel_rfl) (by simp) ?_
      refine AllReadyIn.cons rfl (fun K hK => ?_) AllReadyIn.nil
      go_simp
      refine ⟨trivial, ?_⟩
      refine (CallsIn.inRound lp (callsIn_wide.2 (clone_any ⟨xA, xn, xc, xl⟩ _ Hxo.out (by simp only at hxn ⊢; omega)))).mono ?_
      rintro e w2 ⟨cv, fs, rfl, hGa, hcons⟩
      obtain ⟨⟨yA, yn, yc, yl⟩, rfl, hyo, hyl, hyn⟩ := gath_row hGa (by have h1 := congrArg List.length hcons; rw [cons_len, cons_len] at h1; have h2 := Hxo.out.len; simp only at h1 h2 hxn; omega)
      have hP2 := hPd.keep hGa.bel
      have hP3 := hP2.keep ((Bel.refl w2).alloc (.cells #[.slice yA yn yc] 30))
      have hc2 := hP2.box.cell
      have hc3 := hP3.box.cell
      obtain ⟨v', w4, hrun, hown4, hg4, hat4⟩ := run_append_any (P := Try.prog) (w2.alloc (.cells #[.slice yA yn yc] 30)) W0.heap.size 105 105 30 i0 (.slice none 0 0) 1 24 Try.underlying105 Hi0.out Hz0.out Hz1.out Hz2.out rfl (by decide) v rs.length (rs.map Row.v) hP3.own _ (some ⟨w2.heap.size, 0, none⟩) 1 1 [.slice yA yn yc] (rd_new w2 _ _ 1 1 rfl) (by simp [Value.oneCell']) (by unfold maxLen; rw [Hlen.out]; omega) (by rw [Hlen.out]; omega) (by have := hGa.bel.size; simp at this ⊢; omega)
      obtain ⟨g', cap', rfl⟩ := ownsRow_succ hown4
      have hbx4 := hP3.box.kept hg4 (hP3.box.not_row (by decide) hP3.own)
      have hc4 := hbx4.cell
      have hf4 := hbx4.frozen
      have Hrun := Lib.hid hrun
      clear hrun
      simp only [Row.v]
      refine hK _ _ ?_; clear hK K
      refine wpAnyIn_ready (rs := [3]) (by kernel_rfl) (by simp) ?_
      refine AllReadyIn.cons rfl (fun K hK => ?_) AllReadyIn.nil
      go_simp
      refine hK _ _ ?_; clear hK K
      refine wpAnyIn_ready (rs := [4]) (by kernel_rfl) (by simp) ?_
      refine AllReadyIn.cons rfl (fun K hK => ?_) AllReadyIn.nil
      refine stepIn_append rfl (.tmp 14) (.tmp 17) _ rfl _ _ rfl rfl Hrun.out ?_
      refine hK _ _ ?_; clear hK K
      refine wpAnyIn_ready (rs := [5]) (by kernel_rfl) (by simp) ?_
      refine AllReadyIn.cons rfl (fun K hK => ?_) AllReadyIn.nil
      go_simp
      refine hK _ _ ?_; clear hK K
      refine wpAnyIn_done (by kernel_rfl) ?_ _
      obtain ⟨k1, k2, k3, k4, k5⟩ := cut_round hne1 hne2 (by omega) hP hW0 (show Bel w W from hB) hGa hyo hyl hP3 hown4 hg4 hat4 hbx4
      refine ⟨k1, k2, ⟨_, rs ++ [⟨yA, yn, yc, yl⟩], k3, ?_, ?_⟩, k4, k5⟩
      · show _ = _
        rw [List.map_append, List.map_append, hcon.out]
        have e1 : cons yl = cons xl := by have h1 : yl = fs := hyl; rw [h1]; exact hcons
        simp only [List.map_cons, List.map_nil, e1]
      · intro r hr
        rcases List.mem_append.1 hr with h | h
        · exact hrn.out r h
        · rw [List.mem_singleton] at h
          subst h
          have h1 := congrArg List.length hcons
          rw [cons_len, cons_len] at h1
          have h2 := Hxo.out.len
          simp only at h1 h2 hxn hyn ⊢
          omega
    · go_simp
      refine hK _ _ ?_; clear hK K
      refine wpAnyIn_ready (rs := [0, 2]) (by kernel_rfl) (by simp) ?_
      refine AllReadyIn.cons rfl (fun K hK => ?_) (AllReadyIn.cons rfl (fun K hK => ?_) AllReadyIn.nil)
      · go_simp
        refine hK _ _ ?_; clear hK K
        refine wpAnyIn_ready (rs := [2]) (by kernel_rfl) (by simp) ?_
        refine AllReadyIn.cons rfl (fun K hK => ?_) AllReadyIn.nil
        go_simp
        refine ⟨trivial, ?_⟩
        refine (CallsIn.inRound lp (callsIn_wide.2 (clone_any ⟨xA, xn, xc, xl⟩ _ Hxo.out (by simp only at hxn ⊢; omega)))).mono ?_
        rintro e w2 ⟨cv, fs, rfl, hGa, hcons⟩
        obtain ⟨⟨yA, yn, yc, yl⟩, rfl, hyo, hyl, hyn⟩ := gath_row hGa (by have h1 := congrArg List.length hcons; rw [cons_len, cons_len] at h1; have h2 := Hxo.out.len; simp only at h1 h2 hxn; omega)
        have hP2 := hPd.keep hGa.bel
        have hP3 := hP2.keep ((Bel.refl w2).alloc (.cells #[.slice yA yn yc] 30))
        have hc2 := hP2.box.cell
        have hc3 := hP3.box.cell
        obtain ⟨v', w4, hrun, hown4, hg4, hat4⟩ := run_append_any (P := Try.prog) (w2.alloc (.cells #[.slice yA yn yc] 30)) W0.heap.size 105 105 30 i0 (.slice none 0 0) 1 24 Try.underlying105 Hi0.out Hz0.out Hz1.out Hz2.out rfl (by decide) v rs.length (rs.map Row.v) hP3.own _ (some ⟨w2.heap.size, 0, none⟩) 1 1 [.slice yA yn yc] (rd_new w2 _ _ 1 1 rfl) (by simp [Value.oneCell']) (by unfold maxLen; rw [Hlen.out]; omega) (by rw [Hlen.out]; omega) (by have := hGa.bel.size; simp at this ⊢; omega)
        obtain ⟨g', cap', rfl⟩ := ownsRow_succ hown4
        have hbx4 := hP3.box.kept hg4 (hP3.box.not_row (by decide) hP3.own)
        have hc4 := hbx4.cell
        have hf4 := hbx4.frozen
        have Hrun := Lib.hid hrun
        clear hrun
        simp only [Row.v]
        refine hK _ _ ?_; clear hK K
        refine wpAnyIn_ready (rs := [3]) (by kernel_rfl) (by simp) ?_
        refine AllReadyIn.cons rfl (fun K hK => ?_) AllReadyIn.nil
        go_simp
        refine hK _ _ ?_; clear hK K
        refine wpAnyIn_ready (rs := [4]) (by kernel_rfl) (by simp) ?_
        refine AllReadyIn.cons rfl (fun K hK => ?_) AllReadyIn.nil
        refine stepIn_append rfl (.tmp 14) (.tmp 17) _ rfl _ _ rfl rfl Hrun.out ?_
        refine hK _ _ ?_; clear hK K
        refine wpAnyIn_ready (rs := [5]) (by kernel_rfl) (by simp) ?_
        refine AllReadyIn.cons rfl (fun K hK => ?_) AllReadyIn.nil
        go_simp
        refine hK _ _ ?_; clear hK K
        refine wpAnyIn_done (by kernel_rfl) ?_ _
        obtain ⟨k1, k2, k3, k4, k5⟩ := cut_round hne1 hne2 (by omega) hP hW0 (show Bel w W from hB) hGa hyo hyl hP3 hown4 hg4 hat4 hbx4
        refine ⟨k1, k2, ⟨_, rs ++ [⟨yA, yn, yc, yl⟩], k3, ?_, ?_⟩, k4, k5⟩
        · show _ = _
          rw [List.map_append, List.map_append, hcon.out]
          have e1 : cons yl = cons xl := by have h1 : yl = fs := hyl; rw [h1]; exact hcons
          simp only [List.map_cons, List.map_nil, e1]
        · intro r hr
          rcases List.mem_append.1 hr with h | h
          · exact hrn.out r h
          · rw [List.mem_singleton] at h
            subst h
            have h1 := congrArg List.length hcons
            rw [cons_len, cons_len] at h1
            have h2 := Hxo.out.len
            simp only at h1 h2 hxn hyn ⊢
            omega
      · skip
        go_simp
        refine ⟨trivial, ?_⟩
        refine (CallsIn.inRound lp (callsIn_wide.2 (clone_any ⟨xA, xn, xc, xl⟩ _ Hxo.out (by simp only at hxn ⊢; omega)))).mono ?_
        rintro e w2 ⟨cv, fs, rfl, hGa, hcons⟩
        obtain ⟨⟨yA, yn, yc, yl⟩, rfl, hyo, hyl, hyn⟩ := gath_row hGa (by have h1 := congrArg List.length hcons; rw [cons_len, cons_len] at h1; have h2 := Hxo.out.len; simp only at h1 h2 hxn; omega)
        have hP2 := hPd.keep hGa.bel
        have hP3 := hP2.keep ((Bel.refl w2).alloc (.cells #[.slice yA yn yc] 30))
        have hc2 := hP2.box.cell
        have hc3 := hP3.box.cell
        obtain ⟨v', w4, hrun, hown4, hg4, hat4⟩ := run_append_any (P := Try.prog) (w2.alloc (.cells #[.slice yA yn yc] 30)) W0.heap.size 105 105 30 i0 (.slice none 0 0) 1 24 Try.underlying105 Hi0.out Hz0.out Hz1.out Hz2.out rfl (by decide) v rs.length (rs.map Row.v) hP3.own _ (some ⟨w2.heap.size, 0, none⟩) 1 1 [.slice yA yn yc] (rd_new w2 _ _ 1 1 rfl) (by simp [Value.oneCell']) (by unfold maxLen; rw [Hlen.out]; omega) (by rw [Hlen.out]; omega) (by have := hGa.bel.size; simp at this ⊢; omega)
        obtain ⟨g', cap', rfl⟩ := ownsRow_succ hown4
        have hbx4 := hP3.box.kept hg4 (hP3.box.not_row (by decide) hP3.own)
        have hc4 := hbx4.cell
        have hf4 := hbx4.frozen
        have Hrun := Lib.hid hrun
        clear hrun
        simp only [Row.v]
        refine hK _ _ ?_; clear hK K
        refine wpAnyIn_ready (rs := [0, 3]) (by kernel_rfl) (by simp) ?_
        refine AllReadyIn.cons rfl (fun K hK => ?_) (AllReadyIn.cons rfl (fun K hK => ?_) AllReadyIn.nil)
        · go_simp
          refine hK _ _ ?_; clear hK K
          refine wpAnyIn_ready (rs := [3]) (by kernel_rfl) (by simp) ?_
          refine AllReadyIn.cons rfl (fun K hK => ?_) AllReadyIn.nil
          go_simp
          refine hK _ _ ?_; clear hK K
          refine wpAnyIn_ready (rs := [4]) (by kernel_rfl) (by simp) ?_
          refine AllReadyIn.cons rfl (fun K hK => ?_) AllReadyIn.nil
          refine stepIn_append rfl (.tmp 14) (.tmp 17) _ rfl _ _ rfl rfl Hrun.out ?_
          refine hK _ _ ?_; clear hK K
          refine wpAnyIn_ready (rs := [5]) (by kernel_rfl) (by simp) ?_
          refine AllReadyIn.cons rfl (fun K hK => ?_) AllReadyIn.nil
          go_simp
          refine hK _ _ ?_; clear hK K
          refine wpAnyIn_done (by kernel_rfl) ?_ _
          obtain ⟨k1, k2, k3, k4, k5⟩ := cut_round hne1 hne2 (by omega) hP hW0 (show Bel w W from hB) hGa hyo hyl hP3 hown4 hg4 hat4 hbx4
          refine ⟨k1, k2, ⟨_, rs ++ [⟨yA, yn, yc, yl⟩], k3, ?_, ?_⟩, k4, k5⟩
          · show _ = _
            rw [List.map_append, List.map_append, hcon.out]
            have e1 : cons yl = cons xl := by have h1 : yl = fs := hyl; rw [h1]; exact hcons
            simp only [List.map_cons, List.map_nil, e1]
          · intro r hr
            rcases List.mem_append.1 hr with h | h
            · exact hrn.out r h
            · rw [List.mem_singleton] at h
              subst h
              have h1 := congrArg List.length hcons
              rw [cons_len, cons_len] at h1
              have h2 := Hxo.out.len
              simp only at h1 h2 hxn hyn ⊢
              omega
        · go_simp
          refine hK _ _ ?_; clear hK K
          refine wpAnyIn_ready (rs := [0]) (by kernel_rfl) (by simp) ?_
          refine AllReadyIn.cons rfl (fun K hK => ?_) AllReadyIn.nil
          go_simp
          refine hK _ _ ?_; clear hK K
          refine wpAnyIn_ready (rs := [4]) (by kernel_rfl) (by simp) ?_
          refine AllReadyIn.cons rfl (fun K hK => ?_) AllReadyIn.nil
          refine stepIn_append rfl (.tmp 14) (.tmp 17) _ rfl _ _ rfl rfl Hrun.out ?_
          refine hK _ _ ?_; clear hK K
          refine wpAnyIn_ready (rs := [5]) (by kernel_rfl) (by simp) ?_
          refine AllReadyIn.cons rfl (fun K hK => ?_) AllReadyIn.nil
          go_simp
          refine hK _ _ ?_; clear hK K
          refine wpAnyIn_done (by kernel_rfl) ?_ _
          obtain ⟨k1, k2, k3, k4, k5⟩ := cut_round hne1 hne2 (by omega) hP hW0 (show Bel w W from hB) hGa hyo hyl hP3 hown4 hg4 hat4 hbx4
          refine ⟨k1, k2, ⟨_, rs ++ [⟨yA, yn, yc, yl⟩], k3, ?_, ?_⟩, k4, k5⟩
          · show _ = _
            rw [List.map_append, List.map_append, hcon.out]
            have e1 : cons yl = cons xl := by have h1 : yl = fs := hyl; rw [h1]; exact hcons
            simp only [List.map_cons, List.map_nil, e1]
          · intro r hr
            rcases List.mem_append.1 hr with h | h
            · exact hrn.out r h
            · rw [List.mem_singleton] at h
              subst h
              have h1 := congrArg List.length hcons
              rw [cons_len, cons_len] at h1
              have h2 := Hxo.out.len
              simp only at h1 h2 hxn hyn ⊢
              omega
  case done =>
    rintro D ys W hD ⟨k, hk1, hk2, rfl⟩ ⟨⟨v, rs, hP, hcon, hrn⟩, hB, hW0⟩ hK
    have hc := hP.box.cell
    gi_wp2
    refine ⟨by simp, .inl ⟨_, _, rfl, run_takeDeferred hK, ?_⟩⟩
    refine ⟨.tuple #[v, .int .i64 0], ?_, k, hk1, hk2, v, rs, rfl, ?_, ?_, ?_, ?_⟩
    · kernel_rfl
    · have hq := ownsRow_putObj hP.own (.deferred none) hK rfl
      refine ⟨hq.1, ?_⟩
      rcases hq.2 with h0 | ⟨g, cap, cur, q1, q2, q3⟩
      · exact .inl h0
      · exact .inr ⟨g, cap, cur, q1, Nat.le_trans hB0.size q2, q3⟩
    · have hP' := hP.kept (grownBy_putObj' W D (.deferred none)) (fun r e => by injection e with e; subst e; exact ⟨_, hK, rfl⟩)
      exact fun r hr => ⟨hP'.ok r hr, hrn.out r hr, hP'.offV r hr⟩
    · rw [hcon.out, upto_map]; rfl
    · exact Below.trans hB (belowK_b (w := w) (Nat.le_refl _) W D _ _ (show w.heap.size ≤ D by omega) hK rfl rfl)
  case stop =>
    rintro D c pre W _ _ h _
    exact h.elim

end Go.Proofs.Ytelnhhbefdfeoaa

namespace Go.Proofs.Ytelnhhbefdfeoaa
open Go.RowKit Go.Shelf
set_option linter.unusedVariables false
attribute [local go_sem] Oper.semAt_some

theorem chunk_nil_stops (n Bs Bn : Nat) (A : Option Addr) (c : Nat) (w0 w : World) (hs : Bs < w.heap.size) (hBs : w.cell? ⟨Bs, 0, none⟩ = some (.slice A 0 c)) :
    SeqStopsK Fence.wide n Try.prog 110 #[.pointer (some ⟨Bs, 0, none⟩), .pointer (some ⟨Bn, 0, none⟩)] (fun x : PieceOf w0 => #[x.1.v]) (KeepC Bs Bn)
      (fun xs => xs = []) (fun _ => True) 0 w := fun lp J Jx W hW hJ _ hY h0 => by
  refine (chunk1_nil_in n lp Bs Bn J A c W ((hW.cell (p := ⟨Bs, 0, none⟩) hs).trans hBs) h0).mono ?_
  rintro e W' ⟨he, hj⟩
  exact ⟨he, .inl ⟨_, rfl, hj⟩⟩

set_option maxRecDepth 100000 in
set_option maxHeartbeats 1000000 in
theorem cut_nil_in (n : Nat) (hn : 3 ≤ n) (A : Option Addr) (c m : Nat) (w : World) (hm1 : 1 ≤ m) :
    CallsIn Fence.wide n Try.prog 74 #[.int .i64 m, .slice A 0 c] w fun e w' => CutPost [] w e w' := by
  have h1 : 1 ≤ n := by omega
  have d : decide ((m : Int) < 1) = false := by simp; omega
  refine callsIn_of_wp_marks Try.func74 rfl trivial ?_ rfl
  simp only [Try.ntmps74, List.size_toArray, List.length_cons, List.length_nil, Nat.reduceAdd, Nat.reduceSub, Array.replicate_succ, Array.replicate_zero, List.push_toArray, List.append_toArray, List.nil_append, List.cons_append]
  gi_wp2_with fail
  refine ⟨trivial, ?_⟩
  refine (chunk_in (n - 1) _ _ _ m hm1 _).mono ?_; rintro e w' ⟨rfl, rfl⟩
  gi_wp2
  have bO := ((Boxed.new w 105 (.slice none 0 0)).alloc (.cells #[.slice A 0 c] 30)).alloc (.cells #[.int .i64 m] 3)
  have bS := (Boxed.new (w.alloc (.cells #[.slice none 0 0] 105)) 30 (.slice A 0 c)).alloc (.cells #[.int .i64 m] 3)
  have bN := Boxed.new ((w.alloc (.cells #[.slice none 0 0] 105)).alloc (.cells #[.slice A 0 c] 30)) 3 (.int .i64 m)
  rw [World.size_alloc, World.size_alloc] at bN
  rw [World.size_alloc] at bS
  have hB0 : Bel w (((w.alloc (.cells #[.slice none 0 0] 105)).alloc (.cells #[.slice A 0 c] 30)).alloc (.cells #[.int .i64 m] 3)) := (((Bel.refl w).alloc _).alloc _).alloc _
  have hsz : (((w.alloc (.cells #[.slice none 0 0] 105)).alloc (.cells #[.slice A 0 c] 30)).alloc (.cells #[.int .i64 m] 3)).heap.size = w.heap.size + 3 := by simp
  generalize ((w.alloc (.cells #[.slice none 0 0] 105)).alloc (.cells #[.slice A 0 c] 30)).alloc (.cells #[.int .i64 m] 3) = W0 at *
  have HsO := Lib.hid bO
  obtain ⟨i0, hi0, hz0, hz1, hz2⟩ := info_parts info_fcts
  have Hi0 := Lib.hid hi0
  have Hz0 := Lib.hid hz0
  have Hz1 := Lib.hid hz1
  have Hz2 := Lib.hid hz2
  clear hi0 hz0 hz1 hz2
  have P0 : Parts W0 W0 w.heap.size (.slice none 0 0) [] := ⟨bO, ⟨rfl, .inl ⟨rfl, rfl⟩⟩, by simp, by simp, by simp⟩
  have hne1 : w.heap.size + 1 < W0.heap.size := by omega
  have hne2 : w.heap.size + 1 + 1 < W0.heap.size := by omega
  have Hsz := Lib.hid hsz
  clear hsz bO
  refine wpIn_rangeFunc_ownG rfl h1 (gf := 110) (lb := #[.pointer (some ⟨w.heap.size + 1, 0, none⟩), .pointer (some ⟨w.heap.size + 1 + 1, 0, none⟩)]) rfl trivial (enters_of Try.func110 (by kernel_rfl) rfl)
    (chunk_nil_stops (n - 1) (w.heap.size + 1) (w.heap.size + 1 + 1) A c w W0 hne1 bS.cell) KeepC.trans (fun W l o o' hl _ _ _ => keepC_putObj (by omega) (by omega)) (Below.refl _ _) (fun _ => rfl)
    (fun pre W => (∃ v rs, Parts W0 W w.heap.size v rs ∧ Hid (rs.map (fun r => cons r.l) = pre.map (fun x => cons x.1.l)) ∧ Hid (∀ r ∈ rs, r.n ≤ 1000)) ∧ Below w.heap.size w W ∧ W0.heap.size ≤ W.heap.size)
    (fun _ _ _ => False)
    (fun s A B row hs hg hr => by
      obtain ⟨⟨v, rs, h1, h2, h3⟩, h4, h5⟩ := hs
      exact ⟨⟨v, rs, h1.kept hg (fun r e => (hr r e).2), h2, h3⟩, h4.grown hg h4.size (fun k e => Nat.le_trans (by omega) (hr k e).1), Nat.le_trans h5 hg.size⟩)
    (fun _ _ _ _ _ hs _ _ => hs)
    ⟨⟨_, [], P0, rfl, fun r h => by simp at h⟩, hB0, Nat.le_refl _⟩
    (fun x => { tmps := #[.int .i64 m, .slice A 0 c, undef, undef, .slice none 0 0, .int .i64 0, .pointer (some ⟨w.heap.size, 0, none⟩), x.1.v, .int .i64 m, .bool false, .slice A 0 c, .int .i64 m, .func (.func 110) #[] #[.pointer (some ⟨w.heap.size + 1, 0, none⟩), .pointer (some ⟨w.heap.size + 1 + 1, 0, none⟩)], x.1.v, undef, undef, undef, undef, undef, undef], defers := [] }) ?assign ?body ?done ?stop
  case assign =>
    intro l x W K hK
    gi_wp2
    exact hK
  case body =>
    rintro lp pre x W _ hlt
    exact absurd hlt (Nat.not_lt_zero _)
  case done =>
    rintro D ys W hD rfl ⟨⟨v, rs, hP, hcon, hrn⟩, hB, hW0⟩ hK
    have hc := hP.box.cell
    gi_wp2
    refine ⟨by simp, .inl ⟨_, _, rfl, run_takeDeferred hK, ?_⟩⟩
    refine ⟨.tuple #[v, .int .i64 0], ?_, v, rs, rfl, ?_, ?_, ?_, ?_⟩
    · kernel_rfl
    · have hq := ownsRow_putObj hP.own (.deferred none) hK rfl
      refine ⟨hq.1, ?_⟩
      rcases hq.2 with h0 | ⟨g, cap, cur, q1, q2, q3⟩
      · exact .inl h0
      · exact .inr ⟨g, cap, cur, q1, Nat.le_trans hB0.size q2, q3⟩
    · have hP' := hP.kept (grownBy_putObj' W D (.deferred none)) (fun r e => by injection e with e; subst e; exact ⟨_, hK, rfl⟩)
      exact fun r hr => ⟨hP'.ok r hr, hrn.out r hr, hP'.offV r hr⟩
    · rw [hcon.out]; rfl
    · exact Below.trans hB (belowK_b (w := w) (Nat.le_refl _) W D _ _ (show w.heap.size ≤ D by omega) hK rfl rfl)
  case stop =>
    rintro D c pre W _ _ h _
    exact h.elim

/-- .. of a size below 1: none. -/
theorem cut_not (m : Int) (hm : m < 1) (v : Value) (w : World) : Calls Try.prog 74 #[.int .i64 m, v] w fun e w' => e = .returned (.tuple #[.slice none 0 0, .int .i64 2]) ∧ Bel w w' := by
  have d : decide (m < 1) = true := by simp; omega
  go_enter Try.func74, Try.ntmps74
  go_wp2
  refine bodyPost_ret (v := .tuple #[.slice none 0 0, .int .i64 2]) (by kernel_rfl) rfl ⟨rfl, ?_⟩
  exact Bel.refl w

theorem cut_any (m : Nat) (hm1 : 1 ≤ m) (hm2 : m ≤ 9223372036854775807) (x : Row Fct) (w : World) (hx : x.ok w) (hn : x.n ≤ 1000) :
    Calls Try.prog 74 #[.int .i64 m, x.v] w fun e w' => ∃ k, x.l.length ≤ k * m ∧ (k = 0 ∨ (k - 1) * m < x.l.length) ∧ CutPost (upto (fun j => cons ((x.l.drop (j * m)).take m)) k) w e w' := by
  obtain ⟨A, n, c, l⟩ := x
  rcases Nat.eq_zero_or_pos n with rfl | hpos
  · have hl : l.length = 0 := hx.len
    refine (callsIn_wide.1 (cut_nil_in 3 (Nat.le_refl _) A c m w hm1)).mono ?_
    intro e w' h
    exact ⟨0, by simp only; omega, .inl rfl, h⟩
  · obtain ⟨b, o, f, hA, _⟩ := hx.fct hpos
    simp only at hA
    subst hA
    exact callsIn_wide.1 (cut_in 3 (Nat.le_refl _) b o n c m l w hx hn hm1 hm2)

end Go.Proofs.Ytelnhhbefdfeoaa

namespace Go.Proofs.Ytelnhhbefdfeoaa
open Go.RowKit
set_option linter.unusedVariables false
attribute [local go_sem] fct_get0

/-- Runs in new memory. -/
structure RunsAt (w0 w : World) (v : Value) (rs : List (Row Fct)) : Prop where
  own : w.ownsRow w0.heap.size 30 1 v rs.length (rs.map Row.v)
  all : ∀ r ∈ rs, r.ok w ∧ r.n ≤ 1000 ∧ OffR v.ownBlock r
  bel : Bel w0 w
theorem RunsAt.keep {w0 w w' : World} {v : Value} {rs : List (Row Fct)} (h : RunsAt w0 w v rs) (hb : Bel w w') : RunsAt w0 w' v rs :=
  ⟨own_bel h.own hb, fun r hr => ⟨(h.all r hr).1.mono hb, (h.all r hr).2⟩, h.bel.trans hb⟩
theorem flat_fcts (rs : List (Row Fct)) : rs.flatMap Cel.cells = rs.map Row.v := by
  induction rs with
  | nil => rfl
  | cons r rs ih => rw [List.flatMap_cons, ih]; rfl
theorem RunsAt.cell {w0 w : World} {g n c : Nat} {rs : List (Row Fct)} (h : RunsAt w0 w (.slice (some ⟨g, 0, none⟩) n c) rs) {k : Nat} {r : Row Fct} (hr : rs[k]? = some r) : w.cell? ⟨g, k, none⟩ = some r.v ∧ w.frozen? ⟨g, k, none⟩ = false ∧ g < w.heap.size := by
  obtain ⟨A, c', e, _⟩ := own_slice h.own
  injection e with e1 e2 e3
  have ho := h.own
  rw [← e2, ← flat_fcts] at ho
  have hk : k < n := by have := (List.getElem?_eq_some_iff.1 hr).1; omega
  obtain ⟨q1, q2⟩ := own_range (α := Row Fct) ho hr
  have q3 := own_there (α := Row Fct) ho hk 0 (by decide)
  have e4 : k * Cel.size (Row Fct) + 0 = k := Nat.mul_one k
  have q4 := q1 0 r.v rfl
  rw [e4] at q4 q3
  exact ⟨q4, q3.2, q2⟩
theorem RunsAt.len {w0 w : World} {A : Option Addr} {n c : Nat} {rs : List (Row Fct)} (h : RunsAt w0 w (.slice A n c) rs) : rs.length = n := by
  obtain ⟨A', c', e, _⟩ := own_slice h.own
  injection e with e1 e2 e3
  exact e2.symm
theorem RunsAt.addr {w0 w : World} {A : Option Addr} {n c : Nat} {rs : List (Row Fct)} (h : RunsAt w0 w (.slice A n c) rs) (hn : 0 < n) : ∃ g, A = some ⟨g, 0, none⟩ := by
  have hl := h.len
  rcases h.own.2 with ⟨h0, hz⟩ | ⟨g, cap, cur, e, _⟩
  · omega
  · injection e with e1
    exact ⟨g, e1⟩
theorem RunsAt.set {w0 w : World} {g n c : Nat} {rs : List (Row Fct)} (h : RunsAt w0 w (.slice (some ⟨g, 0, none⟩) n c) rs) {k : Nat} (hk : k < n) {y : Row Fct} (hy : y.ok w) (hn : y.n ≤ 1000) (ho : OffR (some g) y) :
    RunsAt w0 (w.setCell ⟨g, k, none⟩ y.v) (.slice (some ⟨g, 0, none⟩) n c) (rs.set k y) := by
  obtain ⟨A, c', e, _⟩ := own_slice h.own
  injection e with e1 e2 e3
  have hg : w.grownBy (w.setCell ⟨g, k, none⟩ y.v) (some g) := ⟨rfl, rfl, rfl, (KeepsWalks.setCell w _ y.v).size, fun j _ hj => Below.heap_setCell _ _ _ j (fun e => hj (by rw [e]))⟩
  refine ⟨?_, fun r hr => ?_, h.bel.grown hg fun j e => ?_⟩
  · have hw := h.own
    rw [← e2, ← flat_fcts] at hw
    have := own_setRow (α := Row Fct) hw hk y
    rw [flat_fcts, show k * Cel.size (Row Fct) = k from Nat.mul_one k] at this
    rw [List.length_set, ← e2]
    exact this
  · rcases List.mem_or_eq_of_mem_set hr with hr' | rfl
    · exact ⟨fcts_grown (h.all r hr').1 hg (h.all r hr').2.2, (h.all r hr').2⟩
    · exact ⟨fcts_grown hy hg ho, hn, ho⟩
  · injection e with e
    subst e
    exact own_ge h.own rfl

theorem set_mid {α : Type} {U D : List α} {k : Nat} (v : α) (hU : U.length = k) (hk : k < D.length) : (U ++ D.drop k).set k v = (U ++ [v]) ++ D.drop (k + 1) := by
  rw [List.set_append_right _ _ (by omega), hU, Nat.sub_self, List.drop_eq_getElem_cons hk, List.set_cons_zero, List.append_assoc]
  rfl
theorem get_mid {α : Type} {U D : List α} {k : Nat} (hU : U.length = k) : (U ++ D.drop k)[k]? = D[k]? := by
  rw [List.getElem?_append_right (by omega), hU, Nat.sub_self, List.getElem?_drop, Nat.add_zero]
theorem upto_get {α : Type} (f : Nat → α) {k K : Nat} (h : k < K) : (upto f K)[k]? = some (f k) := by simp [upto, h]

set_option maxRecDepth 100000 in
set_option maxHeartbeats 1000000 in
theorem runs_any (m : Nat) (hm1 : 1 ≤ m) (hm2 : m ≤ 9223372036854775807) (x : Row Fct) (w : World) (hx : x.ok w) (hn : x.n ≤ 1000) :
    Calls Try.prog 52 #[.int .i64 m, x.v] w fun e w' => ∃ k v rs, x.l.length ≤ k * m ∧ (k = 0 ∨ (k - 1) * m < x.l.length) ∧ e = .returned (.tuple #[v, .int .i64 0]) ∧ RunsAt w w' v rs ∧ rs.map (fun r => cons r.l) = upto (fun j => sortC (cons ((x.l.drop (j * m)).take m))) k := by
  have Hx := Lib.hid hx
  have Hlen : Hid (x.l.length = x.n) := hx.len
  clear hx
  obtain ⟨A, n, c, l⟩ := x
  simp only [Row.v] at *
  go_enter Try.func52, Try.ntmps52
  go_wp2_with fail
  refine (cut_any m hm1 hm2 ⟨A, n, c, l⟩ _ Hx.out hn).mono ?_
  rintro e w1 ⟨K, hK1, hK2, v, rs, rfl, hown, hall, hcs, hb⟩
  have hR : RunsAt w w1 v rs := ⟨hown, hall, hb⟩
  have hrl : rs.length = K := by have := congrArg List.length hcs; rwa [List.length_map, upto_length] at this
  have hKn : K ≤ 1000 := by
    rcases hK2 with h0 | h1
    · omega
    · have := Nat.le_mul_of_pos_right (K - 1) (show 0 < m by omega)
      have := Hlen.out
      simp only at h1
      omega
  clear hown hall hb
  have HK1 := Lib.hid hK1
  have HK2 := Lib.hid hK2
  have Hcs := Lib.hid hcs
  clear hK1 hK2 hcs
  obtain ⟨vA, vc, rfl, hvc⟩ := own_slice hR.own
  have Hrl := Lib.hid hrl
  rw [hrl] at hR hvc ⊢
  clear hrl
  have hR0 := hR
  go_wp2
  go_loopg [22] K (fun gg i wr => ∃ k ys, gg = K - k ∧ k ≤ K ∧ i = .int .i64 (k : Nat) ∧ RunsAt w wr (.slice vA K vc) ys ∧ Hid (ys.map (fun r => cons r.l) = upto (fun j => sortC (cons ((l.drop (j * m)).take m))) k ++ (rs.map (fun r => cons r.l)).drop k))
  case atStart => exact ⟨0, rs, rfl, by omega, rfl, hR0, by show _ = _; simp [upto]⟩
  case round =>
    obtain ⟨k, ys, hgk, hk, rfl, hY, hys⟩ := hrel
    have Hgk := Lib.hid hgk
    clear hgk
    by_cases hlt : k < K
    · obtain ⟨g, rfl⟩ := hY.addr (by omega)
      obtain ⟨y, hy⟩ : ∃ y, ys[k]? = some y := ⟨_, List.getElem?_eq_getElem (by rw [hY.len]; exact hlt)⟩
      obtain ⟨hc, hf, hg⟩ := hY.cell hy
      have hya := hY.all y (List.mem_of_getElem? hy)
      have Hy := Lib.hid hy
      have HYa := Lib.hid hya
      have HY := Lib.hid hY
      obtain ⟨yA, yn, yc, yl⟩ := y
      simp only [Row.v] at hc
      clear hy hya hY hR hR0
      go_wp2_with fail
      refine (sort_any ⟨yA, yn, yc, yl⟩ _ HYa.out.1 HYa.out.2.1).mono ?_
      rintro e w2 ⟨u, fs, rfl, hG, hfs⟩
      have Hfs := Lib.hid hfs
      clear hfs
      have hfl : fs.length = yn := by have h1 := congrArg List.length Hfs.out; rw [cons_len, sortC_len, cons_len] at h1; rw [h1]; exact HYa.out.1.len
      have hyn : yn ≤ 1000 := HYa.out.2.1
      obtain ⟨z, rfl, hzo, hzl, hzn⟩ := gath_row hG (by omega)
      have hY2 := HY.out.keep hG.bel
      have hoz : OffR (some g) z := off_gath hG rfl hzl hg
      have HS := Lib.hid (hY2.set hlt hzo (by omega) hoz)
      obtain ⟨hc2, hf2, hg2⟩ := hY2.cell Hy.out
      simp only [Row.v] at hc2
      obtain ⟨zA, zn, zc, zl⟩ := z
      simp only [Row.v] at *
      have Hzl : Hid (zl = fs) := hzl
      clear hY2 hoz hG hzo hzl hzn hfl
      go_wp2
      go_roundg (K - (k + 1))
      case rel =>
        refine ⟨k + 1, _, rfl, by omega, by go_num, HS.out, ?_⟩
        show _ = _
        have hU : (upto (fun j => sortC (cons ((l.drop (j * m)).take m))) k).length = k := upto_length _ _
        have hD : k < (rs.map (fun r => cons r.l)).length := by rw [List.length_map, Hrl.out]; exact hlt
        have h1 : (ys.map (fun r => cons r.l))[k]? = some (cons yl) := by rw [List.getElem?_map, Hy.out]; rfl
        rw [hys.out, get_mid hU, Hcs.out, upto_get _ hlt] at h1
        injection h1 with h1
        rw [List.map_set, hys.out, set_mid _ hU hD, upto_succ]
        simp only [Hzl.out, Hfs.out, h1]
      case measure => rw [Hgk.out]; omega
    · obtain rfl : k = K := by omega
      clear hR hR0
      go_wp2
      refine bodyPost_ret (v := .tuple #[.slice vA k vc, .int .i64 0]) (by kernel_rfl) rfl ?_
      refine ⟨k, _, ys, HK1.out, HK2.out, rfl, hY, ?_⟩
      rw [hys.out, List.drop_eq_nil_of_le (by rw [List.length_map, Hrl.out]; exact Nat.le_refl _), List.append_nil]

end Go.Proofs.Ytelnhhbefdfeoaa

namespace Go.Proofs.Ytelnhhbefdfeoaa
open Go.RowKit Go.Shelf
set_option linter.unusedVariables false

theorem chunks_flat {β : Type} (l : List β) (m K : Nat) : (upto (fun j => (l.drop (j * m)).take m) K).flatten = l.take (K * m) := by
  induction K with
  | zero => simp [upto]
  | succ K ih => rw [upto_succ, List.flatten_append, ih, List.flatten_singleton, Nat.add_mul, Nat.one_mul, List.take_add]
theorem chunks_sort (R : List (List Con)) (m K : Nat) (h : R.length ≤ K * m) : sortC (upto (fun j => sortC ((R.drop (j * m)).take m).flatten) K).flatten = sortC R.flatten := by
  have e1 : upto (fun j => sortC ((R.drop (j * m)).take m).flatten) K = ((upto (fun j => (R.drop (j * m)).take m) K).map List.flatten).map sortC := by simp [upto, List.map_map, Function.comp_def]
  rw [e1, sortC_flat, ← List.flatten_flatten, chunks_flat, List.take_of_length_le h]
theorem flat_part {β : Type} (l : List (List β)) (i j : Nat) : ((l.drop i).take j).flatten.length ≤ l.flatten.length := by
  have h1 := List.take_append_drop i l
  have h2 := List.take_append_drop j (l.drop i)
  have e : l.flatten = (l.take i).flatten ++ (((l.drop i).take j).flatten ++ ((l.drop i).drop j).flatten) := by
    rw [← List.flatten_append, h2, ← List.flatten_append, h1]
  rw [e, List.length_append, List.length_append]
  omega
theorem flat_len_sort (ls : List (List Con)) : (ls.map sortC).flatten.length = ls.flatten.length := by
  induction ls with
  | nil => rfl
  | cons a ls ih => rw [List.map_cons, List.flatten_cons, List.flatten_cons, List.length_append, List.length_append, sortC_len, ih]
theorem chunks_len (R : List (List Con)) (m K : Nat) (h : R.length ≤ K * m) : (upto (fun j => sortC ((R.drop (j * m)).take m).flatten) K).flatten.length = R.flatten.length := by
  have e1 : upto (fun j => sortC ((R.drop (j * m)).take m).flatten) K = ((upto (fun j => (R.drop (j * m)).take m) K).map List.flatten).map sortC := by simp [upto, List.map_map, Function.comp_def]
  rw [e1, flat_len_sort, ← List.flatten_flatten, chunks_flat, List.take_of_length_le h]
theorem runsC_part (l : List (Row Fct)) (i j : Nat) : runsC ((l.drop i).take j) = ((runsC l).drop i).take j := by rw [runsC, List.map_take, List.map_drop]
/-- How often so many runs are gone through. -/
def passF (fan : Nat) : Nat → Nat → Nat
  | 0, _ => 0
  | f + 1, n => if n ≤ 1 then 0 else passF fan f ((n + fan - 1) / fan) + 1
def passN (fan n : Nat) : Nat := passF fan n n
theorem ceil_lt {fan n : Nat} (hf : 2 ≤ fan) (hn : 1 < n) : (n + fan - 1) / fan < n := by
  rw [Nat.div_lt_iff_lt_mul (by omega)]
  have : n * 2 ≤ n * fan := Nat.mul_le_mul_left _ hf
  rcases Nat.lt_or_ge fan n with h | h
  · omega
  · have : 2 * fan ≤ n * fan := Nat.mul_le_mul_right _ hn
    omega
theorem passF_fuel {fan : Nat} (hf : 2 ≤ fan) : ∀ (f n : Nat), n ≤ f → passF fan f n = passF fan n n := by
  intro f
  induction f using Nat.strongRecOn with
  | ind f ih =>
    intro n hn
    cases f with
    | zero =>
      have : n = 0 := by omega
      subst this
      rfl
    | succ f =>
      cases n with
      | zero => simp [passF]
      | succ n =>
        rw [passF, passF]
        split
        · rfl
        · have := ceil_lt (n := n + 1) hf (by omega)
          rw [ih f (by omega) _ (by omega), ← ih n (by omega) _ (by omega)]
theorem passN_small {fan n : Nat} (h : n ≤ 1) : passN fan n = 0 := by
  unfold passN
  cases n with
  | zero => rfl
  | succ n => rw [passF, if_pos h]
theorem ceil_of {fan n K : Nat} (hf : 2 ≤ fan) (hn : 0 < n) (h1 : n ≤ K * fan) (h2 : K = 0 ∨ (K - 1) * fan < n) : (n + fan - 1) / fan = K := by
  rcases h2 with rfl | h2
  · omega
  · have hK : K ≠ 0 := fun e => by subst e; omega
    obtain ⟨j, rfl⟩ : ∃ j, K = j + 1 := ⟨K - 1, by omega⟩
    rw [Nat.add_sub_cancel] at h2
    rw [Nat.add_mul, Nat.one_mul] at h1
    refine Nat.div_eq_of_lt_le ?_ ?_
    · rw [Nat.add_mul, Nat.one_mul]; omega
    · rw [Nat.add_mul, Nat.add_mul, Nat.one_mul]; omega
theorem passN_step {fan n K : Nat} (hf : 2 ≤ fan) (hn : 1 < n) (h1 : n ≤ K * fan) (h2 : K = 0 ∨ (K - 1) * fan < n) : passN fan n = passN fan K + 1 ∧ K < n := by
  have e := ceil_of hf (by omega) h1 h2
  have l := ceil_lt hf hn
  rw [e] at l
  refine ⟨?_, l⟩
  unfold passN
  obtain ⟨j, rfl⟩ : ∃ j, n = j + 1 := ⟨n - 1, by omega⟩
  rw [passF, if_neg (by omega), e, passF_fuel hf j K (by omega)]

/-- What is asked of a row of runs. -/
structure GoodR (w : World) (x : Row (Row Fct)) : Prop where
  ok : x.ok w
  n : x.n ≤ 1000
  s : ∀ r ∈ runsC x.l, Srt r
  t : (runsC x.l).flatten.length ≤ 1000
theorem pieceR_ok {w : World} {b o n c m : Nat} {l : List (Row Fct)} (h : GoodR w ⟨some ⟨b, o, none⟩, n, c, l⟩) (k : Nat) : GoodR w (pieceR b o m l k) := by
  have hl : l.length = n := h.ok.len
  have hn := h.n
  have hlen : ((l.drop (k * m)).take m).length = min m (l.length - k * m) := by rw [List.length_take, List.length_drop]
  refine ⟨⟨⟨?_, fun h0 => ?_⟩, fun a ha => h.ok.all a (List.mem_of_mem_drop (List.mem_of_mem_take ha)), Nat.le_refl _, ?_, ?_⟩, ?_, fun r hr => ?_, ?_⟩
  · rw [cells_len]; exact congrArg (· * 1) hlen
  · have h1 : k * m < l.length := by simp only [pieceR] at h0; omega
    obtain ⟨ad, e, hb, hc⟩ := h.ok.rd.2 (by simp only; omega)
    injection e with e
    subst e
    refine ⟨_, rfl, hb, fun j u hu => ?_⟩
    have e1 : (pieceR b o m l k).l.flatMap Cel.cells = ((l.map Row.v).drop (k * m)).take m := by
      show ((l.drop (k * m)).take m).flatMap Cel.cells = _
      rw [flat_fcts, List.map_take, List.map_drop]
    rw [e1] at hu
    rw [List.getElem?_take] at hu
    split at hu
    · rw [List.getElem?_drop] at hu
      have := hc (k * m + j) u (by rw [flat_fcts]; exact hu)
      rw [Addr.add_mid] at this ⊢
      rw [Nat.add_assoc]
      exact this
    · cases hu
  · simp only [pieceR]; simp only at hn; unfold maxLen; omega
  · simp only [pieceR, Cel.bytes]; simp only at hn; omega
  · simp only [pieceR]; simp only at hn; omega
  · have hr : r ∈ runsC ((l.drop (k * m)).take m) := hr
    rw [runsC_part] at hr
    exact h.s r (List.mem_of_mem_drop (List.mem_of_mem_take hr))
  · show (runsC ((l.drop (k * m)).take m)).flatten.length ≤ 1000
    rw [runsC_part]
    exact Nat.le_trans (flat_part _ _ _) h.t
abbrev PieceR (w : World) := {x : Row (Row Fct) // GoodR w x}
theorem chunkR_stops (n : Nat) (hn : 1 ≤ n) (Bs Bn b o c ln m : Nat) (l : List (Row Fct)) (w0 w : World) (hx : GoodR w0 ⟨some ⟨b, o, none⟩, ln, c, l⟩) (hm1 : 1 ≤ m) (hm2 : m ≤ 9223372036854775807)
    (hs : Bs < w.heap.size) (hb : Bn < w.heap.size) (hBs : w.cell? ⟨Bs, 0, none⟩ = some (.slice (some ⟨b, o, none⟩) ln c)) (hBn : w.cell? ⟨Bn, 0, none⟩ = some (.int .i64 m)) :
    SeqStopsK Fence.wide n Try.prog 99 #[.pointer (some ⟨Bs, 0, none⟩), .pointer (some ⟨Bn, 0, none⟩)] (fun x : PieceR w0 => #[x.1.v]) (KeepC Bs Bn)
      (fun xs => ∃ k, l.length ≤ k * m ∧ (k = 0 ∨ (k - 1) * m < l.length) ∧ xs = upto (fun j => (⟨pieceR b o m l j, pieceR_ok hx j⟩ : PieceR w0)) k) (fun _ => True) l.length w := fun lp J Jx W hW hJ _ hY h0 => by
  have hl : l.length = ln := hx.ok.len
  have hc := hx.ok.le
  have hc2 := hx.ok.cap
  have h1000 := hx.n
  unfold maxLen at hc2
  subst hl
  refine (chunkR1_in n hn lp Bs Bn b o c m l hm1 hm2 h1000 hc hc2 (fun x => GoodR w0 x) (pieceR_ok hx) J Jx (fun s A B hA hg => hJ s A B none hA hg (fun r e => by cases e)) hY W ((hW.cell (p := ⟨Bs, 0, none⟩) hs).trans hBs) ((hW.cell (p := ⟨Bn, 0, none⟩) hb).trans hBn) h0).mono ?_
  rintro e W' ⟨he, ⟨k, ys, h1, h2, rfl, hj⟩ | ⟨pre, hj⟩⟩
  · exact ⟨he, .inl ⟨_, ⟨k, h1, h2, rfl⟩, hj⟩⟩
  · exact ⟨he, .inr ⟨_, trivial, hj⟩⟩
/-- The marks that loops over functions have left. -/
def marks (ds : List Nat) : List Deferred := ds.map fun D => { target := .collected D, args := #[] }
def Marked (base : Nat) (w : World) (ds : List Nat) : Prop := ds.Nodup ∧ ∀ D ∈ ds, base ≤ D ∧ w.heap[D]? = some (.deferred (some []))
theorem leave_marks {F : Fence} {n : Nat} {P : Program} {fn : Func} {tmps : Array Value} {R : Ending → World → Prop} {base : Nat} {I : World → Prop}
    (hI : ∀ w D, I w → base ≤ D → w.heap[D]? = some (.deferred (some [])) → I (w.putObj D (.deferred none))) (hend : ∀ w, I w → LeavesIn F n P fn tmps R [] .returning w) :
    ∀ (ds : List Nat) (w : World), I w → Marked base w ds → LeavesInM F n P fn tmps R (marks ds) .returning w := by
  intro ds
  induction ds with
  | nil => intro w hi _; exact hend w hi
  | cons D ds ih =>
    intro w hi hm
    have hD := hm.2 D (List.mem_cons_self ..)
    have hnd := List.nodup_cons.1 hm.1
    refine ⟨by simp, .inl ⟨D, _, rfl, run_takeDeferred hD.2, ih _ (hI w D hi hD.1 hD.2) ⟨hnd.2, fun E hE => ?_⟩⟩⟩
    have h1 := hm.2 E (List.mem_cons_of_mem _ hE)
    refine ⟨h1.1, ?_⟩
    have hne : D ≠ E := fun e => hnd.1 (e ▸ hE)
    rw [← h1.2]
    simp [World.putObj, hne]

end Go.Proofs.Ytelnhhbefdfeoaa

namespace Go.Proofs.Ytelnhhbefdfeoaa
open Go.RowKit Go.Shelf
attribute [local go_sem] Oper.semAt_some
set_option linter.unusedVariables false
set_option linter.unusedSimpArgs false


/-- How kmerge.Passes ends. -/
def PassPost (l : List Con) (k : Nat) (w : World) (e : Ending) (w' : World) : Prop := ∃ v fs, e = .returned (.tuple #[v, .int .i64 k, .int .i64 0]) ∧ Gath w w' v fs ∧ cons fs = l
def rowLen : Value → Nat
  | .slice _ m _ => m
  | _ => 0
theorem passF_le (fan : Nat) : ∀ (f n : Nat), passF fan f n ≤ f
  | 0, _ => Nat.le_refl _
  | f + 1, n => by
    rw [passF]
    split
    · omega
    · have := passF_le fan f ((n + fan - 1) / fan)
      omega
/-- Where the passes stand. -/
structure PIn (fan : Nat) (w0 : World) (N : Nat) (R : List (List Con)) (wr : World) (m k c : Nat) (A : Option Addr) (rs : List (Row Fct)) (ds : List Nat) : Prop where
  good : GoodR wr ⟨A, m, c, rs⟩
  bel : Bel w0 wr
  cnt : k + passN fan m = passN fan N
  kN : k ≤ 1000000
  srt : sortC (runsC rs).flatten = sortC R.flatten
  mks : Marked w0.heap.size wr ds
theorem Gath.put {w0 w : World} {v : Value} {fs : List Fct} (h : Gath w0 w v fs) {D : Nat} (hD : w0.heap.size ≤ D) (hK : w.heap[D]? = some (.deferred (some []))) : Gath w0 (w.putObj D (.deferred none)) v fs := by
  have hg := grownBy_putObj' w D (.deferred none)
  have hr : ∀ r, some D = some r → ∃ o : Obj, w.heap[r]? = some o ∧ o.isCells = false := fun r e => by injection e with e; subst e; exact ⟨_, hK, rfl⟩
  have hck : Ck w (w.putObj D (.deferred none)) := ⟨hg.size, fun p u hp => cell_kept hp hg hr⟩
  refine ⟨Below.trans h.bel (belowK_b (w := w0) (Nat.le_refl _) w D _ _ hD hK rfl rfl), ?_, fun f hf => fct_ck (h.ok f hf) hck, h.away, h.new⟩
  have hq := ownsRow_putObj h.own (.deferred none) hK rfl
  exact hq
theorem bel_put {w0 w : World} (h : Bel w0 w) {D : Nat} (hD : w0.heap.size ≤ D) (hK : w.heap[D]? = some (.deferred (some []))) : Bel w0 (w.putObj D (.deferred none)) := Below.trans h (belowK_b (w := w0) (Nat.le_refl _) w D _ _ hD hK rfl rfl)

set_option maxRecDepth 100000 in
set_option maxHeartbeats 4000000 in
theorem passes_in (n : Nat) (hn : 4 ≤ n) (fan : Nat) (x : Row (Row Fct)) (w : World) (hx : GoodR w x) (hf : 2 ≤ fan) (hf2 : fan ≤ 9223372036854775807) :
    CallsIn Fence.wide n Try.prog 53 #[.int .i64 fan, .slice x.A x.n x.c] w (PassPost (sortC (runsC x.l).flatten) (passN fan x.n) w) := by
  have h1 : 1 ≤ n := by omega
  have d : decide ((fan : Int) < 2) = false := by simp <;> omega
  refine callsIn_of_wp_marks Try.func53 rfl trivial ?_ rfl
  simp only [Try.ntmps53, List.size_toArray, List.length_cons, List.length_nil, Nat.reduceAdd, Nat.reduceSub, Array.replicate_succ, Array.replicate_zero, List.push_toArray, List.append_toArray, List.nil_append, List.cons_append]
  obtain ⟨XA, XN, XC, XL⟩ := x
  simp only at *
  obtain ⟨R, hR⟩ : ∃ R, R = runsC XL := ⟨_, rfl⟩
  rw [← hR]
  have HI0 : Hid (PIn fan w XN R w XN 0 XC XA XL []) := ⟨hx, Bel.refl _, by omega, by omega, by rw [hR], ⟨List.nodup_nil, fun D hD => by cases hD⟩⟩
  have hXN : XN ≤ 1000 := hx.n
  clear hx hR
  gi_wp2_with fail
  refine wpIn_loop (fun a wr => ∃ (m k c : Nat) (A : Option Addr) (rs : List (Row Fct)) (ds : List Nat) (u8 u12 u13 u14 u15 u16 u17 u18 u19 u26 : Value), a = { tmps := #[.int .i64 fan, .slice A m c, undef, undef, .slice none 0 0, .int .i64 0, .int .i64 0, .int .i64 k, u8, undef, .int .i64 fan, .bool false, u12, u13, u14, u15, u16, u17, u18, u19, undef, undef, undef, undef, undef, undef, u26, undef, undef, undef, undef, undef, undef, undef, undef, undef], defers := marks ds } ∧ Hid (PIn fan w XN R wr m k c A rs ds)) (fun a _ => rowLen (a.tmps.getD 1 undef)) ?_ ?_
  · exact ⟨XN, 0, XC, XA, XL, [], undef, undef, undef, undef, undef, undef, undef, undef, undef, undef, rfl, HI0⟩
  clear HI0
  rintro a wr ⟨m, k, c, A, rs, ds, u8, u12, u13, u14, u15, u16, u17, u18, u19, u26, rfl, HI⟩
  by_cases hm : 1 < m
  · have d1 : decide ((1 : Int) < m) = true := by simp <;> omega
    have hlen : rs.length = m := HI.out.good.ok.len
    have hm1000 : m ≤ 1000 := HI.out.good.n
    obtain ⟨b, o, hA⟩ : ∃ b o, A = some ⟨b, o, none⟩ := by
      obtain ⟨b, o, _, e, _⟩ := rd_at HI.out.good.ok.rd (k := 0) (by show 0 < m; omega)
      exact ⟨b, o, e⟩
    subst hA
    have Hl := Lib.hid hlen
    clear hlen
    gi_wp2_with fail
    refine ⟨trivial, ?_⟩
    refine (chunkR_in (n - 1) _ _ _ fan (by omega) _).mono ?_; rintro e w' ⟨rfl, rfl⟩
    gi_wp2
    have bO := ((Boxed.new wr 105 (.slice none 0 0)).alloc (.cells #[.slice (some ⟨b, o, none⟩) m c] 105)).alloc (.cells #[.int .i64 fan] 3)
    have bS := (Boxed.new (wr.alloc (.cells #[.slice none 0 0] 105)) 105 (.slice (some ⟨b, o, none⟩) m c)).alloc (.cells #[.int .i64 fan] 3)
    have bN := Boxed.new ((wr.alloc (.cells #[.slice none 0 0] 105)).alloc (.cells #[.slice (some ⟨b, o, none⟩) m c] 105)) 3 (.int .i64 fan)
    rw [World.size_alloc, World.size_alloc] at bN
    rw [World.size_alloc] at bS
    have hB0 : Bel wr (((wr.alloc (.cells #[.slice none 0 0] 105)).alloc (.cells #[.slice (some ⟨b, o, none⟩) m c] 105)).alloc (.cells #[.int .i64 fan] 3)) := (((Bel.refl wr).alloc _).alloc _).alloc _
    have hsz : (((wr.alloc (.cells #[.slice none 0 0] 105)).alloc (.cells #[.slice (some ⟨b, o, none⟩) m c] 105)).alloc (.cells #[.int .i64 fan] 3)).heap.size = wr.heap.size + 3 := by simp
    generalize ((wr.alloc (.cells #[.slice none 0 0] 105)).alloc (.cells #[.slice (some ⟨b, o, none⟩) m c] 105)).alloc (.cells #[.int .i64 fan] 3) = W0 at *
    have HsO := Lib.hid bO
    obtain ⟨i0, hi0, hz0, hz1, hz2⟩ := info_parts info_fcts
    have Hi0 := Lib.hid hi0
    have Hz0 := Lib.hid hz0
    have Hz1 := Lib.hid hz1
    have Hz2 := Lib.hid hz2
    clear hi0 hz0 hz1 hz2
    have P0 : Parts W0 W0 wr.heap.size (.slice none 0 0) [] := ⟨bO, ⟨rfl, .inl ⟨rfl, rfl⟩⟩, by simp, by simp, by simp⟩
    have hne1 : wr.heap.size + 1 < W0.heap.size := by omega
    have hne2 : wr.heap.size + 1 + 1 < W0.heap.size := by omega
    have Hsz := Lib.hid hsz
    clear hsz bO
    refine wpIn_rangeFunc_ownG rfl h1 (gf := 99) (lb := #[.pointer (some ⟨wr.heap.size + 1, 0, none⟩), .pointer (some ⟨wr.heap.size + 1 + 1, 0, none⟩)]) rfl trivial (enters_of Try.func99 (by kernel_rfl) rfl)
      (chunkR_stops (n - 1) (by omega) (wr.heap.size + 1) (wr.heap.size + 1 + 1) b o c m fan rs wr W0 HI.out.good (by omega) hf2 hne1 hne2 bS.cell bN.cell) KeepC.trans (fun W l o o' hl _ _ _ => keepC_putObj (by omega) (by omega)) (Below.refl _ _) (fun _ => rfl)
      (fun pre W => (∃ v rs', Parts W0 W wr.heap.size v rs' ∧ Hid (rs'.map (fun r => cons r.l) = pre.map (fun x => sortC (runsC x.1.l).flatten)) ∧ Hid (∀ r ∈ rs', r.n ≤ 1000)) ∧ Below wr.heap.size wr W ∧ W0.heap.size ≤ W.heap.size)
      (fun _ _ _ => False)
      (fun s A B row hs hg hr => by
        obtain ⟨⟨v, rs', h1, h2, h3⟩, h4, h5⟩ := hs
        exact ⟨⟨v, rs', h1.kept hg (fun r e => (hr r e).2), h2, h3⟩, h4.grown hg h4.size (fun k e => Nat.le_trans (by omega) (hr k e).1), Nat.le_trans h5 hg.size⟩)
      (fun _ _ _ _ _ hs _ _ => hs)
      ⟨⟨_, [], P0, rfl, fun r h => by simp at h⟩, hB0, Nat.le_refl _⟩
      (fun x => { tmps := #[.int .i64 fan, .slice (some ⟨b, o, none⟩) m c, undef, undef, .slice none 0 0, .int .i64 0, .int .i64 0, .int .i64 k, .pointer (some ⟨wr.heap.size, 0, none⟩), x.1.v, .int .i64 fan, .bool false, .slice (some ⟨b, o, none⟩) m c, .int .i64 m, .bool true, u15, u16, .slice (some ⟨b, o, none⟩) m c, .int .i64 fan, .func (.func 99) #[] #[.pointer (some ⟨wr.heap.size + 1, 0, none⟩), .pointer (some ⟨wr.heap.size + 1 + 1, 0, none⟩)], x.1.v, undef, undef, undef, undef, undef, u26, undef, undef, undef, undef, undef, undef, undef, undef, undef], defers := [] }) ?assign ?body ?done ?stop
    case assign =>
      intro l x W K hK
      gi_wp2
      exact hK
    case body =>
      rintro lp pre x W ⟨⟨v, rs, hP, hcon, hrn⟩, hB, hW0⟩ hlt
      obtain ⟨⟨xA, xn, xc, xl⟩, hxo⟩ := x
      simp only [Row.v] at *
      have hd : 1 ≤ n - 1 - 1 := by omega
      have hmx : Try.prog.follows .mixedOrders = true := by kernel_rfl
      have hc := hP.box.cell
      have hBw : Bel wr W.drew := (show Bel wr W from hB).drew
      have Hxo : Hid (GoodR W.drew ⟨xA, xn, xc, xl⟩) := ⟨hxo.ok.mono hBw, hxo.n, hxo.s, hxo.t⟩
      have hlen : rs.length = pre.length := by have := congrArg List.length hcon.out; simpa using this
      have hpl : pre.length ≤ 1000 := by have := Hl.out; omega
      have Hlen := Lib.hid hlen
      clear hlen
      have hPd : Parts W0 W.drew wr.heap.size v rs := hP.keep (Bel.refl W).drew
      gi_wp2
      refine wpIn_region_any (by kernel_rfl) ?_
      refine wpAnyIn_ready (rs := [0, 1]) (by kernel_rfl) (by simp) ?_
      refine AllReadyIn.cons rfl (fun K hK => ?_) (AllReadyIn.cons rfl (fun K hK => ?_) AllReadyIn.nil)
      · go_simp
        refine hK _ _ ?_; clear hK K
        refine wpAnyIn_ready (rs := [1]) (by kernel_rfl) (by simp) ?_
        refine AllReadyIn.cons rfl (fun K hK => ?_) AllReadyIn.nil
        go_simp
        refine hK _ _ ?_; clear hK K
        refine wpAnyIn_ready (rs := [2]) (by kernel_rfl) (by simp) ?_
        refine AllReadyIn.cons rfl (fun K hK => ?_) AllReadyIn.nil
        go_simp
        refine ⟨trivial, ?_⟩
        refine (CallsIn.inRound lp (callsIn_wide.2 (merge_any _ ⟨xA, xn, xc, xl⟩ Hxo.out.ok Hxo.out.n (by have := Hxo.out.t; omega) Hxo.out.s))).mono ?_
        rintro e w2 ⟨cv, fs, rfl, hGa, hcons⟩
        obtain ⟨⟨yA, yn, yc, yl⟩, rfl, hyo, hyl, hyn⟩ := gath_row hGa (by have h1 := congrArg List.length hcons; rw [cons_len, sortC_len] at h1; have h2 := Hxo.out.t; simp only at h1 h2; omega)
        have hP2 := hPd.keep hGa.bel
        have hP3 := hP2.keep ((Bel.refl w2).alloc (.cells #[.slice yA yn yc] 30))
        have hc2 := hP2.box.cell
        have hc3 := hP3.box.cell
        obtain ⟨v', w4, hrun, hown4, hg4, hat4⟩ := run_append_any (P := Try.prog) (w2.alloc (.cells #[.slice yA yn yc] 30)) W0.heap.size 105 105 30 i0 (.slice none 0 0) 1 24 Try.underlying105 Hi0.out Hz0.out Hz1.out Hz2.out rfl (by decide) v rs.length (rs.map Row.v) hP3.own _ (some ⟨w2.heap.size, 0, none⟩) 1 1 [.slice yA yn yc] (rd_new w2 _ _ 1 1 rfl) (by simp [Value.oneCell']) (by unfold maxLen; rw [Hlen.out]; omega) (by rw [Hlen.out]; omega) (by have := hGa.bel.size; simp at this ⊢; omega)
        obtain ⟨g', cap', rfl⟩ := ownsRow_succ hown4
        have hbx4 := hP3.box.kept hg4 (hP3.box.not_row (by decide) hP3.own)
        have hc4 := hbx4.cell
        have hf4 := hbx4.frozen
        have Hrun := Lib.hid hrun
        clear hrun
        simp only [Row.v]
        refine hK _ _ ?_; clear hK K
        refine wpAnyIn_ready (rs := [3]) (by kernel_rfl) (by simp) ?_
        refine AllReadyIn.cons rfl (fun K hK => ?_) AllReadyIn.nil
        go_simp
        refine hK _ _ ?_; clear hK K
        refine wpAnyIn_ready (rs := [4]) (by kernel_rfl) (by simp) ?_
        refine AllReadyIn.cons rfl (fun K hK => ?_) AllReadyIn.nil
        refine stepIn_append rfl (.tmp 21) (.tmp 24) _ rfl _ _ rfl rfl Hrun.out ?_
        refine hK _ _ ?_; clear hK K
        refine wpAnyIn_ready (rs := [5]) (by kernel_rfl) (by simp) ?_
        refine AllReadyIn.cons rfl (fun K hK => ?_) AllReadyIn.nil
        go_simp
        refine hK _ _ ?_; clear hK K
        refine wpAnyIn_done (by kernel_rfl) ?_ _
        obtain ⟨k1, k2, k3, k4, k5⟩ := cut_round hne1 hne2 (by omega) hP hW0 (show Bel wr W from hB) hGa hyo hyl hP3 hown4 hg4 hat4 hbx4
        refine ⟨k1, k2, ⟨_, rs ++ [⟨yA, yn, yc, yl⟩], k3, ?_, ?_⟩, k4, k5⟩
        · show _ = _
          rw [List.map_append, List.map_append, hcon.out]
          have e1 : cons yl = sortC (runsC xl).flatten := by have h1 : yl = fs := hyl; rw [h1]; exact hcons
          simp only [List.map_cons, List.map_nil, e1]
        · intro r hr
          rcases List.mem_append.1 hr with h | h
          · exact hrn.out r h
          · rw [List.mem_singleton] at h
            subst h
            have h1 := congrArg List.length hcons
            rw [cons_len, sortC_len] at h1
            have h2 := Hxo.out.t
            simp only at h1 h2 hyn ⊢
            omega
      · go_simp
        refine hK _ _ ?_; clear hK K
        refine wpAnyIn_ready (rs := [0, 2]) (by kernel_rfl) (by simp) ?_
        refine AllReadyIn.cons rfl (fun K hK => ?_) (AllReadyIn.cons rfl (fun K hK => ?_) AllReadyIn.nil)
        · go_simp
          refine hK _ _ ?_; clear hK K
          refine wpAnyIn_ready (rs := [2]) (by kernel_rfl) (by simp) ?_
          refine AllReadyIn.cons rfl (fun K hK => ?_) AllReadyIn.nil
          go_simp
          refine ⟨trivial, ?_⟩
          refine (CallsIn.inRound lp (callsIn_wide.2 (merge_any _ ⟨xA, xn, xc, xl⟩ Hxo.out.ok Hxo.out.n (by have := Hxo.out.t; omega) Hxo.out.s))).mono ?_
          rintro e w2 ⟨cv, fs, rfl, hGa, hcons⟩
          obtain ⟨⟨yA, yn, yc, yl⟩, rfl, hyo, hyl, hyn⟩ := gath_row hGa (by have h1 := congrArg List.length hcons; rw [cons_len, sortC_len] at h1; have h2 := Hxo.out.t; simp only at h1 h2; omega)
          have hP2 := hPd.keep hGa.bel
          have hP3 := hP2.keep ((Bel.refl w2).alloc (.cells #[.slice yA yn yc] 30))
          have hc2 := hP2.box.cell
          have hc3 := hP3.box.cell
          obtain ⟨v', w4, hrun, hown4, hg4, hat4⟩ := run_append_any (P := Try.prog) (w2.alloc (.cells #[.slice yA yn yc] 30)) W0.heap.size 105 105 30 i0 (.slice none 0 0) 1 24 Try.underlying105 Hi0.out Hz0.out Hz1.out Hz2.out rfl (by decide) v rs.length (rs.map Row.v) hP3.own _ (some ⟨w2.heap.size, 0, none⟩) 1 1 [.slice yA yn yc] (rd_new w2 _ _ 1 1 rfl) (by simp [Value.oneCell']) (by unfold maxLen; rw [Hlen.out]; omega) (by rw [Hlen.out]; omega) (by have := hGa.bel.size; simp at this ⊢; omega)
          obtain ⟨g', cap', rfl⟩ := ownsRow_succ hown4
          have hbx4 := hP3.box.kept hg4 (hP3.box.not_row (by decide) hP3.own)
          have hc4 := hbx4.cell
          have hf4 := hbx4.frozen
          have Hrun := Lib.hid hrun
          clear hrun
          simp only [Row.v]
          refine hK _ _ ?_; clear hK K
          refine wpAnyIn_ready (rs := [3]) (by kernel_rfl) (by simp) ?_
          refine AllReadyIn.cons rfl (fun K hK => ?_) AllReadyIn.nil
          go_simp
          refine hK _ _ ?_; clear hK K
          refine wpAnyIn_ready (rs := [4]) (by kernel_rfl) (by simp) ?_
          refine AllReadyIn.cons rfl (fun K hK => ?_) AllReadyIn.nil
          refine stepIn_append rfl (.tmp 21) (.tmp 24) _ rfl _ _ rfl rfl Hrun.out ?_
          refine hK _ _ ?_; clear hK K
          refine wpAnyIn_ready (rs := [5]) (by kernel_rfl) (by simp) ?_
          refine AllReadyIn.cons rfl (fun K hK => ?_) AllReadyIn.nil
          go_simp
          refine hK _ _ ?_; clear hK K
          refine wpAnyIn_done (by kernel_rfl) ?_ _
          obtain ⟨k1, k2, k3, k4, k5⟩ := cut_round hne1 hne2 (by omega) hP hW0 (show Bel wr W from hB) hGa hyo hyl hP3 hown4 hg4 hat4 hbx4
          refine ⟨k1, k2, ⟨_, rs ++ [⟨yA, yn, yc, yl⟩], k3, ?_, ?_⟩, k4, k5⟩
          · show _ = _
            rw [List.map_append, List.map_append, hcon.out]
            have e1 : cons yl = sortC (runsC xl).flatten := by have h1 : yl = fs := hyl; rw [h1]; exact hcons
            simp only [List.map_cons, List.map_nil, e1]
          · intro r hr
            rcases List.mem_append.1 hr with h | h
            · exact hrn.out r h
            · rw [List.mem_singleton] at h
              subst h
              have h1 := congrArg List.length hcons
              rw [cons_len, sortC_len] at h1
              have h2 := Hxo.out.t
              simp only at h1 h2 hyn ⊢
              omega
        · skip
          go_simp
          refine ⟨trivial, ?_⟩
          refine (CallsIn.inRound lp (callsIn_wide.2 (merge_any _ ⟨xA, xn, xc, xl⟩ Hxo.out.ok Hxo.out.n (by have := Hxo.out.t; omega) Hxo.out.s))).mono ?_
          rintro e w2 ⟨cv, fs, rfl, hGa, hcons⟩
          obtain ⟨⟨yA, yn, yc, yl⟩, rfl, hyo, hyl, hyn⟩ := gath_row hGa (by have h1 := congrArg List.length hcons; rw [cons_len, sortC_len] at h1; have h2 := Hxo.out.t; simp only at h1 h2; omega)
          have hP2 := hPd.keep hGa.bel
          have hP3 := hP2.keep ((Bel.refl w2).alloc (.cells #[.slice yA yn yc] 30))
          have hc2 := hP2.box.cell
          have hc3 := hP3.box.cell
          obtain ⟨v', w4, hrun, hown4, hg4, hat4⟩ := run_append_any (P := Try.prog) (w2.alloc (.cells #[.slice yA yn yc] 30)) W0.heap.size 105 105 30 i0 (.slice none 0 0) 1 24 Try.underlying105 Hi0.out Hz0.out Hz1.out Hz2.out rfl (by decide) v rs.length (rs.map Row.v) hP3.own _ (some ⟨w2.heap.size, 0, none⟩) 1 1 [.slice yA yn yc] (rd_new w2 _ _ 1 1 rfl) (by simp [Value.oneCell']) (by unfold maxLen; rw [Hlen.out]; omega) (by rw [Hlen.out]; omega) (by have := hGa.bel.size; simp at this ⊢; omega)
          obtain ⟨g', cap', rfl⟩ := ownsRow_succ hown4
          have hbx4 := hP3.box.kept hg4 (hP3.box.not_row (by decide) hP3.own)
          have hc4 := hbx4.cell
          have hf4 := hbx4.frozen
          have Hrun := Lib.hid hrun
          clear hrun
          simp only [Row.v]
          refine hK _ _ ?_; clear hK K
          refine wpAnyIn_ready (rs := [0, 3]) (by kernel_rfl) (by simp) ?_
          refine AllReadyIn.cons rfl (fun K hK => ?_) (AllReadyIn.cons rfl (fun K hK => ?_) AllReadyIn.nil)
          · go_simp
            refine hK _ _ ?_; clear hK K
            refine wpAnyIn_ready (rs := [3]) (by kernel_rfl) (by simp) ?_
            refine AllReadyIn.cons rfl (fun K hK => ?_) AllReadyIn.nil
            go_simp
            refine hK _ _ ?_; clear hK K
            refine wpAnyIn_ready (rs := [4]) (by kernel_rfl) (by simp) ?_
            refine AllReadyIn.cons rfl (fun K hK => ?_) AllReadyIn.nil
            refine stepIn_append rfl (.tmp 21) (.tmp 24) _ rfl _ _ rfl rfl Hrun.out ?_
            refine hK _ _ ?_; clear hK K
            refine wpAnyIn_ready (rs := [5]) (by kernel_rfl) (by simp) ?_
            refine AllReadyIn.cons rfl (fun K hK => ?_) AllReadyIn.nil
            go_simp
            refine hK _ _ ?_; clear hK K
            refine wpAnyIn_done (by kernel_rfl) ?_ _
            obtain ⟨k1, k2, k3, k4, k5⟩ := cut_round hne1 hne2 (by omega) hP hW0 (show Bel wr W from hB) hGa hyo hyl hP3 hown4 hg4 hat4 hbx4
            refine ⟨k1, k2, ⟨_, rs ++ [⟨yA, yn, yc, yl⟩], k3, ?_, ?_⟩, k4, k5⟩
            · show _ = _
              rw [List.map_append, List.map_append, hcon.out]
              have e1 : cons yl = sortC (runsC xl).flatten := by have h1 : yl = fs := hyl; rw [h1]; exact hcons
              simp only [List.map_cons, List.map_nil, e1]
            · intro r hr
              rcases List.mem_append.1 hr with h | h
              · exact hrn.out r h
              · rw [List.mem_singleton] at h
                subst h
                have h1 := congrArg List.length hcons
                rw [cons_len, sortC_len] at h1
                have h2 := Hxo.out.t
                simp only at h1 h2 hyn ⊢
                omega
          · go_simp
            refine hK _ _ ?_; clear hK K
            refine wpAnyIn_ready (rs := [0]) (by kernel_rfl) (by simp) ?_
            refine AllReadyIn.cons rfl (fun K hK => ?_) AllReadyIn.nil
            go_simp
            refine hK _ _ ?_; clear hK K
            refine wpAnyIn_ready (rs := [4]) (by kernel_rfl) (by simp) ?_
            refine AllReadyIn.cons rfl (fun K hK => ?_) AllReadyIn.nil
            refine stepIn_append rfl (.tmp 21) (.tmp 24) _ rfl _ _ rfl rfl Hrun.out ?_
            refine hK _ _ ?_; clear hK K
            refine wpAnyIn_ready (rs := [5]) (by kernel_rfl) (by simp) ?_
            refine AllReadyIn.cons rfl (fun K hK => ?_) AllReadyIn.nil
            go_simp
            refine hK _ _ ?_; clear hK K
            refine wpAnyIn_done (by kernel_rfl) ?_ _
            obtain ⟨k1, k2, k3, k4, k5⟩ := cut_round hne1 hne2 (by omega) hP hW0 (show Bel wr W from hB) hGa hyo hyl hP3 hown4 hg4 hat4 hbx4
            refine ⟨k1, k2, ⟨_, rs ++ [⟨yA, yn, yc, yl⟩], k3, ?_, ?_⟩, k4, k5⟩
            · show _ = _
              rw [List.map_append, List.map_append, hcon.out]
              have e1 : cons yl = sortC (runsC xl).flatten := by have h1 : yl = fs := hyl; rw [h1]; exact hcons
              simp only [List.map_cons, List.map_nil, e1]
            · intro r hr
              rcases List.mem_append.1 hr with h | h
              · exact hrn.out r h
              · rw [List.mem_singleton] at h
                subst h
                have h1 := congrArg List.length hcons
                rw [cons_len, sortC_len] at h1
                have h2 := Hxo.out.t
                simp only at h1 h2 hyn ⊢
                omega
    case done =>
      rintro D ys W hD ⟨K, hk1, hk2, rfl⟩ ⟨⟨v, rs', hP, hcon, hrn⟩, hB, hW0⟩ hK
      have hstep := passN_step hf hm (K := K) (by rw [← Hl.out]; exact hk1) (by rw [← Hl.out]; exact hk2)
      have HST := Lib.hid hstep
      have hrl : runsC rs' = upto (fun j => sortC (((runsC rs).drop (j * fan)).take fan).flatten) K := by
        have h := hcon.out
        rw [upto_map] at h
        show rs'.map (fun r => cons r.l) = _
        rw [h]
        congr 1
        funext j
        show sortC (runsC ((rs.drop (j * fan)).take fan)).flatten = _
        rw [runsC_part]
      have hKl : rs'.length = K := by have h := congrArg List.length hrl; rw [List.length_map, upto_length] at h; exact h
      obtain ⟨A', c', rfl, hle⟩ := own_slice hP.own
      have hRK : (runsC rs).length ≤ K * fan := by rw [List.length_map]; exact hk1
      have HNew : Hid (PIn fan w XN R W K (k + 1) c' A' rs' (D :: ds)) := by
        refine ⟨⟨own_okK (x := ⟨A', K, c', rs'⟩) (by rw [flat_fcts]; have h := hP.own; rw [hKl] at h; exact h) (fun r hr => hP.ok r hr) (by show K * 24 ≤ _; omega), by show K ≤ 1000; omega, fun r hr => ?_, ?_⟩, Below.trans HI.out.bel (hB.mono HI.out.bel.size), ?_, ?_, ?_, ?_, ?_⟩
        · have hr : r ∈ runsC rs' := hr
          rw [hrl] at hr
          obtain ⟨j, _, rfl⟩ := List.mem_map.1 hr
          exact srt_sort _
        · show (runsC rs').flatten.length ≤ 1000
          rw [hrl, chunks_len _ _ _ hRK]
          exact HI.out.good.t
        · have := HI.out.cnt; omega
        · have := HI.out.cnt; have h2 : passN fan XN ≤ XN := passF_le fan XN XN; show k + 1 ≤ 1000000; omega
        · rw [hrl, chunks_sort _ _ _ hRK]
          exact HI.out.srt
        · refine List.nodup_cons.2 ⟨fun hm2 => ?_, HI.out.mks.1⟩
          have h := (Array.getElem?_eq_some_iff.1 (HI.out.mks.2 D hm2).2).1
          omega
        · intro E hE
          rcases List.mem_cons.1 hE with rfl | hE
          · exact ⟨by have := HI.out.bel.size; omega, hK⟩
          · have h := HI.out.mks.2 E hE
            exact ⟨h.1, by rw [← h.2]; exact hB.block E (Array.getElem?_eq_some_iff.1 h.2).1⟩
      have hc := hP.box.cell
      rw [hKl] at hc
      have hkk : k ≤ 1000 := by have := HI.out.cnt; have h2 : passN fan XN ≤ XN := passF_le fan XN XN; omega
      clear hrl hcon hrn hP hk1 hk2 hstep hRK hle hKl
      gi_wp2
      exact ⟨⟨K, k + 1, c', A', rs', D :: ds, _, _, _, _, _, _, _, _, _, _, by first | rfl | (simp [marks]; done), HNew⟩, by show K < m; exact HST.out.2⟩
    case stop =>
      rintro D c pre W _ _ h _
      exact h.elim
  · have d1 : decide ((1 : Int) < m) = false := by simp <;> omega
    have hcnt : k = passN fan XN := by have h := HI.out.cnt; rw [passN_small (by omega)] at h; omega
    have HCn := Lib.hid hcnt
    clear hcnt
    by_cases hm0 : m = 0
    · subst hm0
      have hrs : rs = [] := List.eq_nil_of_length_eq_zero HI.out.good.ok.len
      have HE : Hid (cons [] = sortC R.flatten) := by show _ = _; rw [← HI.out.srt, hrs]; rfl
      clear hrs
      gi_wp2
      refine leave_marks (base := w.heap.size) (I := fun w' => Gath w w' (.slice none 0 0) []) (fun w' D h h1 h2 => h.put h1 h2) (fun w' h => ?_) ds wr ⟨HI.out.bel, World.ownsRow_nil _ _ _ _, by simp, by simp, by simp⟩ HI.out.mks
      refine ⟨.tuple #[.slice none 0 0, .int .i64 k, .int .i64 0], by kernel_rfl, .slice none 0 0, [], by rw [HCn.out], h, HE.out⟩
    · obtain rfl : m = 1 := by omega
      obtain ⟨b, o, r, hA, hr, q1⟩ := rd_cell rfl HI.out.good.ok.rd (k := 0) (by show 0 < 1; omega)
      simp only at hA
      subst hA
      have q1 := q1 _ rfl
      rw [Nat.add_zero] at q1
      have hl1 : rs.length = 1 := HI.out.good.ok.len
      have hrs : rs = [r] := by
        match rs, hl1, hr with
        | [z], _, h => injection h with h; rw [h]
      have hsr : sortC (cons r.l) = cons r.l := sortC_srt (HI.out.good.s _ (by rw [hrs]; exact List.mem_singleton.2 rfl))
      have HE : Hid (cons r.l = sortC R.flatten) := by
        show _ = _
        rw [← HI.out.srt, hrs]
        show cons r.l = sortC ([cons r.l].flatten)
        rw [List.flatten_singleton, hsr]
      have hrok : r.ok wr := HI.out.good.ok.all r (by rw [hrs]; exact List.mem_singleton.2 rfl)
      have hrn : r.n ≤ 1000 := by
        have h := HI.out.good.t
        rw [hrs] at h
        have h : ([cons r.l].flatten).length ≤ 1000 := h
        rw [List.flatten_singleton, cons_len, hrok.len] at h
        exact h
      have HCl := Lib.hid (clone_any r wr hrok (by omega))
      clear hrs hl1 hsr hrok hr
      obtain ⟨RA, rn, rc, rl⟩ := r
      simp only [Row.v] at *
      gi_wp2_with fail
      refine ⟨trivial, ?_⟩
      refine (callsIn_wide.2 HCl.out).mono ?_; rintro e w2 ⟨v, fs, rfl, hG, hc⟩
      have HG := Lib.hid (hG.from_ HI.out.bel)
      have HM : Hid (Marked w.heap.size w2 ds) := ⟨HI.out.mks.1, fun D hD => ⟨(HI.out.mks.2 D hD).1, by rw [← (HI.out.mks.2 D hD).2]; exact hG.bel.block D (Array.getElem?_eq_some_iff.1 (HI.out.mks.2 D hD).2).1⟩⟩
      have HE2 : Hid (cons fs = sortC R.flatten) := by show _ = _; rw [hc]; exact HE.out
      clear hG hc
      gi_wp2
      refine leave_marks (base := w.heap.size) (I := fun w' => Gath w w' v fs) (fun w' D h h1 h2 => h.put h1 h2) (fun w' h => ?_) ds w2 HG.out HM.out
      refine ⟨.tuple #[v, .int .i64 k, .int .i64 0], by kernel_rfl, v, fs, by rw [HCn.out], h, HE2.out⟩

end Go.Proofs.Ytelnhhbefdfeoaa

namespace Go.Proofs.Ytelnhhbefdfeoaa
open Go.RowKit
set_option linter.unusedVariables false
set_option linter.unusedSimpArgs false


set_option maxRecDepth 100000 in
theorem runs_not (m : Int) (hm : m < 1) (v : Value) (w : World) : Calls Try.prog 52 #[.int .i64 m, v] w fun e w' => e = .returned (.tuple #[.slice none 0 0, .int .i64 2]) ∧ Bel w w' := by
  go_enter Try.func52, Try.ntmps52
  go_wp2_with fail
  refine (cut_not m hm v _).mono ?_; rintro e w1 ⟨rfl, hb⟩
  go_wp2
  refine bodyPost_ret (v := .tuple #[.slice none 0 0, .int .i64 2]) (by kernel_rfl) rfl ⟨rfl, hb⟩


theorem sameF_consK {l q : List Fct} (h : cons l = cons q) : sameF l q = true := by
  unfold sameF
  rw [h]
  exact decide_eq_true rfl


theorem passes_any (fan : Nat) (x : Row (Row Fct)) (w : World) (hx : GoodR w x) (hf : 2 ≤ fan) (hf2 : fan ≤ 9223372036854775807) :
    Calls Try.prog 53 #[.int .i64 fan, .slice x.A x.n x.c] w (PassPost (sortC (runsC x.l).flatten) (passN fan x.n) w) := callsIn_wide.1 (passes_in 4 (Nat.le_refl _) fan x w hx hf hf2)
set_option maxRecDepth 100000 in
theorem passes_not (fan : Int) (hf : fan < 2) (v : Value) (w : World) : Calls Try.prog 53 #[.int .i64 fan, v] w fun e w' => e = .returned (.tuple #[.slice none 0 0, .int .i64 0, .int .i64 2]) ∧ Bel w w' := by
  have d : decide (fan < 2) = true := by simp; omega
  go_enter Try.func53, Try.ntmps53
  go_wp2
  refine bodyPost_ret (v := .tuple #[.slice none 0 0, .int .i64 0, .int .i64 2]) (by kernel_rfl) rfl ⟨rfl, ?_⟩
  exact Bel.refl w
theorem chain_srt {l : List Fct} (h : sortedF l = true) : Srt (cons l) := by
  have key : ∀ m : List Con, chain (fun a b => !lessK b a) (m.map Prod.fst) = true → m.Pairwise (fun a b => lessC b a = false) := by
    intro m
    induction m with
    | nil => intro _; exact List.Pairwise.nil
    | cons a m ih =>
      intro h
      cases m with
      | nil => exact List.pairwise_singleton _ _
      | cons b m =>
        have h2 : (!lessK b.1 a.1 && chain (fun a b => !lessK b a) ((b :: m).map Prod.fst)) = true := h
        rw [Bool.and_eq_true] at h2
        have hp := ih h2.2
        have hab : lessC b a = false := by have := h2.1; simpa [lessC] using this
        refine List.pairwise_cons.2 ⟨fun z hz => ?_, hp⟩
        rcases List.mem_cons.1 hz with rfl | hz
        · exact hab
        · exact lessC_false_trans hab ((List.pairwise_cons.1 hp).1 z hz)
  have h2 := key (cons l) (by have e : (cons l).map Prod.fst = keysOf l := by simp [cons, keysOf, Fct.con]
                              rw [e]; exact h)
  intro i j a b hij ha hb
  obtain ⟨h3, rfl⟩ := List.getElem?_eq_some_iff.1 ha
  obtain ⟨h4, rfl⟩ := List.getElem?_eq_some_iff.1 hb
  exact List.pairwise_iff_getElem.1 h2 i j h3 h4 hij
theorem RunsAt.good {w0 w : World} {v : Value} {rs : List (Row Fct)} {l : List Con} {m K : Nat} (h : RunsAt w0 w v rs) (hr : rs.map (fun r => cons r.l) = upto (fun j => sortC ((l.drop (j * m)).take m)) K) (h1 : l.length ≤ K * m) (h2 : K = 0 ∨ (K - 1) * m < l.length) (hm : 1 ≤ m) (hl : l.length ≤ 1000) :
    ∃ x : Row (Row Fct), v = .slice x.A x.n x.c ∧ GoodR w x ∧ sortC (runsC x.l).flatten = sortC l := by
  obtain ⟨A, c, rfl, hc⟩ := own_slice h.own
  have hK : rs.length = K := by have h := congrArg List.length hr; rw [List.length_map, upto_length] at h; exact h
  have hK2 : K ≤ 1000 := by
    rcases h2 with rfl | h2
    · omega
    · have : (K - 1) * 1 ≤ (K - 1) * m := Nat.mul_le_mul_left _ hm
      omega
  have e1 : runsC rs = (upto (fun j => (l.drop (j * m)).take m) K).map sortC := by show rs.map (fun r => cons r.l) = _; rw [hr]; simp [upto, List.map_map, Function.comp_def]
  refine ⟨⟨A, rs.length, c, rs⟩, rfl, ⟨own_okK (x := ⟨A, rs.length, c, rs⟩) (by rw [flat_fcts]; exact h.own) (fun r hr => (h.all r hr).1) (by show rs.length * 24 ≤ _; omega), by show rs.length ≤ _; omega, fun r hr => ?_, ?_⟩, ?_⟩
  · have hr : r ∈ runsC rs := hr
    rw [e1] at hr
    obtain ⟨j, _, rfl⟩ := List.mem_map.1 hr
    exact srt_sort _
  · show (runsC rs).flatten.length ≤ 1000
    rw [e1, flat_len_sort, chunks_flat, List.length_take]
    omega
  · show sortC (runsC rs).flatten = _
    rw [e1, sortC_flat, chunks_flat, List.take_of_length_le h1]
/-- How kmerge.Sort ends. -/
def SrtPost (l : List Con) (w : World) (e : Ending) (w' : World) : Prop := ∃ v fs, e = .returned (.tuple #[v, .int .i64 0]) ∧ Gath w w' v fs ∧ cons fs = sortC l
set_option maxRecDepth 100000 in
set_option maxHeartbeats 1000000 in
theorem ksort_any (m fan : Nat) (hm1 : 1 ≤ m) (hm2 : m ≤ 9223372036854775807) (hf : 2 ≤ fan) (hf2 : fan ≤ 9223372036854775807) (x : Row Fct) (w : World) (hx : x.ok w) (hn : x.n ≤ 1000) :
    Calls Try.prog 33 #[.int .i64 m, .int .i64 fan, .slice x.A x.n x.c] w (SrtPost (cons x.l) w) := by
  have HR := Lib.hid (runs_any m hm1 hm2 x w hx hn)
  have hxl := hx.len
  have HL : Hid ((cons x.l).length ≤ 1000) := by show _ ≤ _; rw [cons_len]; omega
  have HCL : Hid (x.l.length = (cons x.l).length) := (cons_len _).symm
  have HCD : Hid (∀ j, cons ((x.l.drop (j * m)).take m) = ((cons x.l).drop (j * m)).take m) := fun j => by rw [cons_take, cons_drop]
  generalize cons x.l = l at *
  obtain ⟨A, n, c, xl⟩ := x
  simp only [Row.v] at *
  clear hx
  go_enter Try.func33, Try.ntmps33
  go_wp2_with fail
  refine HR.out.mono ?_; rintro e w1 ⟨K, v, rs, h1, h2, rfl, hat, hrs⟩
  obtain ⟨X, rfl, hg, hs⟩ := hat.good (l := l) (m := m) (K := K) (by rw [hrs]; congr 1; funext j; rw [HCD.out]) (by rw [← HCL.out]; exact h1) (by rw [← HCL.out]; exact h2) hm1 HL.out
  have HB := Lib.hid hat.bel
  have HP := Lib.hid (passes_any fan X w1 hg hf hf2)
  rw [hs] at HP
  obtain ⟨XA, XN, XC, XL⟩ := X
  simp only at *
  clear hat hrs h1 h2 hg hs HR
  go_wp2_with fail
  refine HP.out.mono ?_; rintro e w2 ⟨v, fs, rfl, hG, hc⟩
  have HG := Lib.hid (hG.from_ HB.out)
  have HC := Lib.hid hc
  clear hG hc HP
  go_wp2
  go_ret2
  exact ⟨v, fs, rfl, HG.out, HC.out⟩
set_option maxRecDepth 100000 in
theorem ksort_not (m fan : Int) (h : m < 1 ∨ fan < 2) (hm2 : m ≤ 9223372036854775807) (x : Row Fct) (w : World) (hx : x.ok w) (hn : x.n ≤ 1000) :
    Calls Try.prog 33 #[.int .i64 m, .int .i64 fan, .slice x.A x.n x.c] w fun e w' => e = .returned (.tuple #[.slice none 0 0, .int .i64 2]) ∧ Bel w w' := by
  by_cases hm : m < 1
  · go_enter Try.func33, Try.ntmps33
    go_wp2_with fail
    refine (runs_not m hm _ _).mono ?_; rintro e w1 ⟨rfl, hb⟩
    go_wp2
    refine bodyPost_ret (v := .tuple #[.slice none 0 0, .int .i64 2]) (by kernel_rfl) rfl ⟨rfl, hb⟩
  · have hf : fan < 2 := by omega
    obtain ⟨m, rfl⟩ : ∃ k : Nat, m = k := ⟨m.toNat, by omega⟩
    have HR := Lib.hid (runs_any m (by omega) (by omega) x w hx hn)
    obtain ⟨A, n, c, xl⟩ := x
    simp only [Row.v] at *
    clear hx
    go_enter Try.func33, Try.ntmps33
    go_wp2_with fail
    refine HR.out.mono ?_; rintro e w1 ⟨K, v, rs, _, _, rfl, hat, _⟩
    have HB := Lib.hid hat.bel
    clear hat HR
    go_wp2_with fail
    refine (passes_not fan hf _ _).mono ?_; rintro e w2 ⟨rfl, hb2⟩
    go_wp2
    refine bodyPost_ret (v := .tuple #[.slice none 0 0, .int .i64 2]) (by kernel_rfl) rfl ⟨rfl, HB.out.trans hb2⟩

end Go.Proofs.Ytelnhhbefdfeoaa
