/- Walk of run.Sort. -/
import Derived.Test.YtnekknemjhlgdaaRunP
import Derived.Test.YtnekknemjhlgdaaRunA
import Derived.Test.YtnekknemjhlgdaaOwnSet
namespace Go.Proofs.Ytnekknemjhlgdaa
open Go.RowKit
set_option linter.unusedVariables false
attribute [local go_sem] fct_get0

/-- A row while a fact is put in. -/
def mid (L : List Fct) (i k : Nat) (x : Fct) : List Fct := L.take k ++ x :: ((L.take i).drop k ++ L.drop (i + 1))
theorem mid_start {L : List Fct} {i : Nat} {f : Fct} (h : L[i]? = some f) : mid L i i f = L := by
  obtain ⟨hi, rfl⟩ := List.getElem?_eq_some_iff.1 h
  unfold mid
  rw [List.drop_of_length_le (by rw [List.length_take]; omega), List.nil_append, ← List.drop_eq_getElem_cons hi, List.take_append_drop]
theorem mid_set {L : List Fct} {i k : Nat} {x y : Fct} (hk : k ≤ L.length) : (mid L i k x).set k y = mid L i k y := by
  unfold mid
  rw [List.set_append_right _ _ (by rw [List.length_take]; omega), List.length_take, Nat.min_eq_left hk, Nat.sub_self, List.set_cons_zero]
theorem mid_shift {L : List Fct} {i k : Nat} {y : Fct} (h : L[k]? = some y) (hk : k < i) : mid L i (k + 1) y = mid L i k y := by
  obtain ⟨hl, rfl⟩ := List.getElem?_eq_some_iff.1 h
  unfold mid
  rw [List.take_succ_eq_append_getElem hl]
  have : (L.take i).drop k = L[k] :: (L.take i).drop (k + 1) := by
    rw [List.drop_eq_getElem_cons (by rw [List.length_take]; omega), List.getElem_take]
  rw [this]
  simp only [List.append_assoc, List.cons_append, List.nil_append]
theorem mid_get {L : List Fct} {i k : Nat} {x : Fct} (hk : k < L.length) : (mid L i (k + 1) x)[k]? = L[k]? := by
  unfold mid
  rw [List.getElem?_append_left (by rw [List.length_take]; omega), List.getElem?_take_of_lt (by omega)]
theorem mid_len {L : List Fct} {i k : Nat} {x : Fct} (hi : i < L.length) (hk : k ≤ i) : (mid L i k x).length = L.length := by
  unfold mid
  simp
  omega
theorem mid_take {L : List Fct} {i k : Nat} {f : Fct} (hi : i < L.length) (hk : k ≤ i) : (mid L i k f).take (i + 1) = L.take k ++ f :: (L.take i).drop k := by
  unfold mid
  rw [show L.take k ++ f :: ((L.take i).drop k ++ L.drop (i + 1)) = (L.take k ++ f :: (L.take i).drop k) ++ L.drop (i + 1) by simp]
  rw [List.take_append_of_le_length (by simp; omega), List.take_of_length_le (by simp; omega)]
theorem mid_drop {L : List Fct} {i k : Nat} {f : Fct} (hi : i < L.length) (hk : k ≤ i) : (mid L i k f).drop (i + 1) = L.drop (i + 1) := by
  unfold mid
  rw [show L.take k ++ f :: ((L.take i).drop k ++ L.drop (i + 1)) = (L.take k ++ f :: (L.take i).drop k) ++ L.drop (i + 1) by simp]
  rw [List.drop_append_of_le_length (by simp; omega), List.drop_of_length_le (by simp; omega), List.nil_append]
theorem cons_take (L : List Fct) (i : Nat) : cons (L.take i) = (cons L).take i := by unfold cons; rw [List.map_take]
theorem cons_drop (L : List Fct) (i : Nat) : cons (L.drop i) = (cons L).drop i := by unfold cons; rw [List.map_drop]
theorem cons_app (L M : List Fct) : cons (L ++ M) = cons L ++ cons M := by unfold cons; rw [List.map_append]
theorem mid_ins {L : List Fct} {i k : Nat} {f : Fct} (hi : i < L.length) (hk : k = posFrom f.con (cons (L.take i)) i) : cons ((mid L i k f).take (i + 1)) = insC f.con (cons (L.take i)) := by
  have hki : k ≤ i := by rw [hk]; exact posFrom_le _ _ _
  have hl : (cons (L.take i)).length = i := by rw [cons_len, List.length_take]; omega
  rw [mid_take hi hki]
  unfold insC
  rw [hl, ← hk, cons_app]
  have e1 : cons (L.take k) = (cons (L.take i)).take k := by rw [← cons_take, List.take_take, Nat.min_eq_left hki]
  have e2 : cons (f :: (L.take i).drop k) = f.con :: (cons (L.take i)).drop k := by rw [← cons_drop]; rfl
  rw [e1, e2]

theorem Gath.set {w0 w w' : World} {g n c : Nat} {M : List Fct} {k : Nat} {f : Fct} (h : Gath w0 w (.slice (some ⟨g, 0, none⟩) n c) M) (hn : n = M.length) (ho : w'.ownsRow w0.heap.size 174 11 (.slice (some ⟨g, 0, none⟩) n c) n ((M.set k f).flatMap Cel.cells)) (hg : w.grownBy w' (some g))
    (hf : f.ok w) (hA : Away (.slice (some ⟨g, 0, none⟩) n c) f) (hN : 0 < f.ks.n → ∀ ad, f.ks.A = some ad → w0.heap.size ≤ ad.block) : Gath w0 w' (.slice (some ⟨g, 0, none⟩) n c) (M.set k f) := by
  have hall : ∀ x ∈ M.set k f, x.ok w ∧ Away (.slice (some ⟨g, 0, none⟩) n c) x ∧ (0 < x.ks.n → ∀ ad, x.ks.A = some ad → w0.heap.size ≤ ad.block) := fun x hx => by
    rcases List.mem_or_eq_of_mem_set hx with h1 | rfl
    · exact ⟨h.ok x h1, h.away x h1, h.new x h1⟩
    · exact ⟨hf, hA, hN⟩
  exact ⟨h.bel.grownAt hg (own_ge h.own rfl), by rw [List.length_set, ← hn]; exact ho, fun x hx => ⟨(hall x hx).1.ks.grown hg (hall x hx).2.1, (hall x hx).1.ag⟩, fun x hx => (hall x hx).2.1, fun x hx => (hall x hx).2.2⟩

def SortPost (l : List Fct) (w : World) (e : Ending) (w' : World) : Prop := ∃ v fs, e = .returned v ∧ Gath w w' v fs ∧ cons fs = sortC (cons l)

set_option maxRecDepth 100000 in
set_option maxHeartbeats 1000000 in
theorem sort_any (x : Row Fct) (w : World) (hx : x.ok w) (hn : x.n ≤ 1000) :
    Calls Try.prog 176 #[x.v] w (SortPost x.l w) := by
  have hlen : Hid (x.l.length = x.n) := hx.len
  have Hx := Lib.hid hx
  clear hx
  obtain ⟨A, n, c0, l⟩ := x
  simp only [Row.v] at *
  go_enter Try.func176, Try.ntmps176
  go_wp2_with fail
  refine (clone_any ⟨A, n, c0, l⟩ _ Hx.out (by simp only; omega)).mono ?_
  rintro e w1 ⟨v, fs, rfl, hG, hcons⟩
  have Hcons := Lib.hid hcons
  have Hfl : Hid (fs.length = n) := by
    have h1 := congrArg List.length hcons
    rw [cons_len, cons_len] at h1
    have h2 : l.length = n := hlen.out
    exact h1.trans h2
  clear hcons
  by_cases hn1 : n ≤ 1
  · have HR : Hid (cons fs = sortC (cons l)) := by
      show _ = _
      have h1 : cons fs = cons l := Hcons.out
      rw [← h1, sortC_one _ (by rw [cons_len, Hfl.out]; exact hn1)]
    have hown := hG.own
    rw [Hfl.out] at hown
    obtain ⟨A2, c2, rfl, _⟩ := own_slice hown
    have HG := Lib.hid hG
    clear hG hown
    go_wp2
    refine wp_loop_rounds 1 ?_
    rw [rounds_succ]
    go_wp2
    go_ret
    exact ⟨_, fs, rfl, HG.out, HR.out⟩
  · obtain ⟨g, c, rfl⟩ : ∃ g c, v = .slice (some ⟨g, 0, none⟩) n c := by
      rcases hG.own.2 with ⟨_, h0⟩ | ⟨g, cap, cur, hv, _⟩
      · have := Hfl.out; omega
      · exact ⟨g, cap, by rw [hv, Hfl.out]⟩
    have H1 : Hid (cons (fs.take 1) = sortC ((cons l).take 1)) := by
      show _ = _
      have h1 : cons fs = cons l := Hcons.out
      rw [cons_take, h1, sortC_one _ (by rw [List.length_take]; omega)]
    go_wp2
    go_loopg [4] (n - 1) (fun gg s4 wr => ∃ (i : Nat) (L : List Fct), gg = n - i ∧ 1 ≤ i ∧ i ≤ n ∧ s4 = .int .i64 i ∧ Gath w wr (.slice (some ⟨g, 0, none⟩) n c) L ∧ Hid (L.length = n) ∧ Hid (cons (L.take i) = sortC ((cons l).take i)) ∧ Hid (cons (L.drop i) = (cons l).drop i))
    case atStart => exact ⟨1, fs, rfl, by omega, by omega, rfl, hG, Hfl, H1, by show _ = _; have h1 : cons fs = cons l := Hcons.out; rw [cons_drop, h1]⟩
    case round =>
      clear hG H1
      obtain ⟨i, L, hgk, hi1, hin, rfl, hG, hLn, hS, hD⟩ := hrel
      have Hgk := Lib.hid hgk
      clear hgk
      by_cases hlt : i < n
      · obtain ⟨f, Hf⟩ : ∃ f, Hid (L[i]? = some f) := ⟨L[i]'(by have := hLn.out; omega), by show _ = _; exact List.getElem?_eq_getElem _⟩
        have hownL : wr.ownsRow w.heap.size 174 11 (.slice (some ⟨g, 0, none⟩) n c) n (L.flatMap Cel.cells) := by have := hG.own; rw [hLn.out] at this; exact this
        obtain ⟨hrf, hgl⟩ := own_range (α := Fct) hownL Hf.out
        have b5 := Blk.new wr 174 f.cs
        have hne : wr.heap.size ≠ g := by omega
        have hG1 := hG.keep ((Bel.refl wr).alloc (.cells f.cs 174))
        have Hfm : Hid (f ∈ L) := List.mem_of_getElem? Hf.out
        have Hmid := Lib.hid (mid_start Hf.out)
        have HfA : Hid (Away (.slice (some ⟨g, 0, none⟩) n c) f) := hG.away f Hfm.out
        have HfN : Hid (0 < f.ks.n → ∀ ad, f.ks.A = some ad → w.heap.size ≤ ad.block) := hG.new f Hfm.out
        have hfo := hG1.ok f Hfm.out
        rw [← Hmid.out] at hG1
        have HG1 := Lib.hid hG1
        have Hfo1 := Lib.hid hfo
        have Hb5 := Lib.hid b5
        clear hG hownL hfo hG1 b5
        have hrf' : wr.rangeAt g (i * 11) f.cs.toList := hrf
        clear hrf
        go_wp2_with (first
          | ((with_reducible show wpList _ _ _ (⟨some 18, _, _, _, _, _⟩ :: _) _ _); refine wpList_load_row_at rfl rowFct (.tmp 17) rfl g (i * 11) rfl f.cs rfl hrf' ?_)
          | ((with_reducible show wpList _ _ _ (⟨_, .store _ (.tmp 5) _, _, _, _, _⟩ :: _) _ _); refine wpList_store_new rfl rowFct (.tmp 5) (.tmp 18) rfl rfl rfl f.cs rfl rfl (fct_one _) ?_))
        generalize wr.alloc (.cells f.cs 174) = W at *
        generalize wr.heap.size = g5 at *
        obtain ⟨wo, rfl⟩ : ∃ wo : World, wo = wr := ⟨_, rfl⟩
        go_loopg [6] i (fun gg s6 wx => ∃ (k : Nat) (x : Fct), gg = k ∧ k ≤ i ∧ s6 = .int .i64 k ∧ Gath w wx (.slice (some ⟨g, 0, none⟩) n c) (mid L i k x) ∧ Blk wx g5 174 f.cs ∧ f.ok wx ∧ Hid (posFrom f.con (cons (L.take i)) i = posFrom f.con (cons (L.take i)) k))
        case atStart => exact ⟨i, f, rfl, by omega, rfl, HG1.out, Hb5.out, Hfo1.out, rfl⟩
        case round =>
          clear HG1 Hb5 Hfo1 hrf' hgl
          obtain ⟨k0, xx, hgj, hk, rfl, hG, b5, hfo, hP⟩ := hrel
          have Hgj := Lib.hid hgj
          have Hfo := Lib.hid hfo
          clear hgj hfo
          have hLl : Hid (i < L.length) := by rw [hLn.out]; exact hlt
          cases k0 with
          | zero =>
            have hK : Hid (0 = posFrom f.con (cons (L.take i)) i) := by show _ = _; rw [hP.out]; rfl
            have HML : Hid (n = (mid L i 0 xx).length) := by show _ = _; rw [mid_len hLl.out (by omega)]; exact hLn.out.symm
            have hownM : wr.ownsRow w.heap.size 174 11 (.slice (some ⟨g, 0, none⟩) n c) n ((mid L i 0 xx).flatMap Cel.cells) := by have := hG.own; rw [← HML.out] at this; exact this
            have HR1 : Hid (cons ((mid L i (0) f).take (i + 1)) = sortC ((cons l).take (i + 1))) := by
              show _ = _
              rw [mid_ins hLl.out hK.out, hS.out]
              have h1 : cons (L.drop i) = (cons l).drop i := hD.out
              have h2 : ((cons l).drop i)[0]? = some f.con := by rw [← h1]; exact cons_get (by rw [List.getElem?_drop]; exact Hf.out)
              rw [List.getElem?_drop, Nat.add_zero] at h2
              rw [List.take_add_one, h2]
              exact (sortC_snoc _ _).symm
            have HR2 : Hid (cons ((mid L i (0) f).drop (i + 1)) = (cons l).drop (i + 1)) := by
              show _ = _
              have h1 : cons (L.drop i) = (cons l).drop i := hD.out
              rw [mid_drop hLl.out (by omega)]
              have h2 := congrArg (List.drop 1) h1
              rw [← cons_drop, List.drop_drop, List.drop_drop] at h2
              exact h2
            have HR3 : Hid ((mid L i (0) f).length = n) := by show _ = _; rw [mid_len hLl.out (by omega)]; exact hLn.out
            clear hP
            have d0 : decide ((0 : Int) < 0) = false := rfl
            go_wp2_with fail
            go_quiet (fail)
            go_wp2_with (first
              | ((with_reducible show wpList _ _ _ (⟨some 44, _, _, _, _, _⟩ :: _) _ _); refine wpList_load_blkG (by first | rfl | go_simp) rowFct (.tmp 5) (by rfl) g5 (by rfl) (b5.drewN _) rfl ?_)
              | ((with_reducible show wpList _ _ _ (⟨_, .store _ (.tmp 45) _, _, _, _, _⟩ :: _) _ _); refine wpList_store_own (α := Fct) rfl rowFct (.tmp 45) (.tmp 44) rfl rfl (0) rfl (own_bel hownM (Bel.drewN (Bel.refl _) _)) (by omega) f f.cs rfl rfl (fct_one _) ?_; intro w9 hown9 hg9))
            rw [mid_set (by have := hLl.out; omega)] at hown9
            have hG9 := (hG.keep (Bel.drewN (Bel.refl _) _)).set (k := 0) (f := f) HML.out (by rw [mid_set (by have := hLl.out; omega)]; exact hown9) hg9 ⟨Hfo.out.ks.mono (Bel.drewN (Bel.refl _) _), Hfo.out.ag⟩ HfA.out HfN.out
            rw [mid_set (by have := hLl.out; omega)] at hG9
            have HG9 := Lib.hid hG9
            clear hG9 hown9 hg9
            go_wp2
            go_roundg (n - (i + 1))
            case rel => exact ⟨i + 1, mid L i (0) f, rfl, by omega, by omega, by go_num, HG9.out, HR3, HR1, HR2⟩
            case measure => rw [Hgk.out]; omega
          | succ k =>
            obtain ⟨y, Hy⟩ : ∃ y, Hid (L[k]? = some y) := ⟨L[k]'(by have := hLl.out; omega), by show _ = _; exact List.getElem?_eq_getElem _⟩
            have hMy : (mid L i (k + 1) xx)[k]? = some y := by rw [mid_get (by have := hLl.out; omega)]; exact Hy.out
            have HML : Hid (n = (mid L i (k + 1) xx).length) := by show _ = _; rw [mid_len hLl.out hk]; exact hLn.out.symm
            have hownM : wr.ownsRow w.heap.size 174 11 (.slice (some ⟨g, 0, none⟩) n c) n ((mid L i (k + 1) xx).flatMap Cel.cells) := by have := hG.own; rw [← HML.out] at this; exact this
            obtain ⟨hry0, hgl⟩ := own_range (α := Fct) hownM hMy
            have hry : wr.rangeAt g (k * 11) y.cs.toList := hry0
            have hr5 := b5.range
            have h5l := b5.lt
            have Hym : Hid (y ∈ mid L i (k + 1) xx) := List.mem_of_getElem? hMy
            have Hyo : Hid (y.ok wr) := hG.ok y Hym.out
            clear hMy hry0
            have hrange := cmpK_range y.ks.l f.ks.l
            have hsw := cmpK_swap y.ks.l f.ks.l
            obtain ⟨r, HC⟩ : ∃ r, Hid (cmpK y.ks.l f.ks.l = r) := ⟨_, rfl⟩
            have HLs : Hid (lessC f.con y.con = (r == 1)) := by
              show lessK f.ks.l y.ks.l = _
              unfold lessK
              rw [hsw, HC.out, Bool.eq_iff_iff, beq_iff_eq, beq_iff_eq]
              omega
            rw [HC.out] at hrange
            have HPS : Hid (posFrom f.con (cons (L.take i)) (k + 1) = if (r == 1) = true then posFrom f.con (cons (L.take i)) k else k + 1) := by
              show _ = _
              rw [posFrom]
              have hg' : (cons (L.take i))[k]? = some y.con := cons_get (by rw [List.getElem?_take_of_lt (by omega)]; exact Hy.out)
              rw [hg']
              simp only [Option.any_some, HLs.out]
            clear hsw HLs
            have d1 : decide (0 < ((k : Int) + 1)) = true := by rw [decide_eq_true_eq]; omega
            have w1 : IntKind.i64.wrap ((k : Int) + 1 - 1) = (k : Int) := by rw [show (k : Int) + 1 - 1 = k by omega]; exact IntWalk.i64_in _ (by omega)
            by_cases hr : 0 < r
            · have hr1 : r = 1 := by omega
              have HPK : Hid (posFrom f.con (cons (L.take i)) i = posFrom f.con (cons (L.take i)) k) := by show _ = _; rw [hP.out, HPS.out, hr1]; rfl
              have d2 : decide (0 < r) = true := by simp; omega
              clear hP HPS hrange hr1
              go_wp2_with fail
              refine wp_region_over (by kernel_rfl) (by kernel_rfl) ?_
              repeat (first
                | ((with_reducible show wpQuiet _ _ _ _ (⟨some 27, _, _, _, _, _⟩ :: _) _); refine wpQuiet_load_row rfl rowFct (.tmp 26) rfl g (k * 11) rfl y.cs rfl hgl hry ?_; simp only [Act.put, List.setIfInBounds_toArray, List.set_cons_zero, List.set_cons_succ])
                | ((with_reducible show wpQuiet _ _ _ _ (⟨some 28, _, _, _, _, _⟩ :: _) _); refine wpQuiet_load_row rfl rowFct (.tmp 5) rfl g5 (0) rfl f.cs rfl h5l hr5 ?_; simp only [Act.put, List.setIfInBounds_toArray, List.set_cons_zero, List.set_cons_succ])
                | go_big_quiet_step (((go_at_call 109; exact calls_over (fcompare_val HC.out (Hyo.out.over _) (Hfo.out.over _))))))
              refine wpQuiet_nil ?_
              rintro _ ⟨u, rfl⟩
              have hGu := hG.keep u.bel
              have hownU := own_bel hownM u.bel
              have hryU := rangeAt_bel hgl hry u.bel
              have b5U := b5.bel u.bel
              have HfoU : Hid (f.ok u.wd) := Hfo.out.over u
              clear hG hownM hry b5 Hyo Hfo hr5 h5l
              have HyA : Hid (Away (.slice (some ⟨g, 0, none⟩) n c) y) := hGu.away y Hym.out
              have HyN : Hid (0 < y.ks.n → ∀ ad, y.ks.A = some ad → w.heap.size ≤ ad.block) := hGu.new y Hym.out
              have HyoU : Hid (y.ok u.wd) := hGu.ok y Hym.out
              go_wp2_with (first
                | ((with_reducible show wpList _ _ _ (⟨some 40, _, _, _, _, _⟩ :: _) _ _); refine wpList_load_row_at rfl rowFct (.tmp 39) rfl g (k * 11) rfl y.cs rfl hryU ?_)
                | ((with_reducible show wpList _ _ _ (⟨_, .store _ (.tmp 41) _, _, _, _, _⟩ :: _) _ _); refine wpList_store_own (α := Fct) rfl rowFct (.tmp 41) (.tmp 40) rfl rfl (k + 1) rfl hownU (by omega) y y.cs rfl rfl (fct_one _) ?_; intro w9 hown9 hg9))
              rw [mid_set (by have := hLl.out; omega)] at hown9
              have hG9 := hGu.set (k := k + 1) (f := y) HML.out (by rw [mid_set (by have := hLl.out; omega)]; exact hown9) hg9 HyoU.out HyA.out HyN.out
              rw [mid_set (by have := hLl.out; omega), mid_shift Hy.out (by omega)] at hG9
              have b59 := b5U.grown hg9 (by simpa using hne)
              have Hfo9 : Hid (f.ok w9) := ⟨HfoU.out.ks.grown hg9 HfA.out, HfoU.out.ag⟩
              have HG9 := Lib.hid hG9
              clear hG9 hown9 hg9 hGu hownU
              go_wp2
              go_roundg k
              case rel => exact ⟨k, y, rfl, by omega, by go_num, HG9.out, b59, Hfo9.out, HPK⟩
              case measure => rw [Hgj.out]; omega
            · have hK : Hid (k + 1 = posFrom f.con (cons (L.take i)) i) := by
                show _ = _
                rw [hP.out, HPS.out, if_neg (by simp; omega)]
              have d2 : decide (0 < r) = false := by simp; omega
              have HR1 : Hid (cons ((mid L i (k + 1) f).take (i + 1)) = sortC ((cons l).take (i + 1))) := by
                show _ = _
                rw [mid_ins hLl.out hK.out, hS.out]
                have h1 : cons (L.drop i) = (cons l).drop i := hD.out
                have h2 : ((cons l).drop i)[0]? = some f.con := by rw [← h1]; exact cons_get (by rw [List.getElem?_drop]; exact Hf.out)
                rw [List.getElem?_drop, Nat.add_zero] at h2
                rw [List.take_add_one, h2]
                exact (sortC_snoc _ _).symm
              have HR2 : Hid (cons ((mid L i (k + 1) f).drop (i + 1)) = (cons l).drop (i + 1)) := by
                show _ = _
                have h1 : cons (L.drop i) = (cons l).drop i := hD.out
                rw [mid_drop hLl.out (by omega)]
                have h2 := congrArg (List.drop 1) h1
                rw [← cons_drop, List.drop_drop, List.drop_drop] at h2
                exact h2
              have HR3 : Hid ((mid L i (k + 1) f).length = n) := by show _ = _; rw [mid_len hLl.out (by omega)]; exact hLn.out
              clear hP HPS hrange
              go_wp2_with fail
              refine wp_region_over (by kernel_rfl) (by kernel_rfl) ?_
              repeat (first
                | ((with_reducible show wpQuiet _ _ _ _ (⟨some 27, _, _, _, _, _⟩ :: _) _); refine wpQuiet_load_row rfl rowFct (.tmp 26) rfl g (k * 11) rfl y.cs rfl hgl hry ?_; simp only [Act.put, List.setIfInBounds_toArray, List.set_cons_zero, List.set_cons_succ])
                | ((with_reducible show wpQuiet _ _ _ _ (⟨some 28, _, _, _, _, _⟩ :: _) _); refine wpQuiet_load_row rfl rowFct (.tmp 5) rfl g5 (0) rfl f.cs rfl h5l hr5 ?_; simp only [Act.put, List.setIfInBounds_toArray, List.set_cons_zero, List.set_cons_succ])
                | go_big_quiet_step (((go_at_call 109; exact calls_over (fcompare_val HC.out (Hyo.out.over _) (Hfo.out.over _))))))
              refine wpQuiet_nil ?_
              rintro _ ⟨u, rfl⟩
              have hGu := hG.keep u.bel
              have hownU := own_bel hownM u.bel
              have b5U := b5.bel u.bel
              have HfoU : Hid (f.ok u.wd) := Hfo.out.over u
              clear hG hownM hry b5 Hyo Hfo hr5 h5l
              go_wp2_with (first
                | ((with_reducible show wpList _ _ _ (⟨some 44, _, _, _, _, _⟩ :: _) _ _); refine wpList_load_blkG (by first | rfl | go_simp) rowFct (.tmp 5) (by rfl) g5 (by rfl) b5U rfl ?_)
                | ((with_reducible show wpList _ _ _ (⟨_, .store _ (.tmp 45) _, _, _, _, _⟩ :: _) _ _); refine wpList_store_own (α := Fct) rfl rowFct (.tmp 45) (.tmp 44) rfl rfl (k + 1) rfl hownU (by omega) f f.cs rfl rfl (fct_one _) ?_; intro w9 hown9 hg9))
              rw [mid_set (by have := hLl.out; omega)] at hown9
              have hG9 := (hGu).set (k := k + 1) (f := f) HML.out (by rw [mid_set (by have := hLl.out; omega)]; exact hown9) hg9 HfoU.out HfA.out HfN.out
              rw [mid_set (by have := hLl.out; omega)] at hG9
              have HG9 := Lib.hid hG9
              clear hG9 hown9 hg9
              go_wp2
              go_roundg (n - (i + 1))
              case rel => exact ⟨i + 1, mid L i (k + 1) f, rfl, by omega, by omega, by go_num, HG9.out, HR3, HR1, HR2⟩
              case measure => rw [Hgk.out]; omega
      · obtain rfl : i = n := by omega
        have HR : Hid (cons L = sortC (cons l)) := by
          show _ = _
          have h1 := hS.out
          have h2 : l.length = i := hlen.out
          rw [List.take_of_length_le (by rw [hLn.out]; exact Nat.le_refl _), List.take_of_length_le (by rw [cons_len]; omega)] at h1
          exact h1
        have HG := Lib.hid hG
        clear hG hS hD
        go_wp2
        go_ret
        exact ⟨_, L, rfl, HG.out, HR.out⟩

end Go.Proofs.Ytnekknemjhlgdaa
