/- Walk of the document's Sort. -/
import Derived.Test.YtnekknemjhlgdaaRunB
namespace Go.Proofs.Ytnekknemjhlgdaa
open Go.RowKit
set_option linter.unusedVariables false
attribute [local go_sem] fct_get0

theorem own_baseC {w : World} {base base' : Nat} {e : TypeId} {size n : Nat} {v : Value} {xs : List Value} (h : w.ownsRow base e size v n xs) (hb : base' ≤ base) : w.ownsRow base' e size v n xs := by
  refine ⟨h.1, ?_⟩
  rcases h.2 with h0 | ⟨g, cap, cur, h1, h2, h3⟩
  · exact .inl h0
  · exact .inr ⟨g, cap, cur, h1, Nat.le_trans hb h2, h3⟩
/-- A row of facts in new memory, whose tuples lie where they lay. -/
structure Kept (w0 w : World) (v : Value) (L : List Fct) : Prop where
  bel : Bel w0 w
  own : w.ownsRow w0.heap.size 174 11 v L.length (L.flatMap Cel.cells)
  ok : ∀ f ∈ L, f.ok w0
theorem Kept.keep {w0 w w' : World} {v : Value} {L : List Fct} (h : Kept w0 w v L) (hb : Bel w w') : Kept w0 w' v L := ⟨h.bel.trans hb, own_bel h.own hb, h.ok⟩
theorem Kept.row {w0 w : World} {v : Value} {fs : List Fct} (h : Kept w0 w v fs) (hn : fs.length ≤ 1000) : ∃ x : Row Fct, v = x.v ∧ x.ok w ∧ x.l = fs ∧ x.n = fs.length := by
  have hcap := own_cap h.own
  have hr : ∀ A c, v = .slice A fs.length c → Rd w 11 A fs.length (fs.flatMap Cel.cells) := fun A c e => by have := h.own; rw [e] at this; exact Rd.of_own this
  obtain ⟨A, c, rfl, hc⟩ := own_slice h.own
  exact ⟨⟨A, fs.length, c, fs⟩, rfl, ⟨hr A c rfl, fun f hf => Cel.mono h.bel (h.ok f hf), hc, hcap A c rfl, by simp only [Cel.bytes]; omega⟩, rfl, rfl⟩
theorem fct_cells_one (L : List Fct) : ∀ u ∈ L.flatMap Cel.cells, u.oneCell' = true := fun u hu => by
  obtain ⟨f, _, hf⟩ := List.mem_flatMap.1 hu
  exact (Array.all_eq_true_iff_forall_mem.1 (fct_one f)) u (by simpa [Cel.cells] using hf)
def RSortPost (l : List Fct) (w : World) (e : Ending) (w' : World) : Prop := ∃ v fs, e = .returned v ∧ Kept w w' v fs ∧ cons fs = sortC (cons l)

set_option maxRecDepth 100000 in
set_option maxHeartbeats 1000000 in
theorem rsort_any (x : Row Fct) (w : World) (hx : x.ok w) (hn : x.n ≤ 1000) :
    Calls Try.prog 40 #[x.v] w (RSortPost x.l w) := by
  have hlen : Hid (x.l.length = x.n) := hx.len
  have Hx := Lib.hid hx
  clear hx
  obtain ⟨A, n, c0, l⟩ := x
  simp only [Row.v] at *
  have hbs : ∀ w : World, (Instr.buildSlice 75 0 #[]).run Try.prog w = .ok (.slice (some ⟨w.heap.size, 0, none⟩) 0 0) (w.alloc (.cells #[] 174)) := fun _ => by kernel_rfl
  have Hbs := Lib.hid hbs
  clear hbs
  go_enter Try.func40, Try.ntmps40
  go_wp2
  go_loopg [3, 10] n (fun gg s3 i wr => ∃ (k : Nat) (L : List Fct), gg = n - k ∧ k ≤ n ∧ i = .int .i64 k ∧ Kept w wr s3 L ∧ Hid (L.length = k) ∧ Hid (cons L = sortC ((cons l).take k)))
  case atStart => exact ⟨0, [], rfl, by omega, rfl, ⟨Bel.refl _, ⟨rfl, .inl ⟨rfl, rfl⟩⟩, by simp⟩, rfl, rfl⟩
  case round =>
    obtain ⟨k, L, hgk, hk, rfl, hK, hLn, hS⟩ := hrel
    have Hgk := Lib.hid hgk
    clear hgk
    by_cases hlt : k < n
    · obtain ⟨b, o, f, rfl, hb, hf, hfo, _, hrf, _⟩ := (Hx.out.mono hK.bel).fct hlt
      have Hf := Lib.hid hf
      have Hfw : Hid (f.ok w) := Hx.out.all f (List.mem_of_getElem? hf)
      clear hf hfo
      obtain ⟨A3, c3, rfl, hc3⟩ := own_slice hK.own
      rw [hLn.out] at hc3
      have hK1 := hK.keep ((Bel.refl wr).alloc (.cells f.cs 174))
      have b5 := Blk.new wr 174 f.cs
      rw [hLn.out]
      rw [hLn.out] at hK1
      clear hK
      go_wp2_with (first
        | ((with_reducible show wpList _ _ _ (⟨some 13, _, _, _, _, _⟩ :: _) _ _); refine wpList_load_row_at rfl rowFct (.tmp 12) rfl b (o + k * 11) rfl f.cs rfl hrf ?_)
        | ((with_reducible show wpList _ _ _ (⟨_, .store _ (.tmp 5) _, _, _, _, _⟩ :: _) _ _); refine wpList_store_new rfl rowFct (.tmp 5) (.tmp 13) rfl rfl rfl f.cs rfl rfl (fct_one _) ?_))
      generalize wr.alloc (.cells f.cs 174) = W at *
      generalize wr.heap.size = g5 at *
      obtain ⟨wo, rfl⟩ : ∃ wo : World, wo = wr := ⟨_, rfl⟩
      go_loopg [6] k (fun gg s6 wx => ∃ j : Nat, gg = j ∧ j ≤ k ∧ s6 = .int .i64 j ∧ Bel W wx ∧ Hid (posFrom f.con (cons L) k = posFrom f.con (cons L) j))
      case atStart => exact ⟨k, rfl, by omega, rfl, Bel.refl _, rfl⟩
      case round =>
        obtain ⟨j0, hgj, hj, rfl, hB, hP⟩ := hrel
        have Hgj := Lib.hid hgj
        clear hgj
        have hK2 := hK1.keep hB
        have b5x := b5.bel hB
        cases j0 with
        | zero =>
          have hPos : Hid (0 = posFrom f.con (cons L) k) := by show _ = _; rw [hP.out]; rfl
          clear hP
          have d0 : decide ((0 : Int) < 0) = false := rfl
          go_wp2_with fail
          go_quiet (fail)
          obtain ⟨Wc, hWc⟩ : ∃ Wc : World, Wc = wr.drewN nq := ⟨_, rfl⟩
          have HBc : Hid (Bel W Wc) := by rw [hWc]; exact hB.drewN _
          rw [← hWc]
          clear hWc
          have HR : Hid (cons (L.take (0) ++ f :: L.drop (0)) = sortC ((cons l).take (k + 1))) := by
            show _ = _
            have h2 : (cons l)[k]? = some f.con := cons_get Hf.out
            have h3 : (cons l).take (k + 1) = (cons l).take k ++ [f.con] := by rw [List.take_add_one, h2]; rfl
            rw [h3]
            refine Eq.trans ?_ (sortC_snoc _ _).symm
            rw [← hS.out]
            unfold insC
            rw [cons_len, hLn.out, ← hPos.out, cons_app]
            have e1 : cons (L.take (0)) = (cons L).take (0) := cons_take _ _
            have e2 : cons (f :: L.drop (0)) = f.con :: (cons L).drop (0) := by rw [← cons_drop]; rfl
            rw [e1, e2]
          have HRn : Hid ((L.take (0) ++ f :: L.drop (0)).length = k + 1) := by show _ = _; rw [List.length_append, List.length_cons, List.length_take, List.length_drop, hLn.out]; omega
          have HRo : Hid (∀ a ∈ L.take (0) ++ f :: L.drop (0), a.ok w) := fun a ha => by
            rcases List.mem_append.1 ha with h | h
            · exact hK1.ok a (List.mem_of_mem_take h)
            · rcases List.mem_cons.1 h with rfl | h
              · exact Hfw.out
              · exact hK1.ok a (List.mem_of_mem_drop h)
          have hKW := hK1.keep HBc.out
          have b5W := b5.bel HBc.out
          have rd0 : Rd (Wc) 11 A3 k (L.flatMap Cel.cells) := by have := hKW.own; rw [hLn.out] at this; exact Rd.of_own this
          have rdP : Rd (Wc) 11 A3 (0) ((L.take (0)).flatMap Cel.cells) := by have := rd0.take (k := 0) (by omega); rwa [show (0) * 11 = (0) * Cel.size Fct from rfl, flat_take] at this
          have rdQ := rd0
          have hown0 : ((Wc).alloc (.cells #[] 174)).ownsRow (Wc).heap.size 174 11 (.slice (some ⟨(Wc).heap.size, 0, none⟩) 0 0) 0 [] := ⟨rfl, .inr ⟨(Wc).heap.size, 0, #[], rfl, Nat.le_refl _, heap_alloc_new _ _, Nat.le_refl _, Nat.zero_le _, rfl, rfl⟩⟩
          have HwB : Hid (Bel w (Wc)) := hKW.bel
          clear hKW hS
          have hbs := Hbs.out
          by_cases hcp : c3 = 0
          · skip
            go_wp2_with (first
              | ((with_reducible show wpList _ _ _ (⟨some 33, _, _, _, _, _⟩ :: _) _ _); refine wpList_append1 rfl (.tmp 29) (.tmp 32) _ rfl E_fct Wc ((Bel.refl _).alloc _) _ (0) ([]) rfl hown0 _ (0) _ ((L.take (0)).flatMap Cel.cells) rfl (rdP.bel ((Bel.refl _).alloc _)) (fct_cells_one _) (by unfold maxLen; omega) (by omega) ?_; intro v7 w7 hown7 hB7 hg7 hat7; have b57 := b5W.bel hB7)
              | ((with_reducible show wpList _ _ _ (⟨some 35, _, _, _, _, _⟩ :: _) _ _); refine wpList_load_blkG (by first | rfl | go_simp) rowFct (.tmp 5) (by rfl) g5 (by rfl) b57 rfl ?_)
              | ((with_reducible show wpList _ _ _ (⟨some 36, _, _, _, _, _⟩ :: _) _ _); refine wpList_buildSlice1 rfl E_fct (.tmp 35) rfl f.cs rfl rfl (by omega) ?_)
              | ((with_reducible show wpList _ _ _ (⟨some 37, _, _, _, _, _⟩ :: _) _ _); refine wpList_append1 rfl (.tmp 34) (.tmp 36) _ rfl E_fct Wc (hB7.alloc _) v7 (0 + (0)) ([] ++ (L.take (0)).flatMap Cel.cells) rfl (hown7.alloc _) _ (1) _ (f.cs.toList) rfl (rd_new _ _ _ 1 11 rfl) (fun u hu => (Array.all_eq_true_iff_forall_mem.1 (fct_one f)) u (by simpa using hu)) (by unfold maxLen; omega) (by omega) ?_; intro v8 w8 hown8 hB8 hg8 hat8)
              | ((with_reducible show wpList _ _ _ (⟨some 42, _, _, _, _, _⟩ :: _) _ _); refine wpList_append1 rfl (.tmp 38) (.tmp 41) _ rfl E_fct Wc hB8 v8 (0 + (0) + 1) (([] ++ (L.take (0)).flatMap Cel.cells) ++ f.cs.toList) rfl hown8 _ (k) _ (L.flatMap Cel.cells) rfl (rdQ.bel hB8) (fct_cells_one _) (by unfold maxLen; omega) (by omega) ?_; intro v9 w9 hown9 hB9 hg9 hat9))
            have hown : w9.ownsRow w.heap.size 174 11 v9 (L.take (0) ++ f :: L.drop (0)).length ((L.take (0) ++ f :: L.drop (0)).flatMap Cel.cells) := by
              have h1 := own_baseC hown9 HwB.out.size
              rw [HRn.out, List.flatMap_append, List.flatMap_cons]
              have e1 : 0 + (0) + 1 + k = k + 1 := by omega
              rw [e1, List.nil_append, List.append_assoc] at h1
              exact h1
            have HKN : Hid (Kept w w9 v9 (L.take (0) ++ f :: L.drop (0))) := ⟨HwB.out.trans hB9, hown, HRo.out⟩
            clear hown hown9 hown8 hown7 hg7 hg8 hg9 hat7 hat8 hat9
            go_wp2
            go_roundg (n - (k + 1))
            case rel => exact ⟨k + 1, _, rfl, by omega, by go_num, HKN.out, HRn, HR⟩
            case measure => rw [Hgk.out]; omega
          · skip
            go_wp2_with (first
              | ((with_reducible show wpList _ _ _ (⟨some 33, _, _, _, _, _⟩ :: _) _ _); refine wpList_append1 rfl (.tmp 29) (.tmp 32) _ rfl E_fct Wc ((Bel.refl _).alloc _) _ (0) ([]) rfl hown0 _ (0) _ ((L.take (0)).flatMap Cel.cells) rfl (rdP.bel ((Bel.refl _).alloc _)) (fct_cells_one _) (by unfold maxLen; omega) (by omega) ?_; intro v7 w7 hown7 hB7 hg7 hat7; have b57 := b5W.bel hB7)
              | ((with_reducible show wpList _ _ _ (⟨some 35, _, _, _, _, _⟩ :: _) _ _); refine wpList_load_blkG (by first | rfl | go_simp) rowFct (.tmp 5) (by rfl) g5 (by rfl) b57 rfl ?_)
              | ((with_reducible show wpList _ _ _ (⟨some 36, _, _, _, _, _⟩ :: _) _ _); refine wpList_buildSlice1 rfl E_fct (.tmp 35) rfl f.cs rfl rfl (by omega) ?_)
              | ((with_reducible show wpList _ _ _ (⟨some 37, _, _, _, _, _⟩ :: _) _ _); refine wpList_append1 rfl (.tmp 34) (.tmp 36) _ rfl E_fct Wc (hB7.alloc _) v7 (0 + (0)) ([] ++ (L.take (0)).flatMap Cel.cells) rfl (hown7.alloc _) _ (1) _ (f.cs.toList) rfl (rd_new _ _ _ 1 11 rfl) (fun u hu => (Array.all_eq_true_iff_forall_mem.1 (fct_one f)) u (by simpa using hu)) (by unfold maxLen; omega) (by omega) ?_; intro v8 w8 hown8 hB8 hg8 hat8)
              | ((with_reducible show wpList _ _ _ (⟨some 42, _, _, _, _, _⟩ :: _) _ _); refine wpList_append1 rfl (.tmp 38) (.tmp 41) _ rfl E_fct Wc hB8 v8 (0 + (0) + 1) (([] ++ (L.take (0)).flatMap Cel.cells) ++ f.cs.toList) rfl hown8 _ (k) _ (L.flatMap Cel.cells) rfl (rdQ.bel hB8) (fct_cells_one _) (by unfold maxLen; omega) (by omega) ?_; intro v9 w9 hown9 hB9 hg9 hat9))
            have hown : w9.ownsRow w.heap.size 174 11 v9 (L.take (0) ++ f :: L.drop (0)).length ((L.take (0) ++ f :: L.drop (0)).flatMap Cel.cells) := by
              have h1 := own_baseC hown9 HwB.out.size
              rw [HRn.out, List.flatMap_append, List.flatMap_cons]
              have e1 : 0 + (0) + 1 + k = k + 1 := by omega
              rw [e1, List.nil_append, List.append_assoc] at h1
              exact h1
            have HKN : Hid (Kept w w9 v9 (L.take (0) ++ f :: L.drop (0))) := ⟨HwB.out.trans hB9, hown, HRo.out⟩
            clear hown hown9 hown8 hown7 hg7 hg8 hg9 hat7 hat8 hat9
            go_wp2
            go_roundg (n - (k + 1))
            case rel => exact ⟨k + 1, _, rfl, by omega, by go_num, HKN.out, HRn, HR⟩
            case measure => rw [Hgk.out]; omega
        | succ j =>
          obtain ⟨y, Hy⟩ : ∃ y, Hid (L[j]? = some y) := ⟨L[j]'(by have := hLn.out; omega), by show _ = _; exact List.getElem?_eq_getElem _⟩
          obtain ⟨gA, rfl⟩ : ∃ gA, A3 = some ⟨gA, 0, none⟩ := by
            rcases hK2.own.2 with ⟨_, h0⟩ | ⟨g', cap, cur, hv, _⟩
            · have := hLn.out; omega
            · injection hv with h1; exact ⟨g', h1⟩
          have hownX : wr.ownsRow w.heap.size 174 11 (.slice (some ⟨gA, 0, none⟩) k c3) k (L.flatMap Cel.cells) := by have := hK2.own; rw [hLn.out] at this; exact this
          obtain ⟨hry0, hgl⟩ := own_range (α := Fct) hownX Hy.out
          have hry : wr.rangeAt gA (j * 11) y.cs.toList := hry0
          have hr5 := b5x.range
          have h5l := b5x.lt
          have Hyo : Hid (y.ok wr) := ⟨(hK2.ok y (List.mem_of_getElem? Hy.out)).ks.mono hK2.bel, (hK2.ok y (List.mem_of_getElem? Hy.out)).ag⟩
          have HfoX : Hid (f.ok wr) := ⟨Hfw.out.ks.mono hK2.bel, Hfw.out.ag⟩
          have HPS : Hid (posFrom f.con (cons L) (j + 1) = if lessK f.ks.l y.ks.l = true then posFrom f.con (cons L) j else j + 1) := by
            show _ = _
            rw [posFrom, cons_get Hy.out]
            rfl
          clear hownX hry0
          have d1 : decide (0 < ((j : Int) + 1)) = true := by rw [decide_eq_true_eq]; omega
          have w1 : IntKind.i64.wrap ((j : Int) + 1 - 1) = (j : Int) := by rw [show (j : Int) + 1 - 1 = j by omega]; exact IntWalk.i64_in _ (by omega)
          cases hL : lessK f.ks.l y.ks.l with
          | true =>
            have HL := Lib.hid hL
            have HPK : Hid (posFrom f.con (cons L) k = posFrom f.con (cons L) j) := by show _ = _; rw [hP.out, HPS.out, if_pos hL]
            clear hL hP HPS
            go_wp2_with fail
            refine wp_region_over (by kernel_rfl) (by kernel_rfl) ?_
            repeat (first
              | ((with_reducible show wpQuiet _ _ _ _ (⟨some 19, _, _, _, _, _⟩ :: _) _); refine wpQuiet_load_row rfl rowFct (.tmp 5) rfl g5 (0) rfl f.cs rfl h5l hr5 ?_; simp only [Act.put, List.setIfInBounds_toArray, List.set_cons_zero, List.set_cons_succ])
              | ((with_reducible show wpQuiet _ _ _ _ (⟨some 24, _, _, _, _, _⟩ :: _) _); refine wpQuiet_load_row rfl rowFct (.tmp 23) rfl gA (j * 11) rfl y.cs rfl hgl hry ?_; simp only [Act.put, List.setIfInBounds_toArray, List.set_cons_zero, List.set_cons_succ])
              | go_big_quiet_step (((go_at_call 106; exact calls_over (less_val HL.out (HfoX.out.over _) (Hyo.out.over _))))))
            refine wpQuiet_nil ?_
            rintro _ ⟨u, rfl⟩
            clear hry hr5 h5l hgl
            go_wp2
            go_roundg j
            case rel => exact ⟨j, rfl, by omega, by go_num, hB.trans u.bel, HPK⟩
            case measure => rw [Hgj.out]; omega
          | false =>
            have HL := Lib.hid hL
            have hPos : Hid (j + 1 = posFrom f.con (cons L) k) := by show _ = _; rw [hP.out, HPS.out, if_neg (by rw [hL]; simp)]
            clear hL hP HPS
            go_wp2_with fail
            refine wp_region_over (by kernel_rfl) (by kernel_rfl) ?_
            repeat (first
              | ((with_reducible show wpQuiet _ _ _ _ (⟨some 19, _, _, _, _, _⟩ :: _) _); refine wpQuiet_load_row rfl rowFct (.tmp 5) rfl g5 (0) rfl f.cs rfl h5l hr5 ?_; simp only [Act.put, List.setIfInBounds_toArray, List.set_cons_zero, List.set_cons_succ])
              | ((with_reducible show wpQuiet _ _ _ _ (⟨some 24, _, _, _, _, _⟩ :: _) _); refine wpQuiet_load_row rfl rowFct (.tmp 23) rfl gA (j * 11) rfl y.cs rfl hgl hry ?_; simp only [Act.put, List.setIfInBounds_toArray, List.set_cons_zero, List.set_cons_succ])
              | go_big_quiet_step (((go_at_call 106; exact calls_over (less_val HL.out (HfoX.out.over _) (Hyo.out.over _))))))
            refine wpQuiet_nil ?_
            rintro _ ⟨u, rfl⟩
            clear hry hr5 h5l hgl hK2 b5x
            have HBc : Hid (Bel W u.wd) := hB.trans u.bel
            generalize u.wd = Wc at *
            obtain ⟨A3, HA3⟩ : ∃ A3 : Option Addr, Hid (some ⟨gA, 0, none⟩ = A3) := ⟨_, rfl⟩
            rw [HA3.out] at hK1 ⊢
            have HR : Hid (cons (L.take (j + 1) ++ f :: L.drop (j + 1)) = sortC ((cons l).take (k + 1))) := by
              show _ = _
              have h2 : (cons l)[k]? = some f.con := cons_get Hf.out
              have h3 : (cons l).take (k + 1) = (cons l).take k ++ [f.con] := by rw [List.take_add_one, h2]; rfl
              rw [h3]
              refine Eq.trans ?_ (sortC_snoc _ _).symm
              rw [← hS.out]
              unfold insC
              rw [cons_len, hLn.out, ← hPos.out, cons_app]
              have e1 : cons (L.take (j + 1)) = (cons L).take (j + 1) := cons_take _ _
              have e2 : cons (f :: L.drop (j + 1)) = f.con :: (cons L).drop (j + 1) := by rw [← cons_drop]; rfl
              rw [e1, e2]
            have HRn : Hid ((L.take (j + 1) ++ f :: L.drop (j + 1)).length = k + 1) := by show _ = _; rw [List.length_append, List.length_cons, List.length_take, List.length_drop, hLn.out]; omega
            have HRo : Hid (∀ a ∈ L.take (j + 1) ++ f :: L.drop (j + 1), a.ok w) := fun a ha => by
              rcases List.mem_append.1 ha with h | h
              · exact hK1.ok a (List.mem_of_mem_take h)
              · rcases List.mem_cons.1 h with rfl | h
                · exact Hfw.out
                · exact hK1.ok a (List.mem_of_mem_drop h)
            have hKW := hK1.keep HBc.out
            have b5W := b5.bel HBc.out
            have rd0 : Rd (Wc) 11 A3 k (L.flatMap Cel.cells) := by have := hKW.own; rw [hLn.out] at this; exact Rd.of_own this
            have rdP : Rd (Wc) 11 A3 (j + 1) ((L.take (j + 1)).flatMap Cel.cells) := by have := rd0.take (k := j + 1) (by omega); rwa [show (j + 1) * 11 = (j + 1) * Cel.size Fct from rfl, flat_take] at this
            have rdQ := rd0.drop (k := j + 1) (cap := c3) (by omega) hc3
            rw [show (j + 1) * 11 = (j + 1) * Cel.size Fct from rfl, flat_drop] at rdQ
            have hown0 : ((Wc).alloc (.cells #[] 174)).ownsRow (Wc).heap.size 174 11 (.slice (some ⟨(Wc).heap.size, 0, none⟩) 0 0) 0 [] := ⟨rfl, .inr ⟨(Wc).heap.size, 0, #[], rfl, Nat.le_refl _, heap_alloc_new _ _, Nat.le_refl _, Nat.zero_le _, rfl, rfl⟩⟩
            have HwB : Hid (Bel w (Wc)) := hKW.bel
            clear hKW rd0 hS
            have hbs := Hbs.out
            by_cases hcp : c3 = j + 1
            · rw [if_pos hcp] at rdQ
              go_wp2_with (first
                | ((with_reducible show wpList _ _ _ (⟨some 33, _, _, _, _, _⟩ :: _) _ _); refine wpList_append1 rfl (.tmp 29) (.tmp 32) _ rfl E_fct Wc ((Bel.refl _).alloc _) _ (0) ([]) rfl hown0 _ (j + 1) _ ((L.take (j + 1)).flatMap Cel.cells) rfl (rdP.bel ((Bel.refl _).alloc _)) (fct_cells_one _) (by unfold maxLen; omega) (by omega) ?_; intro v7 w7 hown7 hB7 hg7 hat7; have b57 := b5W.bel hB7)
                | ((with_reducible show wpList _ _ _ (⟨some 35, _, _, _, _, _⟩ :: _) _ _); refine wpList_load_blkG (by first | rfl | go_simp) rowFct (.tmp 5) (by rfl) g5 (by rfl) b57 rfl ?_)
                | ((with_reducible show wpList _ _ _ (⟨some 36, _, _, _, _, _⟩ :: _) _ _); refine wpList_buildSlice1 rfl E_fct (.tmp 35) rfl f.cs rfl rfl (by omega) ?_)
                | ((with_reducible show wpList _ _ _ (⟨some 37, _, _, _, _, _⟩ :: _) _ _); refine wpList_append1 rfl (.tmp 34) (.tmp 36) _ rfl E_fct Wc (hB7.alloc _) v7 (0 + (j + 1)) ([] ++ (L.take (j + 1)).flatMap Cel.cells) rfl (hown7.alloc _) _ (1) _ (f.cs.toList) rfl (rd_new _ _ _ 1 11 rfl) (fun u hu => (Array.all_eq_true_iff_forall_mem.1 (fct_one f)) u (by simpa using hu)) (by unfold maxLen; omega) (by omega) ?_; intro v8 w8 hown8 hB8 hg8 hat8)
                | ((with_reducible show wpList _ _ _ (⟨some 42, _, _, _, _, _⟩ :: _) _ _); refine wpList_append1 rfl (.tmp 38) (.tmp 41) _ rfl E_fct Wc hB8 v8 (0 + (j + 1) + 1) (([] ++ (L.take (j + 1)).flatMap Cel.cells) ++ f.cs.toList) rfl hown8 _ (k - (j + 1)) _ ((L.drop (j + 1)).flatMap Cel.cells) rfl (rdQ.bel hB8) (fct_cells_one _) (by unfold maxLen; omega) (by omega) ?_; intro v9 w9 hown9 hB9 hg9 hat9))
              have hown : w9.ownsRow w.heap.size 174 11 v9 (L.take (j + 1) ++ f :: L.drop (j + 1)).length ((L.take (j + 1) ++ f :: L.drop (j + 1)).flatMap Cel.cells) := by
                have h1 := own_baseC hown9 HwB.out.size
                rw [HRn.out, List.flatMap_append, List.flatMap_cons]
                have e1 : 0 + (j + 1) + 1 + (k - (j + 1)) = k + 1 := by omega
                rw [e1, List.nil_append, List.append_assoc] at h1
                exact h1
              have HKN : Hid (Kept w w9 v9 (L.take (j + 1) ++ f :: L.drop (j + 1))) := ⟨HwB.out.trans hB9, hown, HRo.out⟩
              clear hown hown9 hown8 hown7 hg7 hg8 hg9 hat7 hat8 hat9
              go_wp2
              go_roundg (n - (k + 1))
              case rel => exact ⟨k + 1, _, rfl, by omega, by go_num, HKN.out, HRn, HR⟩
              case measure => rw [Hgk.out]; omega
            · rw [if_neg hcp] at rdQ
              go_wp2_with (first
                | ((with_reducible show wpList _ _ _ (⟨some 33, _, _, _, _, _⟩ :: _) _ _); refine wpList_append1 rfl (.tmp 29) (.tmp 32) _ rfl E_fct Wc ((Bel.refl _).alloc _) _ (0) ([]) rfl hown0 _ (j + 1) _ ((L.take (j + 1)).flatMap Cel.cells) rfl (rdP.bel ((Bel.refl _).alloc _)) (fct_cells_one _) (by unfold maxLen; omega) (by omega) ?_; intro v7 w7 hown7 hB7 hg7 hat7; have b57 := b5W.bel hB7)
                | ((with_reducible show wpList _ _ _ (⟨some 35, _, _, _, _, _⟩ :: _) _ _); refine wpList_load_blkG (by first | rfl | go_simp) rowFct (.tmp 5) (by rfl) g5 (by rfl) b57 rfl ?_)
                | ((with_reducible show wpList _ _ _ (⟨some 36, _, _, _, _, _⟩ :: _) _ _); refine wpList_buildSlice1 rfl E_fct (.tmp 35) rfl f.cs rfl rfl (by omega) ?_)
                | ((with_reducible show wpList _ _ _ (⟨some 37, _, _, _, _, _⟩ :: _) _ _); refine wpList_append1 rfl (.tmp 34) (.tmp 36) _ rfl E_fct Wc (hB7.alloc _) v7 (0 + (j + 1)) ([] ++ (L.take (j + 1)).flatMap Cel.cells) rfl (hown7.alloc _) _ (1) _ (f.cs.toList) rfl (rd_new _ _ _ 1 11 rfl) (fun u hu => (Array.all_eq_true_iff_forall_mem.1 (fct_one f)) u (by simpa using hu)) (by unfold maxLen; omega) (by omega) ?_; intro v8 w8 hown8 hB8 hg8 hat8)
                | ((with_reducible show wpList _ _ _ (⟨some 42, _, _, _, _, _⟩ :: _) _ _); refine wpList_append1 rfl (.tmp 38) (.tmp 41) _ rfl E_fct Wc hB8 v8 (0 + (j + 1) + 1) (([] ++ (L.take (j + 1)).flatMap Cel.cells) ++ f.cs.toList) rfl hown8 _ (k - (j + 1)) _ ((L.drop (j + 1)).flatMap Cel.cells) rfl (rdQ.bel hB8) (fct_cells_one _) (by unfold maxLen; omega) (by omega) ?_; intro v9 w9 hown9 hB9 hg9 hat9))
              have hown : w9.ownsRow w.heap.size 174 11 v9 (L.take (j + 1) ++ f :: L.drop (j + 1)).length ((L.take (j + 1) ++ f :: L.drop (j + 1)).flatMap Cel.cells) := by
                have h1 := own_baseC hown9 HwB.out.size
                rw [HRn.out, List.flatMap_append, List.flatMap_cons]
                have e1 : 0 + (j + 1) + 1 + (k - (j + 1)) = k + 1 := by omega
                rw [e1, List.nil_append, List.append_assoc] at h1
                exact h1
              have HKN : Hid (Kept w w9 v9 (L.take (j + 1) ++ f :: L.drop (j + 1))) := ⟨HwB.out.trans hB9, hown, HRo.out⟩
              clear hown hown9 hown8 hown7 hg7 hg8 hg9 hat7 hat8 hat9
              go_wp2
              go_roundg (n - (k + 1))
              case rel => exact ⟨k + 1, _, rfl, by omega, by go_num, HKN.out, HRn, HR⟩
              case measure => rw [Hgk.out]; omega
    · obtain rfl : k = n := by omega
      have HR : Hid (cons L = sortC (cons l)) := by
        show _ = _
        rw [hS.out, List.take_of_length_le (by rw [cons_len]; have h2 : l.length = k := hlen.out; omega)]
      have HK := Lib.hid hK
      clear hK hS
      go_wp2
      go_ret
      exact ⟨_, L, rfl, HK.out, HR.out⟩

end Go.Proofs.Ytnekknemjhlgdaa
