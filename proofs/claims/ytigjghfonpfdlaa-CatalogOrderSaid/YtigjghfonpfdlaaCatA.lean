/- Clones; catalog.clone. -/
import Derived.Test.YtigjghfonpfdlaaAskR
import Derived.Test.YtigjghfonpfdlaaSchR
namespace Go.Proofs.Ytigjghfonpfdlaa
open Go.RowKit
set_option linter.unusedVariables false
set_option linter.unusedSimpArgs false

set_option maxRecDepth 100000 in
set_option maxHeartbeats 1000000 in
theorem cloneT_any (x : Row (List UInt8)) (w : World) (hx : x.rd w) (hn : x.n ≤ 1000000) :
    Calls Try.prog 96 #[.slice x.A x.n x.c] w fun e w' => ∃ (A : Option Addr) (c : Nat), e = .returned (.slice A x.n c) ∧ Bel w w' ∧ w'.ownsRow w.heap.size 9 1 (.slice A x.n c) x.n (x.l.map tx) := by
  have hr : Rd w 1 x.A x.n (x.l.map tx) := hx.texts
  have hlen : Hid (x.l.length = x.n) := hx.len
  obtain ⟨A, n, c, l⟩ := x
  simp only at *
  clear hx
  cases A with
  | none =>
    obtain rfl : n = 0 := by
      rcases Nat.eq_zero_or_pos n with h | h
      · exact h
      · obtain ⟨ad, e, _⟩ := hr.2 h; cases e
    have hl : l = [] := List.eq_nil_of_length_eq_zero hlen.out
    subst hl
    have he := fun (c : Nat) (w : World) => Lib.run_eql_slice_nil (P := Try.prog) w 23 9 none 0 c 0 0 Try.underlying23
    go_enter Try.func96, Try.ntmps96
    go_wp2
    go_ret
    exact ⟨none, 0, rfl, Bel.refl _, World.ownsRow_nil _ _ _ _⟩
  | some ad =>
    have he := fun (n c : Nat) (w : World) => Lib.run_eql_slice_nil (P := Try.prog) w 23 9 (some ad) n c 0 0 Try.underlying23
    have hbs : ∀ w : World, (Instr.buildSlice 23 0 #[]).run Try.prog w = .ok (.slice (some ⟨w.heap.size, 0, none⟩) 0 0) (w.alloc (.cells #[] 9)) := fun _ => by kernel_rfl
    have hown : (w.alloc (.cells #[] 9)).ownsRow w.heap.size 9 1 (.slice (some ⟨w.heap.size, 0, none⟩) 0 0) 0 [] := ⟨rfl, .inr ⟨w.heap.size, 0, #[], rfl, Nat.le_refl _, heap_alloc_new w _, Nat.le_refl _, Nat.zero_le _, rfl, rfl⟩⟩
    go_enter Try.func96, Try.ntmps96
    go_wp2_with ((with_reducible show wpList _ _ _ (⟨some 7, _, _, _, _, _⟩ :: _) _ _); refine wpList_append1 rfl (.tmp 5) (.tmp 6) _ rfl E_text w ((Bel.refl w).alloc _) _ 0 [] rfl hown (some ad) n c (l.map tx) rfl (hr.bel ((Bel.refl w).alloc _)) (by simp [Value.oneCell', tx]) (by unfold maxLen; omega) (by omega) ?_; intro v2 w2 hown2 hB2 hg2 hat2)
    go_ret
    simp only [Nat.zero_add, List.nil_append] at hown2
    obtain ⟨A2, c2, rfl, hc2⟩ := own_slice hown2
    exact ⟨A2, c2, rfl, hB2, hown2⟩
set_option maxRecDepth 100000 in
set_option maxHeartbeats 1000000 in
theorem cloneI_any (x : Row (Int)) (w : World) (hx : x.rd w) (hn : x.n ≤ 1000000) :
    Calls Try.prog 97 #[.slice x.A x.n x.c] w fun e w' => ∃ (A : Option Addr) (c : Nat), e = .returned (.slice A x.n c) ∧ Bel w w' ∧ w'.ownsRow w.heap.size 3 1 (.slice A x.n c) x.n (x.l.map (Value.int .i64)) := by
  have hr : Rd w 1 x.A x.n (x.l.map (Value.int .i64)) := hx.ints
  have hlen : Hid (x.l.length = x.n) := hx.len
  obtain ⟨A, n, c, l⟩ := x
  simp only at *
  clear hx
  cases A with
  | none =>
    obtain rfl : n = 0 := by
      rcases Nat.eq_zero_or_pos n with h | h
      · exact h
      · obtain ⟨ad, e, _⟩ := hr.2 h; cases e
    have hl : l = [] := List.eq_nil_of_length_eq_zero hlen.out
    subst hl
    have he := fun (c : Nat) (w : World) => Lib.run_eql_slice_nil (P := Try.prog) w 74 3 none 0 c 0 0 Try.underlying74
    go_enter Try.func97, Try.ntmps97
    go_wp2
    go_ret
    exact ⟨none, 0, rfl, Bel.refl _, World.ownsRow_nil _ _ _ _⟩
  | some ad =>
    have he := fun (n c : Nat) (w : World) => Lib.run_eql_slice_nil (P := Try.prog) w 74 3 (some ad) n c 0 0 Try.underlying74
    have hbs : ∀ w : World, (Instr.buildSlice 74 0 #[]).run Try.prog w = .ok (.slice (some ⟨w.heap.size, 0, none⟩) 0 0) (w.alloc (.cells #[] 3)) := fun _ => by kernel_rfl
    have hown : (w.alloc (.cells #[] 3)).ownsRow w.heap.size 3 1 (.slice (some ⟨w.heap.size, 0, none⟩) 0 0) 0 [] := ⟨rfl, .inr ⟨w.heap.size, 0, #[], rfl, Nat.le_refl _, heap_alloc_new w _, Nat.le_refl _, Nat.zero_le _, rfl, rfl⟩⟩
    go_enter Try.func97, Try.ntmps97
    go_wp2_with ((with_reducible show wpList _ _ _ (⟨some 7, _, _, _, _, _⟩ :: _) _ _); refine wpList_append1 rfl (.tmp 5) (.tmp 6) _ rfl E_num w ((Bel.refl w).alloc _) _ 0 [] rfl hown (some ad) n c (l.map (Value.int .i64)) rfl (hr.bel ((Bel.refl w).alloc _)) (by simp [Value.oneCell', tx]) (by unfold maxLen; omega) (by omega) ?_; intro v2 w2 hown2 hB2 hg2 hat2)
    go_ret
    simp only [Nat.zero_add, List.nil_append] at hown2
    obtain ⟨A2, c2, rfl, hc2⟩ := own_slice hown2
    exact ⟨A2, c2, rfl, hB2, hown2⟩
theorem sch_tir {s : SC} (h : schErr s = 0) : ∀ d ∈ s.dims, d.nm.length ≤ 12 ∧ d.trs.length ≤ 4 ∧ ∀ t ∈ d.trs, t.nm.length ≤ 12 ∧ (∀ x ∈ t.ts, x.length ≤ 16) ∧ t.ts.length ≤ 200 ∧ t.up.length ≤ 200 := fun d hd => by
  have h1 := (schErr_zero h).2.2.1 d hd
  obtain ⟨h2, h3, h4, h5⟩ := dimErr_zero h1
  refine ⟨(isName_len h2).2, h4, fun t ht => ?_⟩
  obtain ⟨a, ha⟩ := allOk_mem (dimFrom_ok h5) ht
  obtain ⟨e1, _, e3, e4, _⟩ := tierErr_zero ha
  exact ⟨(isName_len e1).2, fun x hx => rowErr_len e4 hx, e3, tierErr_up ha⟩
set_option maxRecDepth 100000 in
set_option maxHeartbeats 4000000 in
theorem catclone_any (s : Sch) (w : World) (hs : s.rd w) (hE : schErr s.con = 0) :
    Calls Try.prog 56 #[.agg s.cs] w fun e w' => ∃ D : Sch, e = .returned (.agg D.cs) ∧ D.con = s.con ∧ Bel w w' ∧ NewR w w' (rSch D) := by
  obtain ⟨e1, e2, e3, e4, e5, e6⟩ := schErr_zero hE
  have HTI := Lib.hid (sch_tir hE)
  have hl1 : Hid (s.dm.l.length = s.dm.n) := hs.dm.len
  have hl2 : Hid (s.ms.l.length = s.ms.n) := hs.ms.len
  have hn16 : s.dm.n ≤ 16 := by have := hl1.out; have : s.con.dims.length = s.dm.l.length := List.length_map ..; omega
  have hm3 : s.ms.n ≤ 3 := by have := hl2.out; have : s.con.ms.length = s.ms.l.length := rfl; omega
  have HD := Lib.hid hs.dm
  have HCM := Lib.hid (fun w' (hb : Bel w w') => cloneT_any s.ms w' (hs.ms.mono hb) (by omega))
  have HML : Hid (∀ m ∈ s.ms.l, m.length ≤ 12) := fun m hm => (isName_len (e6 m hm)).2
  have H := Lib.hid (((SL.start No w).alloc s.cs 25).alloc #[.slice none 0 0, .slice none 0 0] 25)
  (try simp only [List.set_cons_zero, List.set_cons_succ, List.cons_append, List.nil_append, List.eraseIdx_cons_zero, List.eraseIdx_cons_succ, List.setIfInBounds_toArray, World.size_alloc, selR, List.getD_cons_zero, List.getD_cons_succ] at H)
  obtain ⟨⟨DA, n, cn, ds⟩, ⟨MA, mn, mc, ms⟩⟩ := s
  simp only [Sch.cs, Sch.con] at *
  clear hs hE e1 e2 e3 e4 e5 e6
  go_enter Try.func56, Try.ntmps56
  have cs1 := (H.out.blk 0 rfl).cell 1; simp only [List.getElem?_toArray, List.getElem?_cons_zero, List.getElem?_cons_succ] at cs1
  go_wp2_with fail
  refine (HCM.out _ H.out.to).mono ?_; rintro e w1 ⟨MB, md, rfl, hb1, hown⟩
  replace H := Lib.hid (H.out.addRow hb1 hown); (try simp only [List.set_cons_zero, List.set_cons_succ, List.cons_append, List.nil_append, List.eraseIdx_cons_zero, List.eraseIdx_cons_succ, List.setIfInBounds_toArray, World.size_alloc, selR, List.getD_cons_zero, List.getD_cons_succ] at H)
  clear hb1 hown HCM cs1
  generalize w.heap.size + 1 = y at *
  generalize w.heap.size = x at *
  have hbd : ∀ w : World, (Instr.build 25 #[(1, .slice MB mn md)]).run Try.prog w = .ok (.agg #[.slice none 0 0, .slice MB mn md]) w := fun _ => by kernel_rfl
  have cs0 := (H.out.blk 0 rfl).cell 0; simp only [List.getElem?_toArray, List.getElem?_cons_zero, List.getElem?_cons_succ] at cs0
  go_upto_region 2 with (first | ((with_reducible show wpList _ _ _ (⟨some 12, _, _, _, _, _⟩ :: _) _ _); refine wpList_build1 (vx := .slice MB mn md) (v := .agg #[.slice none 0 0, .slice MB mn md]) rfl (.tmp 11) rfl rfl hbd ?_) | ((with_reducible show wpList _ _ _ (⟨_, .store _ (.tmp 3) _, _, _, _, _⟩ :: _) _ _); (refine wpList_store_new rfl rowSch (.tmp 3) (.tmp 12) rfl rfl rfl (#[.slice none 0 0, .slice MB mn md]) rfl rfl (by simp [Value.oneCell']) ?_; replace H := Lib.hid (H.out.alloc (#[.slice none 0 0, .slice MB mn md]) 25); (try simp only [List.set_cons_zero, List.set_cons_succ, List.cons_append, List.nil_append, List.eraseIdx_cons_zero, List.eraseIdx_cons_succ, List.setIfInBounds_toArray, World.size_alloc, selR, List.getD_cons_zero, List.getD_cons_succ] at H))))
  (try simp only [Act.put, List.setIfInBounds_toArray, List.set_cons_zero, List.set_cons_succ])
  clear hbd cs0
  generalize w1.heap.size = z at *
  generalize World.alloc w1 _ = w2 at *
  replace H := Lib.hid (H.out.addNil 81 2); (try simp only [List.set_cons_zero, List.set_cons_succ, List.cons_append, List.nil_append, List.eraseIdx_cons_zero, List.eraseIdx_cons_succ, List.setIfInBounds_toArray, World.size_alloc, selR, List.getD_cons_zero, List.getD_cons_succ] at H)
  replace H := Lib.hid (H.out.add (Bel.refl _) (rList rDm []) (holds_list_nil _ _) list_nil_D); (try simp only [List.set_cons_zero, List.set_cons_succ, List.cons_append, List.nil_append, List.eraseIdx_cons_zero, List.eraseIdx_cons_succ, List.setIfInBounds_toArray, World.size_alloc, selR, List.getD_cons_zero, List.getD_cons_succ] at H)
  replace H := Lib.hid (H.out.sel [0, 1, 3, 4, 5, 2] (by decide) (by simp)); (try simp only [List.set_cons_zero, List.set_cons_succ, List.cons_append, List.nil_append, List.eraseIdx_cons_zero, List.eraseIdx_cons_succ, List.setIfInBounds_toArray, World.size_alloc, selR, List.getD_cons_zero, List.getD_cons_succ] at H)
  have cs0 := (H.out.blk 0 rfl).cell 0; simp only [List.getElem?_toArray, List.getElem?_cons_zero, List.getElem?_cons_succ] at cs0
  go_wp2_with fail
  clear cs0
  have HN : Hid (([] : List Dm).map Dm.con = (ds.map Dm.con).take 0) := rfl
  go_loopg [16] n (fun gg i wr => ∃ (k : Nat) (acc : List Dm) (A : Option Addr) (c : Nat), gg = n - k ∧ k ≤ n ∧ i = .int .i64 k ∧ Hid (acc.length = k) ∧ Hid (SL No w wr [rBlk x 25 #[.slice DA n cn, .slice MA mn mc], rBlk y 25 #[.slice none 0 0, .slice none 0 0], rBlk z 25 #[.slice A k c, .slice MB mn md], rRow 81 2 (.slice A k c) k (acc.flatMap Cel.cells), rList rDm acc, rRow 9 1 (.slice MB mn md) mn (ms.map tx)]) ∧ Hid (acc.map Dm.con = (ds.map Dm.con).take k))
  case atStart => exact ⟨0, [], none, 0, rfl, by omega, rfl, rfl, H, HN⟩
  case round =>
    clear H HN
    obtain ⟨k, acc, A, c, hgk, hk, rfl, hkc, H, HN⟩ := hrel
    obtain ⟨W0, hW0⟩ : ∃ W0, W0 = wr := ⟨_, rfl⟩
    subst hW0
    have Hgk := Lib.hid hgk
    clear hgk
    by_cases hlt : k < n
    · obtain ⟨b1, o1, D, hA, hb1, hDk, hDr, hrg1⟩ := (HD.out.mono H.out.to).dmAt (k := k) hlt
      simp only at hA
      subst hA
      have hDc : (ds.map Dm.con)[k]? = some D.con := by rw [List.getElem?_map, hDk]; rfl
      have HDC := Lib.hid hDc
      obtain ⟨hnm, htn4, htt⟩ := HTI.out D.con (List.mem_of_getElem? hDc)
      have HTT := Lib.hid htt
      replace hDr := HD.out.all D (List.mem_of_getElem? hDk)
      have HTR := Lib.hid (fun w' (hb : Bel w w') => hDr.tr.mono hb)
      have tl : Hid (D.tr.l.length = D.tr.n) := hDr.tr.len
      have HR := Lib.hid hrg1
      have i0 : (0 : Int) ≤ k := by omega
      have i1 : (k : Int) < n := by omega
      clear hDk hDr hrg1 hb1 hDc htt
      obtain ⟨nm, ⟨TA, tn, tc, trs⟩⟩ := D
      simp only [Dm.cs, Dm.con, List.length_map] at *
      have htn : tn ≤ 4 := by have := tl.out; omega
      go_upto_region 5 with (first | ((with_reducible show wpList _ _ _ (⟨some 19, _, _, _, _, _⟩ :: _) _ _); (refine wpList_load_row_at rfl rowDm (.tmp 18) rfl b1 (o1 + k * 2) rfl #[.string ⟨nm.toArray⟩, .slice TA tn tc] rfl HR.out ?_)) | ((with_reducible show wpList _ _ _ (⟨_, .store _ (.tmp 5) _, _, _, _, _⟩ :: _) _ _); (refine wpList_store_new rfl rowDm (.tmp 5) (.tmp 19) rfl rfl rfl (#[.string ⟨nm.toArray⟩, .slice TA tn tc]) rfl rfl (by simp [Value.oneCell']) ?_; replace H := Lib.hid (H.out.alloc (#[.string ⟨nm.toArray⟩, .slice TA tn tc]) 81); (try simp only [List.set_cons_zero, List.set_cons_succ, List.cons_append, List.nil_append, List.eraseIdx_cons_zero, List.eraseIdx_cons_succ, List.setIfInBounds_toArray, World.size_alloc, selR, List.getD_cons_zero, List.getD_cons_succ] at H))))
      (try simp only [Act.put, List.setIfInBounds_toArray, List.set_cons_zero, List.set_cons_succ])
      clear HR
      generalize W0.heap.size = u at *
      generalize World.alloc W0 _ = w5 at *
      have hbd : ∀ w : World, (Instr.build 81 #[(0, .string ⟨nm.toArray⟩)]).run Try.prog w = .ok (.agg #[.string ⟨nm.toArray⟩, .slice none 0 0]) w := fun _ => by kernel_rfl
      have cn0 := (H.out.blk 6 rfl).cell 0; simp only [List.getElem?_toArray, List.getElem?_cons_zero, List.getElem?_cons_succ] at cn0
      go_upto_region 6 with (first | ((with_reducible show wpList _ _ _ (⟨some 22, _, _, _, _, _⟩ :: _) _ _); refine wpList_build1 (vx := .string ⟨nm.toArray⟩) (v := .agg #[.string ⟨nm.toArray⟩, .slice none 0 0]) rfl (.tmp 21) rfl rfl hbd ?_) | ((with_reducible show wpList _ _ _ (⟨_, .store _ (.tmp 6) _, _, _, _, _⟩ :: _) _ _); (refine wpList_store_new rfl rowDm (.tmp 6) (.tmp 22) rfl rfl rfl (#[.string ⟨nm.toArray⟩, .slice none 0 0]) rfl rfl (by simp [Value.oneCell']) ?_; replace H := Lib.hid (H.out.alloc (#[.string ⟨nm.toArray⟩, .slice none 0 0]) 81); (try simp only [List.set_cons_zero, List.set_cons_succ, List.cons_append, List.nil_append, List.eraseIdx_cons_zero, List.eraseIdx_cons_succ, List.setIfInBounds_toArray, World.size_alloc, selR, List.getD_cons_zero, List.getD_cons_succ] at H))))
      (try simp only [Act.put, List.setIfInBounds_toArray, List.set_cons_zero, List.set_cons_succ])
      clear hbd cn0
      generalize w5.heap.size = v at *
      generalize World.alloc w5 _ = w6 at *
      replace H := Lib.hid (H.out.addNil 78 3); (try simp only [List.set_cons_zero, List.set_cons_succ, List.cons_append, List.nil_append, List.eraseIdx_cons_zero, List.eraseIdx_cons_succ, List.setIfInBounds_toArray, World.size_alloc, selR, List.getD_cons_zero, List.getD_cons_succ] at H)
      replace H := Lib.hid (H.out.add (Bel.refl _) (rList rTir []) (holds_list_nil _ _) list_nil_D); (try simp only [List.set_cons_zero, List.set_cons_succ, List.cons_append, List.nil_append, List.eraseIdx_cons_zero, List.eraseIdx_cons_succ, List.setIfInBounds_toArray, World.size_alloc, selR, List.getD_cons_zero, List.getD_cons_succ] at H)
      have cn1 := (H.out.blk 6 rfl).cell 1; simp only [List.getElem?_toArray, List.getElem?_cons_zero, List.getElem?_cons_succ] at cn1
      go_wp2_with fail
      clear cn1
      have H0N := HN
      clear HN
      have HN2 : Hid (([] : List Tir).map Tir.con = (trs.map Tir.con).take 0) := rfl
      go_loopg [26] tn (fun gg i wr => ∃ (j : Nat) (accT : List Tir) (B : Option Addr) (e : Nat), gg = tn - j ∧ j ≤ tn ∧ i = .int .i64 j ∧ Hid (accT.length = j) ∧ Hid (SL No w wr [rBlk x 25 #[.slice (some ⟨b1, o1, none⟩) n cn, .slice MA mn mc], rBlk y 25 #[.slice none 0 0, .slice none 0 0], rBlk z 25 #[.slice A k c, .slice MB mn md], rRow 81 2 (.slice A k c) k (acc.flatMap Cel.cells), rList rDm acc, rRow 9 1 (.slice MB mn md) mn (ms.map tx), rBlk u 81 #[.string ⟨nm.toArray⟩, .slice TA tn tc], rBlk v 81 #[.string ⟨nm.toArray⟩, .slice B j e], rRow 78 3 (.slice B j e) j (accT.flatMap Cel.cells), rList rTir accT]) ∧ Hid (accT.map Tir.con = (trs.map Tir.con).take j))
      case atStart => exact ⟨0, [], none, 0, rfl, by omega, rfl, rfl, H, HN2⟩
      case round =>
        clear H HN2
        obtain ⟨j, accT, B, e, hgj, hj, rfl, hjc, H, HN2⟩ := hrel
        have Hgj := Lib.hid hgj
        clear hgj
        by_cases hjlt : j < tn
        · obtain ⟨b2, o2, Tr, hB2, hb2, hTk, hTr, hrg2⟩ := (HTR.out _ H.out.to).tirAt (k := j) hjlt
          simp only at hB2
          subst hB2
          have hTc : (trs.map Tir.con)[j]? = some Tr.con := by rw [List.getElem?_map, hTk]; rfl
          obtain ⟨f1, f2, f3, f4⟩ := HTT.out Tr.con (List.mem_of_getElem? hTc)
          have l1 : Tr.ts.l.length = Tr.ts.n := hTr.ts.len
          have l2 : Tr.up.l.length = Tr.up.n := hTr.up.len
          simp only at f1 f2 f3 f4
          have HTOk : Hid (Tr.nm.length ≤ 12 ∧ (∀ t ∈ Tr.ts.l, t.length ≤ 16) ∧ (∀ z ∈ Tr.up.l, I64 z) ∧ Tr.ts.n ≤ 200 ∧ Tr.up.n ≤ 200) := ⟨f1, f2, hTr.up.all, by omega, by omega⟩
          have HCT := Lib.hid (fun w' (hb : Bel wr w') => cloneT_any Tr.ts w' (hTr.ts.mono hb) (by omega))
          have HCI := Lib.hid (fun w' (hb : Bel wr w') => cloneI_any Tr.up w' (hTr.up.mono hb) (by omega))
          have hn3 : Tr.ts.n ≤ 200 := by omega
          have hn4 : Tr.up.n ≤ 200 := by omega
          have HN : Hid (∀ X : Tir, X.con = Tr.con → (accT ++ [X]).map Tir.con = (trs.map Tir.con).take (j + 1)) := fun X hX => by rw [List.map_append, HN2.out, take_snoc_get hTc, ← hX]; rfl
          have HR := Lib.hid hrg2
          have j0 : (0 : Int) ≤ j := by omega
          have j1 : (j : Int) < tn := by omega
          clear hTk hTr hrg2 hb2 hTc f1 f2 f3 f4 l1 l2 HN2
          obtain ⟨tnm, ⟨A3, n3, c3, ts⟩, ⟨A4, n4, c4, ups⟩⟩ := Tr
          simp only [Tir.cs] at *
          go_upto_region 9 with (first | ((with_reducible show wpList _ _ _ (⟨some 29, _, _, _, _, _⟩ :: _) _ _); (refine wpList_load_row_at rfl rowTir (.tmp 28) rfl b2 (o2 + j * 3) rfl #[.string ⟨tnm.toArray⟩, .slice A3 n3 c3, .slice A4 n4 c4] rfl HR.out ?_)) | ((with_reducible show wpList _ _ _ (⟨_, .store _ (.tmp 8) _, _, _, _, _⟩ :: _) _ _); (refine wpList_store_new rfl rowTir (.tmp 8) (.tmp 29) rfl rfl rfl (#[.string ⟨tnm.toArray⟩, .slice A3 n3 c3, .slice A4 n4 c4]) rfl rfl (by simp [Value.oneCell']) ?_; replace H := Lib.hid (H.out.alloc (#[.string ⟨tnm.toArray⟩, .slice A3 n3 c3, .slice A4 n4 c4]) 78); (try simp only [List.set_cons_zero, List.set_cons_succ, List.cons_append, List.nil_append, List.eraseIdx_cons_zero, List.eraseIdx_cons_succ, List.setIfInBounds_toArray, World.size_alloc, selR, List.getD_cons_zero, List.getD_cons_succ] at H))))
          (try simp only [Act.put, List.setIfInBounds_toArray, List.set_cons_zero, List.set_cons_succ])
          have HB := Lib.hid ((Bel.refl wr).alloc (.cells #[.string ⟨tnm.toArray⟩, .slice A3 n3 c3, .slice A4 n4 c4] 78))
          clear HR
          generalize wr.heap.size = t8 at *
          generalize World.alloc wr _ = w7 at *
          refine wp_region_held_drew (S := fun w => w.cell? ⟨t8, 0, none⟩ = some (.string ⟨tnm.toArray⟩) ∧ w.cell? ⟨t8, 1, none⟩ = some (.slice A3 n3 c3) ∧ w.cell? ⟨t8, 2, none⟩ = some (.slice A4 n4 c4)) (by kernel_rfl) (by exact ⟨(H.out.blk 10 rfl).cell 0, (H.out.blk 10 rfl).cell 1, (H.out.blk 10 rfl).cell 2⟩) (fun hHeld => ?_)
          replace H := Lib.hid (H.out.drew); (try simp only [List.set_cons_zero, List.set_cons_succ, List.cons_append, List.nil_append, List.eraseIdx_cons_zero, List.eraseIdx_cons_succ, List.setIfInBounds_toArray, World.size_alloc, selR, List.getD_cons_zero, List.getD_cons_succ] at H)
          refine wpAnyH_take (i := 0) (v := ?vq1_0) (get_o0) (by kernel_rfl) (by kernel_rfl) (by kernel_rfl) (by exact fun _ _ _ h => h) (Or.inl ⟨by rfl, ?hyq1_0⟩) (by assumption) ?_
          case hyq1_0 => (intro w hSw; (try dsimp only at hSw); go_simp) <;> with_reducible rfl
          try simp only [Act.put, List.setIfInBounds_toArray, List.set_cons_zero, List.set_cons_succ]
          refine wpAnyH_take (i := 2) (v := ?vq1_2) (get_os (get_os (get_o0))) (by kernel_rfl) (by kernel_rfl) (by kernel_rfl) (by exact fun _ _ _ h => h) (Or.inl ⟨by rfl, ?hyq1_2⟩) (by assumption) ?_
          case hyq1_2 => (intro w hSw; (try dsimp only at hSw); go_simp) <;> with_reducible rfl
          try simp only [Act.put, List.setIfInBounds_toArray, List.set_cons_zero, List.set_cons_succ]
          refine wpAnyH_take (i := 3) (v := ?vq1_3) (get_os (get_os (get_os (get_o0)))) (by kernel_rfl) (by kernel_rfl) (by kernel_rfl) (by exact fun _ _ _ h => h) (Or.inl ⟨by rfl, ?hyq1_3⟩) (by assumption) ?_
          case hyq1_3 => (intro w hSw; (try dsimp only at hSw); go_simp) <;> with_reducible rfl
          try simp only [Act.put, List.setIfInBounds_toArray, List.set_cons_zero, List.set_cons_succ]
          refine wpAnyH_take (i := 4) (v := ?vq1_4) (get_os (get_os (get_os (get_os (get_o0))))) (by kernel_rfl) (by kernel_rfl) (by kernel_rfl) (by exact fun _ _ _ h => h) (Or.inl ⟨by rfl, ?hyq1_4⟩) (by assumption) ?_
          case hyq1_4 => (intro w hSw; (try dsimp only at hSw); go_simp) <;> with_reducible rfl
          try simp only [Act.put, List.setIfInBounds_toArray, List.set_cons_zero, List.set_cons_succ]
          refine wpAnyH_take (i := 5) (v := ?vq1_5) (get_os (get_os (get_os (get_os (get_os (get_o0)))))) (by kernel_rfl) (by kernel_rfl) (by kernel_rfl) (by exact fun _ _ _ h => h) (Or.inl ⟨by rfl, ?hyq1_5⟩) (by assumption) ?_
          case hyq1_5 => (intro w hSw; (try dsimp only at hSw); go_simp) <;> with_reducible rfl
          try simp only [Act.put, List.setIfInBounds_toArray, List.set_cons_zero, List.set_cons_succ]
          refine wpAnyH_take (i := 7) (v := ?vq1_7) (get_os (get_os (get_os (get_os (get_os (get_os (get_os (get_o0)))))))) (by kernel_rfl) (by kernel_rfl) (by kernel_rfl) (by exact fun _ _ _ h => h) (Or.inl ⟨by rfl, ?hyq1_7⟩) (by assumption) ?_
          case hyq1_7 => (intro w hSw; (try dsimp only at hSw); go_simp) <;> with_reducible rfl
          try simp only [Act.put, List.setIfInBounds_toArray, List.set_cons_zero, List.set_cons_succ]
          refine wpAnyH_take (i := 8) (v := ?vq1_8) (get_os (get_os (get_os (get_os (get_os (get_os (get_os (get_os (get_o0))))))))) (by kernel_rfl) (by kernel_rfl) (by kernel_rfl) (by exact fun _ _ _ h => h) (Or.inl ⟨by rfl, ?hyq1_8⟩) (by assumption) ?_
          case hyq1_8 => (intro w hSw; (try dsimp only at hSw); go_simp) <;> with_reducible rfl
          try simp only [Act.put, List.setIfInBounds_toArray, List.set_cons_zero, List.set_cons_succ]
          refine wpAnyH_ready (rs := [1, 6]) (by kernel_rfl) (by simp) ?_
          refine (AllReadyH.cons (get_os (get_o0)) (fun KK hKK => ?_) (AllReadyH.cons (get_os (get_os (get_os (get_os (get_os (get_os (get_o0))))))) (fun KK hKK => ?_) AllReadyH.nil))
          · have cv := (H.out.blk 7 rfl).cell 1; simp only [List.getElem?_toArray, List.getElem?_cons_zero, List.getElem?_cons_succ] at cv
            go_simp
            clear cv
            refine hKK.out _ _ (by exact ⟨(H.out.blk 10 rfl).cell 0, (H.out.blk 10 rfl).cell 1, (H.out.blk 10 rfl).cell 2⟩) (fun hHeld => ?_)
            clear hKK KK
            try simp only [Act.put, List.setIfInBounds_toArray, List.set_cons_zero, List.set_cons_succ]
            refine wpAnyH_ready (rs := [6]) (by kernel_rfl) (by simp) ?_
            refine (AllReadyH.cons (get_os (get_os (get_os (get_os (get_os (get_os (get_o0))))))) (fun KK hKK => ?_) AllReadyH.nil)
            go_simp
            refine (HCT.out _ HB.out.drew).mono ?_; rintro e' w6 ⟨A5, c5, rfl, hb6, hown6⟩
            replace H := Lib.hid (H.out.addRow hb6 hown6); (try simp only [List.set_cons_zero, List.set_cons_succ, List.cons_append, List.nil_append, List.eraseIdx_cons_zero, List.eraseIdx_cons_succ, List.setIfInBounds_toArray, World.size_alloc, selR, List.getD_cons_zero, List.getD_cons_succ] at H)
            replace HB := Lib.hid (HB.out.drew.trans hb6)
            clear hb6 hown6
            refine hKK.out _ _ (by exact ⟨(H.out.blk 10 rfl).cell 0, (H.out.blk 10 rfl).cell 1, (H.out.blk 10 rfl).cell 2⟩) (fun hHeld => ?_)
            clear hKK KK
            try simp only [Act.put, List.setIfInBounds_toArray, List.set_cons_zero, List.set_cons_succ]
            refine wpAnyH_ready (rs := [9]) (by kernel_rfl) (by simp) ?_
            refine (AllReadyH.cons (get_os (get_os (get_os (get_os (get_os (get_os (get_os (get_os (get_os (get_o0)))))))))) (fun KK hKK => ?_) AllReadyH.nil)
            go_simp
            refine (HCI.out _ HB.out).mono ?_; rintro e' w7 ⟨A6, c6, rfl, hb7, hown7⟩
            replace H := Lib.hid (H.out.addRow hb7 hown7); (try simp only [List.set_cons_zero, List.set_cons_succ, List.cons_append, List.nil_append, List.eraseIdx_cons_zero, List.eraseIdx_cons_succ, List.setIfInBounds_toArray, World.size_alloc, selR, List.getD_cons_zero, List.getD_cons_succ] at H)
            replace HB := Lib.hid (HB.out.trans hb7)
            clear hb7 hown7
            refine hKK.out _ _ (by exact ⟨(H.out.blk 10 rfl).cell 0, (H.out.blk 10 rfl).cell 1, (H.out.blk 10 rfl).cell 2⟩) (fun hHeld => ?_)
            clear hKK KK
            try simp only [Act.put, List.setIfInBounds_toArray, List.set_cons_zero, List.set_cons_succ]
            refine wpAnyH_ready (rs := [10]) (by kernel_rfl) (by simp) ?_
            refine (AllReadyH.cons (get_ot (get_o0)) (fun KK hKK => ?_) AllReadyH.nil)
            go_simp
            refine hKK.out _ _ (by exact ⟨(H.out.blk 10 rfl).cell 0, (H.out.blk 10 rfl).cell 1, (H.out.blk 10 rfl).cell 2⟩) (fun hHeld => ?_)
            clear hKK KK
            try simp only [Act.put, List.setIfInBounds_toArray, List.set_cons_zero, List.set_cons_succ]
            refine wpAnyH_ready (rs := [11]) (by kernel_rfl) (by simp) ?_
            refine (AllReadyH.cons (get_ot (get_os (get_o0))) (fun KK hKK => ?_) AllReadyH.nil)
            refine step_buildSlice1 rfl E_tir (.tmp 40) rfl (#[.string ⟨tnm.toArray⟩, .slice A5 n3 c5, .slice A6 n4 c6]) rfl rfl (by omega) ?_
            replace H := Lib.hid (H.out.addRow ((Bel.refl _).alloc _) (own_made _ 78 (#[.string ⟨tnm.toArray⟩, .slice A5 n3 c5, .slice A6 n4 c6]) _ rfl)); (try simp only [List.set_cons_zero, List.set_cons_succ, List.cons_append, List.nil_append, List.eraseIdx_cons_zero, List.eraseIdx_cons_succ, List.setIfInBounds_toArray, World.size_alloc, selR, List.getD_cons_zero, List.getD_cons_succ] at H)
            refine hKK.out _ _ (by exact ⟨(H.out.blk 10 rfl).cell 0, (H.out.blk 10 rfl).cell 1, (H.out.blk 10 rfl).cell 2⟩) (fun hHeld => ?_)
            clear hKK KK
            try simp only [Act.put, List.setIfInBounds_toArray, List.set_cons_zero, List.set_cons_succ]
            refine wpAnyH_ready (rs := [12]) (by kernel_rfl) (by simp) ?_
            refine (AllReadyH.cons (get_ot (get_os (get_os (get_o0)))) (fun KK hKK => ?_) AllReadyH.nil)
            refine step_append0 rfl (.tmp 31) (.tmp 41) _ rfl E_tir 0 (Nat.zero_le _) _ j _ rfl (H.out.row 8 rfl) _ 1 1 _ rfl (Rd.of_own (H.out.row 13 rfl)) (by simp [Value.oneCell']) (by unfold maxLen; omega) (by omega) ?_
            intro vq wq howq hgq hatq
            replace H := Lib.hid (H.out.setRow 8 rfl hgq howq hatq); (try simp only [List.set_cons_zero, List.set_cons_succ, List.cons_append, List.nil_append, List.eraseIdx_cons_zero, List.eraseIdx_cons_succ, List.setIfInBounds_toArray, World.size_alloc, selR, List.getD_cons_zero, List.getD_cons_succ] at H)
            clear howq hgq hatq
            obtain ⟨B9, e9, rfl, _⟩ := own_slice (H.out.row 8 rfl)
            refine hKK.out _ _ (by exact ⟨(H.out.blk 10 rfl).cell 0, (H.out.blk 10 rfl).cell 1, (H.out.blk 10 rfl).cell 2⟩) (fun hHeld => ?_)
            clear hKK KK
            try simp only [Act.put, List.setIfInBounds_toArray, List.set_cons_zero, List.set_cons_succ]
            refine wpAnyH_ready (rs := [13]) (by kernel_rfl) (by simp) ?_
            refine (AllReadyH.cons (get_ot (get_os (get_os (get_os (get_o0))))) (fun KK hKK => ?_) AllReadyH.nil)
            go_simp
            refine hKK.out _ _ (by exact ⟨(H.out.blk 10 rfl).cell 0, (H.out.blk 10 rfl).cell 1, (H.out.blk 10 rfl).cell 2⟩) (fun hHeld => ?_)
            clear hKK KK
            try simp only [Act.put, List.setIfInBounds_toArray, List.set_cons_zero, List.set_cons_succ]
            refine wpAnyH_ready (rs := [14]) (by kernel_rfl) (by simp) ?_
            refine (AllReadyH.cons (get_ot (get_os (get_os (get_os (get_os (get_o0)))))) (fun KK hKK => ?_) AllReadyH.nil)
            have cv := (H.out.blk 7 rfl).cell 1; simp only [List.getElem?_toArray, List.getElem?_cons_zero, List.getElem?_cons_succ] at cv; have fv := (H.out.blk 7 rfl).frozen 1
            go_simp
            replace H := Lib.hid (H.out.setCell 7 rfl 1 (.slice B9 (j + 1) e9)); (try simp only [List.set_cons_zero, List.set_cons_succ, List.cons_append, List.nil_append, List.eraseIdx_cons_zero, List.eraseIdx_cons_succ, List.setIfInBounds_toArray, World.size_alloc, selR, List.getD_cons_zero, List.getD_cons_succ] at H)
            clear cv fv
            refine hKK.out _ _ (by exact ⟨(H.out.blk 10 rfl).cell 0, (H.out.blk 10 rfl).cell 1, (H.out.blk 10 rfl).cell 2⟩) (fun hHeld => ?_)
            clear hKK KK
            try simp only [Act.put, List.setIfInBounds_toArray, List.set_cons_zero, List.set_cons_succ]
            refine wpAnyH_done (by kernel_rfl) ?_ _
            clear hHeld
            clear HB
            replace H := Lib.hid (H.out.both 11 12 (by omega) rfl rfl (rTir ⟨tnm, ⟨A5, n3, c5, ts⟩, ⟨A6, n4, c6, ups⟩⟩) (holds_tir (base := 0) (show TirOwn 0 ⟨tnm, ⟨A5, n3, c5, ts⟩, ⟨A6, n4, c6, ups⟩⟩ _ from ⟨H.out.row 11 rfl, H.out.row 12 rfl, HTOk.out.1, HTOk.out.2.1, HTOk.out.2.2.1, HTOk.out.2.2.2.1, HTOk.out.2.2.2.2⟩)) (fun g hg => hg)); (try simp only [List.set_cons_zero, List.set_cons_succ, List.cons_append, List.nil_append, List.eraseIdx_cons_zero, List.eraseIdx_cons_succ, List.setIfInBounds_toArray, World.size_alloc, selR, List.getD_cons_zero, List.getD_cons_succ] at H)
            replace H := Lib.hid (H.out.both 9 11 (by omega) rfl rfl (rList rTir (accT ++ [⟨tnm, ⟨A5, n3, c5, ts⟩, ⟨A6, n4, c6, ups⟩⟩])) (holds_list_snoc (H.out.get 9 rfl) (H.out.get 11 rfl)) list_snoc_D); (try simp only [List.set_cons_zero, List.set_cons_succ, List.cons_append, List.nil_append, List.eraseIdx_cons_zero, List.eraseIdx_cons_succ, List.setIfInBounds_toArray, World.size_alloc, selR, List.getD_cons_zero, List.getD_cons_succ] at H)
            replace H := Lib.hid (H.out.sel [0, 1, 2, 3, 4, 5, 6, 7, 8, 9] (by decide) (by simp)); (try simp only [List.set_cons_zero, List.set_cons_succ, List.cons_append, List.nil_append, List.eraseIdx_cons_zero, List.eraseIdx_cons_succ, List.setIfInBounds_toArray, World.size_alloc, selR, List.getD_cons_zero, List.getD_cons_succ] at H)
            go_wp2_with fail
            go_roundg (tn - (j + 1))
            case rel => exact ⟨j + 1, accT ++ [⟨tnm, ⟨A5, n3, c5, ts⟩, ⟨A6, n4, c6, ups⟩⟩], B9, e9, rfl, by omega, by go_num, by show _ = _; rw [List.length_append, hjc.out]; rfl, by rw [List.flatMap_append, List.flatMap_cons, List.flatMap_nil, List.append_nil]; exact H, Lib.hid (HN.out _ rfl)⟩
            case measure => rw [Hgj.out]; omega
          · go_simp
            refine (HCT.out _ HB.out.drew).mono ?_; rintro e' w6 ⟨A5, c5, rfl, hb6, hown6⟩
            replace H := Lib.hid (H.out.addRow hb6 hown6); (try simp only [List.set_cons_zero, List.set_cons_succ, List.cons_append, List.nil_append, List.eraseIdx_cons_zero, List.eraseIdx_cons_succ, List.setIfInBounds_toArray, World.size_alloc, selR, List.getD_cons_zero, List.getD_cons_succ] at H)
            replace HB := Lib.hid (HB.out.drew.trans hb6)
            clear hb6 hown6
            refine hKK.out _ _ (by exact ⟨(H.out.blk 10 rfl).cell 0, (H.out.blk 10 rfl).cell 1, (H.out.blk 10 rfl).cell 2⟩) (fun hHeld => ?_)
            clear hKK KK
            try simp only [Act.put, List.setIfInBounds_toArray, List.set_cons_zero, List.set_cons_succ]
            refine wpAnyH_ready (rs := [1, 9]) (by kernel_rfl) (by simp) ?_
            refine (AllReadyH.cons (get_os (get_o0)) (fun KK hKK => ?_) (AllReadyH.cons (get_os (get_os (get_os (get_os (get_os (get_os (get_os (get_os (get_os (get_o0)))))))))) (fun KK hKK => ?_) AllReadyH.nil))
            · have cv := (H.out.blk 7 rfl).cell 1; simp only [List.getElem?_toArray, List.getElem?_cons_zero, List.getElem?_cons_succ] at cv
              go_simp
              clear cv
              refine hKK.out _ _ (by exact ⟨(H.out.blk 10 rfl).cell 0, (H.out.blk 10 rfl).cell 1, (H.out.blk 10 rfl).cell 2⟩) (fun hHeld => ?_)
              clear hKK KK
              try simp only [Act.put, List.setIfInBounds_toArray, List.set_cons_zero, List.set_cons_succ]
              refine wpAnyH_ready (rs := [9]) (by kernel_rfl) (by simp) ?_
              refine (AllReadyH.cons (get_os (get_os (get_os (get_os (get_os (get_os (get_os (get_os (get_os (get_o0)))))))))) (fun KK hKK => ?_) AllReadyH.nil)
              go_simp
              refine (HCI.out _ HB.out).mono ?_; rintro e' w7 ⟨A6, c6, rfl, hb7, hown7⟩
              replace H := Lib.hid (H.out.addRow hb7 hown7); (try simp only [List.set_cons_zero, List.set_cons_succ, List.cons_append, List.nil_append, List.eraseIdx_cons_zero, List.eraseIdx_cons_succ, List.setIfInBounds_toArray, World.size_alloc, selR, List.getD_cons_zero, List.getD_cons_succ] at H)
              replace HB := Lib.hid (HB.out.trans hb7)
              clear hb7 hown7
              refine hKK.out _ _ (by exact ⟨(H.out.blk 10 rfl).cell 0, (H.out.blk 10 rfl).cell 1, (H.out.blk 10 rfl).cell 2⟩) (fun hHeld => ?_)
              clear hKK KK
              try simp only [Act.put, List.setIfInBounds_toArray, List.set_cons_zero, List.set_cons_succ]
              refine wpAnyH_ready (rs := [10]) (by kernel_rfl) (by simp) ?_
              refine (AllReadyH.cons (get_ot (get_o0)) (fun KK hKK => ?_) AllReadyH.nil)
              go_simp
              refine hKK.out _ _ (by exact ⟨(H.out.blk 10 rfl).cell 0, (H.out.blk 10 rfl).cell 1, (H.out.blk 10 rfl).cell 2⟩) (fun hHeld => ?_)
              clear hKK KK
              try simp only [Act.put, List.setIfInBounds_toArray, List.set_cons_zero, List.set_cons_succ]
              refine wpAnyH_ready (rs := [11]) (by kernel_rfl) (by simp) ?_
              refine (AllReadyH.cons (get_ot (get_os (get_o0))) (fun KK hKK => ?_) AllReadyH.nil)
              refine step_buildSlice1 rfl E_tir (.tmp 40) rfl (#[.string ⟨tnm.toArray⟩, .slice A5 n3 c5, .slice A6 n4 c6]) rfl rfl (by omega) ?_
              replace H := Lib.hid (H.out.addRow ((Bel.refl _).alloc _) (own_made _ 78 (#[.string ⟨tnm.toArray⟩, .slice A5 n3 c5, .slice A6 n4 c6]) _ rfl)); (try simp only [List.set_cons_zero, List.set_cons_succ, List.cons_append, List.nil_append, List.eraseIdx_cons_zero, List.eraseIdx_cons_succ, List.setIfInBounds_toArray, World.size_alloc, selR, List.getD_cons_zero, List.getD_cons_succ] at H)
              refine hKK.out _ _ (by exact ⟨(H.out.blk 10 rfl).cell 0, (H.out.blk 10 rfl).cell 1, (H.out.blk 10 rfl).cell 2⟩) (fun hHeld => ?_)
              clear hKK KK
              try simp only [Act.put, List.setIfInBounds_toArray, List.set_cons_zero, List.set_cons_succ]
              refine wpAnyH_ready (rs := [12]) (by kernel_rfl) (by simp) ?_
              refine (AllReadyH.cons (get_ot (get_os (get_os (get_o0)))) (fun KK hKK => ?_) AllReadyH.nil)
              refine step_append0 rfl (.tmp 31) (.tmp 41) _ rfl E_tir 0 (Nat.zero_le _) _ j _ rfl (H.out.row 8 rfl) _ 1 1 _ rfl (Rd.of_own (H.out.row 13 rfl)) (by simp [Value.oneCell']) (by unfold maxLen; omega) (by omega) ?_
              intro vq wq howq hgq hatq
              replace H := Lib.hid (H.out.setRow 8 rfl hgq howq hatq); (try simp only [List.set_cons_zero, List.set_cons_succ, List.cons_append, List.nil_append, List.eraseIdx_cons_zero, List.eraseIdx_cons_succ, List.setIfInBounds_toArray, World.size_alloc, selR, List.getD_cons_zero, List.getD_cons_succ] at H)
              clear howq hgq hatq
              obtain ⟨B9, e9, rfl, _⟩ := own_slice (H.out.row 8 rfl)
              refine hKK.out _ _ (by exact ⟨(H.out.blk 10 rfl).cell 0, (H.out.blk 10 rfl).cell 1, (H.out.blk 10 rfl).cell 2⟩) (fun hHeld => ?_)
              clear hKK KK
              try simp only [Act.put, List.setIfInBounds_toArray, List.set_cons_zero, List.set_cons_succ]
              refine wpAnyH_ready (rs := [13]) (by kernel_rfl) (by simp) ?_
              refine (AllReadyH.cons (get_ot (get_os (get_os (get_os (get_o0))))) (fun KK hKK => ?_) AllReadyH.nil)
              go_simp
              refine hKK.out _ _ (by exact ⟨(H.out.blk 10 rfl).cell 0, (H.out.blk 10 rfl).cell 1, (H.out.blk 10 rfl).cell 2⟩) (fun hHeld => ?_)
              clear hKK KK
              try simp only [Act.put, List.setIfInBounds_toArray, List.set_cons_zero, List.set_cons_succ]
              refine wpAnyH_ready (rs := [14]) (by kernel_rfl) (by simp) ?_
              refine (AllReadyH.cons (get_ot (get_os (get_os (get_os (get_os (get_o0)))))) (fun KK hKK => ?_) AllReadyH.nil)
              have cv := (H.out.blk 7 rfl).cell 1; simp only [List.getElem?_toArray, List.getElem?_cons_zero, List.getElem?_cons_succ] at cv; have fv := (H.out.blk 7 rfl).frozen 1
              go_simp
              replace H := Lib.hid (H.out.setCell 7 rfl 1 (.slice B9 (j + 1) e9)); (try simp only [List.set_cons_zero, List.set_cons_succ, List.cons_append, List.nil_append, List.eraseIdx_cons_zero, List.eraseIdx_cons_succ, List.setIfInBounds_toArray, World.size_alloc, selR, List.getD_cons_zero, List.getD_cons_succ] at H)
              clear cv fv
              refine hKK.out _ _ (by exact ⟨(H.out.blk 10 rfl).cell 0, (H.out.blk 10 rfl).cell 1, (H.out.blk 10 rfl).cell 2⟩) (fun hHeld => ?_)
              clear hKK KK
              try simp only [Act.put, List.setIfInBounds_toArray, List.set_cons_zero, List.set_cons_succ]
              refine wpAnyH_done (by kernel_rfl) ?_ _
              clear hHeld
              clear HB
              replace H := Lib.hid (H.out.both 11 12 (by omega) rfl rfl (rTir ⟨tnm, ⟨A5, n3, c5, ts⟩, ⟨A6, n4, c6, ups⟩⟩) (holds_tir (base := 0) (show TirOwn 0 ⟨tnm, ⟨A5, n3, c5, ts⟩, ⟨A6, n4, c6, ups⟩⟩ _ from ⟨H.out.row 11 rfl, H.out.row 12 rfl, HTOk.out.1, HTOk.out.2.1, HTOk.out.2.2.1, HTOk.out.2.2.2.1, HTOk.out.2.2.2.2⟩)) (fun g hg => hg)); (try simp only [List.set_cons_zero, List.set_cons_succ, List.cons_append, List.nil_append, List.eraseIdx_cons_zero, List.eraseIdx_cons_succ, List.setIfInBounds_toArray, World.size_alloc, selR, List.getD_cons_zero, List.getD_cons_succ] at H)
              replace H := Lib.hid (H.out.both 9 11 (by omega) rfl rfl (rList rTir (accT ++ [⟨tnm, ⟨A5, n3, c5, ts⟩, ⟨A6, n4, c6, ups⟩⟩])) (holds_list_snoc (H.out.get 9 rfl) (H.out.get 11 rfl)) list_snoc_D); (try simp only [List.set_cons_zero, List.set_cons_succ, List.cons_append, List.nil_append, List.eraseIdx_cons_zero, List.eraseIdx_cons_succ, List.setIfInBounds_toArray, World.size_alloc, selR, List.getD_cons_zero, List.getD_cons_succ] at H)
              replace H := Lib.hid (H.out.sel [0, 1, 2, 3, 4, 5, 6, 7, 8, 9] (by decide) (by simp)); (try simp only [List.set_cons_zero, List.set_cons_succ, List.cons_append, List.nil_append, List.eraseIdx_cons_zero, List.eraseIdx_cons_succ, List.setIfInBounds_toArray, World.size_alloc, selR, List.getD_cons_zero, List.getD_cons_succ] at H)
              go_wp2_with fail
              go_roundg (tn - (j + 1))
              case rel => exact ⟨j + 1, accT ++ [⟨tnm, ⟨A5, n3, c5, ts⟩, ⟨A6, n4, c6, ups⟩⟩], B9, e9, rfl, by omega, by go_num, by show _ = _; rw [List.length_append, hjc.out]; rfl, by rw [List.flatMap_append, List.flatMap_cons, List.flatMap_nil, List.append_nil]; exact H, Lib.hid (HN.out _ rfl)⟩
              case measure => rw [Hgj.out]; omega
            · go_simp
              refine (HCI.out _ HB.out).mono ?_; rintro e' w7 ⟨A6, c6, rfl, hb7, hown7⟩
              replace H := Lib.hid (H.out.addRow hb7 hown7); (try simp only [List.set_cons_zero, List.set_cons_succ, List.cons_append, List.nil_append, List.eraseIdx_cons_zero, List.eraseIdx_cons_succ, List.setIfInBounds_toArray, World.size_alloc, selR, List.getD_cons_zero, List.getD_cons_succ] at H)
              replace HB := Lib.hid (HB.out.trans hb7)
              clear hb7 hown7
              refine hKK.out _ _ (by exact ⟨(H.out.blk 10 rfl).cell 0, (H.out.blk 10 rfl).cell 1, (H.out.blk 10 rfl).cell 2⟩) (fun hHeld => ?_)
              clear hKK KK
              try simp only [Act.put, List.setIfInBounds_toArray, List.set_cons_zero, List.set_cons_succ]
              refine wpAnyH_ready (rs := [1, 10]) (by kernel_rfl) (by simp) ?_
              refine (AllReadyH.cons (get_os (get_o0)) (fun KK hKK => ?_) (AllReadyH.cons (get_ot (get_o0)) (fun KK hKK => ?_) AllReadyH.nil))
              · have cv := (H.out.blk 7 rfl).cell 1; simp only [List.getElem?_toArray, List.getElem?_cons_zero, List.getElem?_cons_succ] at cv
                go_simp
                clear cv
                refine hKK.out _ _ (by exact ⟨(H.out.blk 10 rfl).cell 0, (H.out.blk 10 rfl).cell 1, (H.out.blk 10 rfl).cell 2⟩) (fun hHeld => ?_)
                clear hKK KK
                try simp only [Act.put, List.setIfInBounds_toArray, List.set_cons_zero, List.set_cons_succ]
                refine wpAnyH_ready (rs := [10]) (by kernel_rfl) (by simp) ?_
                refine (AllReadyH.cons (get_ot (get_o0)) (fun KK hKK => ?_) AllReadyH.nil)
                go_simp
                refine hKK.out _ _ (by exact ⟨(H.out.blk 10 rfl).cell 0, (H.out.blk 10 rfl).cell 1, (H.out.blk 10 rfl).cell 2⟩) (fun hHeld => ?_)
                clear hKK KK
                try simp only [Act.put, List.setIfInBounds_toArray, List.set_cons_zero, List.set_cons_succ]
                refine wpAnyH_ready (rs := [11]) (by kernel_rfl) (by simp) ?_
                refine (AllReadyH.cons (get_ot (get_os (get_o0))) (fun KK hKK => ?_) AllReadyH.nil)
                refine step_buildSlice1 rfl E_tir (.tmp 40) rfl (#[.string ⟨tnm.toArray⟩, .slice A5 n3 c5, .slice A6 n4 c6]) rfl rfl (by omega) ?_
                replace H := Lib.hid (H.out.addRow ((Bel.refl _).alloc _) (own_made _ 78 (#[.string ⟨tnm.toArray⟩, .slice A5 n3 c5, .slice A6 n4 c6]) _ rfl)); (try simp only [List.set_cons_zero, List.set_cons_succ, List.cons_append, List.nil_append, List.eraseIdx_cons_zero, List.eraseIdx_cons_succ, List.setIfInBounds_toArray, World.size_alloc, selR, List.getD_cons_zero, List.getD_cons_succ] at H)
                refine hKK.out _ _ (by exact ⟨(H.out.blk 10 rfl).cell 0, (H.out.blk 10 rfl).cell 1, (H.out.blk 10 rfl).cell 2⟩) (fun hHeld => ?_)
                clear hKK KK
                try simp only [Act.put, List.setIfInBounds_toArray, List.set_cons_zero, List.set_cons_succ]
                refine wpAnyH_ready (rs := [12]) (by kernel_rfl) (by simp) ?_
                refine (AllReadyH.cons (get_ot (get_os (get_os (get_o0)))) (fun KK hKK => ?_) AllReadyH.nil)
                refine step_append0 rfl (.tmp 31) (.tmp 41) _ rfl E_tir 0 (Nat.zero_le _) _ j _ rfl (H.out.row 8 rfl) _ 1 1 _ rfl (Rd.of_own (H.out.row 13 rfl)) (by simp [Value.oneCell']) (by unfold maxLen; omega) (by omega) ?_
                intro vq wq howq hgq hatq
                replace H := Lib.hid (H.out.setRow 8 rfl hgq howq hatq); (try simp only [List.set_cons_zero, List.set_cons_succ, List.cons_append, List.nil_append, List.eraseIdx_cons_zero, List.eraseIdx_cons_succ, List.setIfInBounds_toArray, World.size_alloc, selR, List.getD_cons_zero, List.getD_cons_succ] at H)
                clear howq hgq hatq
                obtain ⟨B9, e9, rfl, _⟩ := own_slice (H.out.row 8 rfl)
                refine hKK.out _ _ (by exact ⟨(H.out.blk 10 rfl).cell 0, (H.out.blk 10 rfl).cell 1, (H.out.blk 10 rfl).cell 2⟩) (fun hHeld => ?_)
                clear hKK KK
                try simp only [Act.put, List.setIfInBounds_toArray, List.set_cons_zero, List.set_cons_succ]
                refine wpAnyH_ready (rs := [13]) (by kernel_rfl) (by simp) ?_
                refine (AllReadyH.cons (get_ot (get_os (get_os (get_os (get_o0))))) (fun KK hKK => ?_) AllReadyH.nil)
                go_simp
                refine hKK.out _ _ (by exact ⟨(H.out.blk 10 rfl).cell 0, (H.out.blk 10 rfl).cell 1, (H.out.blk 10 rfl).cell 2⟩) (fun hHeld => ?_)
                clear hKK KK
                try simp only [Act.put, List.setIfInBounds_toArray, List.set_cons_zero, List.set_cons_succ]
                refine wpAnyH_ready (rs := [14]) (by kernel_rfl) (by simp) ?_
                refine (AllReadyH.cons (get_ot (get_os (get_os (get_os (get_os (get_o0)))))) (fun KK hKK => ?_) AllReadyH.nil)
                have cv := (H.out.blk 7 rfl).cell 1; simp only [List.getElem?_toArray, List.getElem?_cons_zero, List.getElem?_cons_succ] at cv; have fv := (H.out.blk 7 rfl).frozen 1
                go_simp
                replace H := Lib.hid (H.out.setCell 7 rfl 1 (.slice B9 (j + 1) e9)); (try simp only [List.set_cons_zero, List.set_cons_succ, List.cons_append, List.nil_append, List.eraseIdx_cons_zero, List.eraseIdx_cons_succ, List.setIfInBounds_toArray, World.size_alloc, selR, List.getD_cons_zero, List.getD_cons_succ] at H)
                clear cv fv
                refine hKK.out _ _ (by exact ⟨(H.out.blk 10 rfl).cell 0, (H.out.blk 10 rfl).cell 1, (H.out.blk 10 rfl).cell 2⟩) (fun hHeld => ?_)
                clear hKK KK
                try simp only [Act.put, List.setIfInBounds_toArray, List.set_cons_zero, List.set_cons_succ]
                refine wpAnyH_done (by kernel_rfl) ?_ _
                clear hHeld
                clear HB
                replace H := Lib.hid (H.out.both 11 12 (by omega) rfl rfl (rTir ⟨tnm, ⟨A5, n3, c5, ts⟩, ⟨A6, n4, c6, ups⟩⟩) (holds_tir (base := 0) (show TirOwn 0 ⟨tnm, ⟨A5, n3, c5, ts⟩, ⟨A6, n4, c6, ups⟩⟩ _ from ⟨H.out.row 11 rfl, H.out.row 12 rfl, HTOk.out.1, HTOk.out.2.1, HTOk.out.2.2.1, HTOk.out.2.2.2.1, HTOk.out.2.2.2.2⟩)) (fun g hg => hg)); (try simp only [List.set_cons_zero, List.set_cons_succ, List.cons_append, List.nil_append, List.eraseIdx_cons_zero, List.eraseIdx_cons_succ, List.setIfInBounds_toArray, World.size_alloc, selR, List.getD_cons_zero, List.getD_cons_succ] at H)
                replace H := Lib.hid (H.out.both 9 11 (by omega) rfl rfl (rList rTir (accT ++ [⟨tnm, ⟨A5, n3, c5, ts⟩, ⟨A6, n4, c6, ups⟩⟩])) (holds_list_snoc (H.out.get 9 rfl) (H.out.get 11 rfl)) list_snoc_D); (try simp only [List.set_cons_zero, List.set_cons_succ, List.cons_append, List.nil_append, List.eraseIdx_cons_zero, List.eraseIdx_cons_succ, List.setIfInBounds_toArray, World.size_alloc, selR, List.getD_cons_zero, List.getD_cons_succ] at H)
                replace H := Lib.hid (H.out.sel [0, 1, 2, 3, 4, 5, 6, 7, 8, 9] (by decide) (by simp)); (try simp only [List.set_cons_zero, List.set_cons_succ, List.cons_append, List.nil_append, List.eraseIdx_cons_zero, List.eraseIdx_cons_succ, List.setIfInBounds_toArray, World.size_alloc, selR, List.getD_cons_zero, List.getD_cons_succ] at H)
                go_wp2_with fail
                go_roundg (tn - (j + 1))
                case rel => exact ⟨j + 1, accT ++ [⟨tnm, ⟨A5, n3, c5, ts⟩, ⟨A6, n4, c6, ups⟩⟩], B9, e9, rfl, by omega, by go_num, by show _ = _; rw [List.length_append, hjc.out]; rfl, by rw [List.flatMap_append, List.flatMap_cons, List.flatMap_nil, List.append_nil]; exact H, Lib.hid (HN.out _ rfl)⟩
                case measure => rw [Hgj.out]; omega
              · go_simp
                refine hKK.out _ _ (by exact ⟨(H.out.blk 10 rfl).cell 0, (H.out.blk 10 rfl).cell 1, (H.out.blk 10 rfl).cell 2⟩) (fun hHeld => ?_)
                clear hKK KK
                try simp only [Act.put, List.setIfInBounds_toArray, List.set_cons_zero, List.set_cons_succ]
                refine wpAnyH_ready (rs := [1, 11]) (by kernel_rfl) (by simp) ?_
                refine (AllReadyH.cons (get_os (get_o0)) (fun KK hKK => ?_) (AllReadyH.cons (get_ot (get_os (get_o0))) (fun KK hKK => ?_) AllReadyH.nil))
                · have cv := (H.out.blk 7 rfl).cell 1; simp only [List.getElem?_toArray, List.getElem?_cons_zero, List.getElem?_cons_succ] at cv
                  go_simp
                  clear cv
                  refine hKK.out _ _ (by exact ⟨(H.out.blk 10 rfl).cell 0, (H.out.blk 10 rfl).cell 1, (H.out.blk 10 rfl).cell 2⟩) (fun hHeld => ?_)
                  clear hKK KK
                  try simp only [Act.put, List.setIfInBounds_toArray, List.set_cons_zero, List.set_cons_succ]
                  refine wpAnyH_ready (rs := [11]) (by kernel_rfl) (by simp) ?_
                  refine (AllReadyH.cons (get_ot (get_os (get_o0))) (fun KK hKK => ?_) AllReadyH.nil)
                  refine step_buildSlice1 rfl E_tir (.tmp 40) rfl (#[.string ⟨tnm.toArray⟩, .slice A5 n3 c5, .slice A6 n4 c6]) rfl rfl (by omega) ?_
                  replace H := Lib.hid (H.out.addRow ((Bel.refl _).alloc _) (own_made _ 78 (#[.string ⟨tnm.toArray⟩, .slice A5 n3 c5, .slice A6 n4 c6]) _ rfl)); (try simp only [List.set_cons_zero, List.set_cons_succ, List.cons_append, List.nil_append, List.eraseIdx_cons_zero, List.eraseIdx_cons_succ, List.setIfInBounds_toArray, World.size_alloc, selR, List.getD_cons_zero, List.getD_cons_succ] at H)
                  refine hKK.out _ _ (by exact ⟨(H.out.blk 10 rfl).cell 0, (H.out.blk 10 rfl).cell 1, (H.out.blk 10 rfl).cell 2⟩) (fun hHeld => ?_)
                  clear hKK KK
                  try simp only [Act.put, List.setIfInBounds_toArray, List.set_cons_zero, List.set_cons_succ]
                  refine wpAnyH_ready (rs := [12]) (by kernel_rfl) (by simp) ?_
                  refine (AllReadyH.cons (get_ot (get_os (get_os (get_o0)))) (fun KK hKK => ?_) AllReadyH.nil)
                  refine step_append0 rfl (.tmp 31) (.tmp 41) _ rfl E_tir 0 (Nat.zero_le _) _ j _ rfl (H.out.row 8 rfl) _ 1 1 _ rfl (Rd.of_own (H.out.row 13 rfl)) (by simp [Value.oneCell']) (by unfold maxLen; omega) (by omega) ?_
                  intro vq wq howq hgq hatq
                  replace H := Lib.hid (H.out.setRow 8 rfl hgq howq hatq); (try simp only [List.set_cons_zero, List.set_cons_succ, List.cons_append, List.nil_append, List.eraseIdx_cons_zero, List.eraseIdx_cons_succ, List.setIfInBounds_toArray, World.size_alloc, selR, List.getD_cons_zero, List.getD_cons_succ] at H)
                  clear howq hgq hatq
                  obtain ⟨B9, e9, rfl, _⟩ := own_slice (H.out.row 8 rfl)
                  refine hKK.out _ _ (by exact ⟨(H.out.blk 10 rfl).cell 0, (H.out.blk 10 rfl).cell 1, (H.out.blk 10 rfl).cell 2⟩) (fun hHeld => ?_)
                  clear hKK KK
                  try simp only [Act.put, List.setIfInBounds_toArray, List.set_cons_zero, List.set_cons_succ]
                  refine wpAnyH_ready (rs := [13]) (by kernel_rfl) (by simp) ?_
                  refine (AllReadyH.cons (get_ot (get_os (get_os (get_os (get_o0))))) (fun KK hKK => ?_) AllReadyH.nil)
                  go_simp
                  refine hKK.out _ _ (by exact ⟨(H.out.blk 10 rfl).cell 0, (H.out.blk 10 rfl).cell 1, (H.out.blk 10 rfl).cell 2⟩) (fun hHeld => ?_)
                  clear hKK KK
                  try simp only [Act.put, List.setIfInBounds_toArray, List.set_cons_zero, List.set_cons_succ]
                  refine wpAnyH_ready (rs := [14]) (by kernel_rfl) (by simp) ?_
                  refine (AllReadyH.cons (get_ot (get_os (get_os (get_os (get_os (get_o0)))))) (fun KK hKK => ?_) AllReadyH.nil)
                  have cv := (H.out.blk 7 rfl).cell 1; simp only [List.getElem?_toArray, List.getElem?_cons_zero, List.getElem?_cons_succ] at cv; have fv := (H.out.blk 7 rfl).frozen 1
                  go_simp
                  replace H := Lib.hid (H.out.setCell 7 rfl 1 (.slice B9 (j + 1) e9)); (try simp only [List.set_cons_zero, List.set_cons_succ, List.cons_append, List.nil_append, List.eraseIdx_cons_zero, List.eraseIdx_cons_succ, List.setIfInBounds_toArray, World.size_alloc, selR, List.getD_cons_zero, List.getD_cons_succ] at H)
                  clear cv fv
                  refine hKK.out _ _ (by exact ⟨(H.out.blk 10 rfl).cell 0, (H.out.blk 10 rfl).cell 1, (H.out.blk 10 rfl).cell 2⟩) (fun hHeld => ?_)
                  clear hKK KK
                  try simp only [Act.put, List.setIfInBounds_toArray, List.set_cons_zero, List.set_cons_succ]
                  refine wpAnyH_done (by kernel_rfl) ?_ _
                  clear hHeld
                  clear HB
                  replace H := Lib.hid (H.out.both 11 12 (by omega) rfl rfl (rTir ⟨tnm, ⟨A5, n3, c5, ts⟩, ⟨A6, n4, c6, ups⟩⟩) (holds_tir (base := 0) (show TirOwn 0 ⟨tnm, ⟨A5, n3, c5, ts⟩, ⟨A6, n4, c6, ups⟩⟩ _ from ⟨H.out.row 11 rfl, H.out.row 12 rfl, HTOk.out.1, HTOk.out.2.1, HTOk.out.2.2.1, HTOk.out.2.2.2.1, HTOk.out.2.2.2.2⟩)) (fun g hg => hg)); (try simp only [List.set_cons_zero, List.set_cons_succ, List.cons_append, List.nil_append, List.eraseIdx_cons_zero, List.eraseIdx_cons_succ, List.setIfInBounds_toArray, World.size_alloc, selR, List.getD_cons_zero, List.getD_cons_succ] at H)
                  replace H := Lib.hid (H.out.both 9 11 (by omega) rfl rfl (rList rTir (accT ++ [⟨tnm, ⟨A5, n3, c5, ts⟩, ⟨A6, n4, c6, ups⟩⟩])) (holds_list_snoc (H.out.get 9 rfl) (H.out.get 11 rfl)) list_snoc_D); (try simp only [List.set_cons_zero, List.set_cons_succ, List.cons_append, List.nil_append, List.eraseIdx_cons_zero, List.eraseIdx_cons_succ, List.setIfInBounds_toArray, World.size_alloc, selR, List.getD_cons_zero, List.getD_cons_succ] at H)
                  replace H := Lib.hid (H.out.sel [0, 1, 2, 3, 4, 5, 6, 7, 8, 9] (by decide) (by simp)); (try simp only [List.set_cons_zero, List.set_cons_succ, List.cons_append, List.nil_append, List.eraseIdx_cons_zero, List.eraseIdx_cons_succ, List.setIfInBounds_toArray, World.size_alloc, selR, List.getD_cons_zero, List.getD_cons_succ] at H)
                  go_wp2_with fail
                  go_roundg (tn - (j + 1))
                  case rel => exact ⟨j + 1, accT ++ [⟨tnm, ⟨A5, n3, c5, ts⟩, ⟨A6, n4, c6, ups⟩⟩], B9, e9, rfl, by omega, by go_num, by show _ = _; rw [List.length_append, hjc.out]; rfl, by rw [List.flatMap_append, List.flatMap_cons, List.flatMap_nil, List.append_nil]; exact H, Lib.hid (HN.out _ rfl)⟩
                  case measure => rw [Hgj.out]; omega
                · refine step_buildSlice1 rfl E_tir (.tmp 40) rfl (#[.string ⟨tnm.toArray⟩, .slice A5 n3 c5, .slice A6 n4 c6]) rfl rfl (by omega) ?_
                  replace H := Lib.hid (H.out.addRow ((Bel.refl _).alloc _) (own_made _ 78 (#[.string ⟨tnm.toArray⟩, .slice A5 n3 c5, .slice A6 n4 c6]) _ rfl)); (try simp only [List.set_cons_zero, List.set_cons_succ, List.cons_append, List.nil_append, List.eraseIdx_cons_zero, List.eraseIdx_cons_succ, List.setIfInBounds_toArray, World.size_alloc, selR, List.getD_cons_zero, List.getD_cons_succ] at H)
                  refine hKK.out _ _ (by exact ⟨(H.out.blk 10 rfl).cell 0, (H.out.blk 10 rfl).cell 1, (H.out.blk 10 rfl).cell 2⟩) (fun hHeld => ?_)
                  clear hKK KK
                  try simp only [Act.put, List.setIfInBounds_toArray, List.set_cons_zero, List.set_cons_succ]
                  refine wpAnyH_ready (rs := [1]) (by kernel_rfl) (by simp) ?_
                  refine (AllReadyH.cons (get_os (get_o0)) (fun KK hKK => ?_) AllReadyH.nil)
                  have cv := (H.out.blk 7 rfl).cell 1; simp only [List.getElem?_toArray, List.getElem?_cons_zero, List.getElem?_cons_succ] at cv
                  go_simp
                  clear cv
                  refine hKK.out _ _ (by exact ⟨(H.out.blk 10 rfl).cell 0, (H.out.blk 10 rfl).cell 1, (H.out.blk 10 rfl).cell 2⟩) (fun hHeld => ?_)
                  clear hKK KK
                  try simp only [Act.put, List.setIfInBounds_toArray, List.set_cons_zero, List.set_cons_succ]
                  refine wpAnyH_ready (rs := [12]) (by kernel_rfl) (by simp) ?_
                  refine (AllReadyH.cons (get_ot (get_os (get_os (get_o0)))) (fun KK hKK => ?_) AllReadyH.nil)
                  refine step_append0 rfl (.tmp 31) (.tmp 41) _ rfl E_tir 0 (Nat.zero_le _) _ j _ rfl (H.out.row 8 rfl) _ 1 1 _ rfl (Rd.of_own (H.out.row 13 rfl)) (by simp [Value.oneCell']) (by unfold maxLen; omega) (by omega) ?_
                  intro vq wq howq hgq hatq
                  replace H := Lib.hid (H.out.setRow 8 rfl hgq howq hatq); (try simp only [List.set_cons_zero, List.set_cons_succ, List.cons_append, List.nil_append, List.eraseIdx_cons_zero, List.eraseIdx_cons_succ, List.setIfInBounds_toArray, World.size_alloc, selR, List.getD_cons_zero, List.getD_cons_succ] at H)
                  clear howq hgq hatq
                  obtain ⟨B9, e9, rfl, _⟩ := own_slice (H.out.row 8 rfl)
                  refine hKK.out _ _ (by exact ⟨(H.out.blk 10 rfl).cell 0, (H.out.blk 10 rfl).cell 1, (H.out.blk 10 rfl).cell 2⟩) (fun hHeld => ?_)
                  clear hKK KK
                  try simp only [Act.put, List.setIfInBounds_toArray, List.set_cons_zero, List.set_cons_succ]
                  refine wpAnyH_ready (rs := [13]) (by kernel_rfl) (by simp) ?_
                  refine (AllReadyH.cons (get_ot (get_os (get_os (get_os (get_o0))))) (fun KK hKK => ?_) AllReadyH.nil)
                  go_simp
                  refine hKK.out _ _ (by exact ⟨(H.out.blk 10 rfl).cell 0, (H.out.blk 10 rfl).cell 1, (H.out.blk 10 rfl).cell 2⟩) (fun hHeld => ?_)
                  clear hKK KK
                  try simp only [Act.put, List.setIfInBounds_toArray, List.set_cons_zero, List.set_cons_succ]
                  refine wpAnyH_ready (rs := [14]) (by kernel_rfl) (by simp) ?_
                  refine (AllReadyH.cons (get_ot (get_os (get_os (get_os (get_os (get_o0)))))) (fun KK hKK => ?_) AllReadyH.nil)
                  have cv := (H.out.blk 7 rfl).cell 1; simp only [List.getElem?_toArray, List.getElem?_cons_zero, List.getElem?_cons_succ] at cv; have fv := (H.out.blk 7 rfl).frozen 1
                  go_simp
                  replace H := Lib.hid (H.out.setCell 7 rfl 1 (.slice B9 (j + 1) e9)); (try simp only [List.set_cons_zero, List.set_cons_succ, List.cons_append, List.nil_append, List.eraseIdx_cons_zero, List.eraseIdx_cons_succ, List.setIfInBounds_toArray, World.size_alloc, selR, List.getD_cons_zero, List.getD_cons_succ] at H)
                  clear cv fv
                  refine hKK.out _ _ (by exact ⟨(H.out.blk 10 rfl).cell 0, (H.out.blk 10 rfl).cell 1, (H.out.blk 10 rfl).cell 2⟩) (fun hHeld => ?_)
                  clear hKK KK
                  try simp only [Act.put, List.setIfInBounds_toArray, List.set_cons_zero, List.set_cons_succ]
                  refine wpAnyH_done (by kernel_rfl) ?_ _
                  clear hHeld
                  clear HB
                  replace H := Lib.hid (H.out.both 11 12 (by omega) rfl rfl (rTir ⟨tnm, ⟨A5, n3, c5, ts⟩, ⟨A6, n4, c6, ups⟩⟩) (holds_tir (base := 0) (show TirOwn 0 ⟨tnm, ⟨A5, n3, c5, ts⟩, ⟨A6, n4, c6, ups⟩⟩ _ from ⟨H.out.row 11 rfl, H.out.row 12 rfl, HTOk.out.1, HTOk.out.2.1, HTOk.out.2.2.1, HTOk.out.2.2.2.1, HTOk.out.2.2.2.2⟩)) (fun g hg => hg)); (try simp only [List.set_cons_zero, List.set_cons_succ, List.cons_append, List.nil_append, List.eraseIdx_cons_zero, List.eraseIdx_cons_succ, List.setIfInBounds_toArray, World.size_alloc, selR, List.getD_cons_zero, List.getD_cons_succ] at H)
                  replace H := Lib.hid (H.out.both 9 11 (by omega) rfl rfl (rList rTir (accT ++ [⟨tnm, ⟨A5, n3, c5, ts⟩, ⟨A6, n4, c6, ups⟩⟩])) (holds_list_snoc (H.out.get 9 rfl) (H.out.get 11 rfl)) list_snoc_D); (try simp only [List.set_cons_zero, List.set_cons_succ, List.cons_append, List.nil_append, List.eraseIdx_cons_zero, List.eraseIdx_cons_succ, List.setIfInBounds_toArray, World.size_alloc, selR, List.getD_cons_zero, List.getD_cons_succ] at H)
                  replace H := Lib.hid (H.out.sel [0, 1, 2, 3, 4, 5, 6, 7, 8, 9] (by decide) (by simp)); (try simp only [List.set_cons_zero, List.set_cons_succ, List.cons_append, List.nil_append, List.eraseIdx_cons_zero, List.eraseIdx_cons_succ, List.setIfInBounds_toArray, World.size_alloc, selR, List.getD_cons_zero, List.getD_cons_succ] at H)
                  go_wp2_with fail
                  go_roundg (tn - (j + 1))
                  case rel => exact ⟨j + 1, accT ++ [⟨tnm, ⟨A5, n3, c5, ts⟩, ⟨A6, n4, c6, ups⟩⟩], B9, e9, rfl, by omega, by go_num, by show _ = _; rw [List.length_append, hjc.out]; rfl, by rw [List.flatMap_append, List.flatMap_cons, List.flatMap_nil, List.append_nil]; exact H, Lib.hid (HN.out _ rfl)⟩
                  case measure => rw [Hgj.out]; omega
        · obtain rfl : j = tn := by omega
          have HN3 : Hid ((acc ++ [(⟨nm, ⟨B, j, e, accT⟩⟩ : Dm)]).map Dm.con = (ds.map Dm.con).take (k + 1)) := by
            show _ = _
            rw [List.map_append, H0N.out, take_snoc_get HDC.out]
            have h := HN2.out
            rw [List.take_of_length_le (by rw [List.length_map, tl.out]; omega)] at h
            show _ ++ [(⟨nm, accT.map Tir.con⟩ : DC)] = _
            rw [h]
          clear HN2
          replace H := Lib.hid (H.out.both 8 9 (by omega) rfl rfl (rDm ⟨nm, ⟨B, j, e, accT⟩⟩) (holds_dm (by omega) (by omega) (H.out.get 8 rfl) (H.out.get 9 rfl)) (fun g hg => hg)); (try simp only [List.set_cons_zero, List.set_cons_succ, List.cons_append, List.nil_append, List.eraseIdx_cons_zero, List.eraseIdx_cons_succ, List.setIfInBounds_toArray, World.size_alloc, selR, List.getD_cons_zero, List.getD_cons_succ] at H)
          have cz0 := (H.out.blk 2 rfl).cell 0; simp only [List.getElem?_toArray, List.getElem?_cons_zero, List.getElem?_cons_succ] at cz0
          go_wp2_with (first | ((with_reducible show wpList _ _ _ (⟨some 47, _, _, _, _, _⟩ :: _) _ _); (refine wpList_load_blk rfl rowDm (.tmp 6) rfl _ rfl (H.out.blk 7 rfl) rfl ?_)) | ((with_reducible show wpList _ _ _ (⟨some 48, _, _, _, _, _⟩ :: _) _ _); (refine wpList_buildSlice1 rfl E_dm (.tmp 47) rfl (#[.string ⟨nm.toArray⟩, .slice B j e]) rfl rfl (by omega) ?_; replace H := Lib.hid (H.out.addRow ((Bel.refl _).alloc _) (own_made _ 81 (#[.string ⟨nm.toArray⟩, .slice B j e]) _ rfl)); (try simp only [List.set_cons_zero, List.set_cons_succ, List.cons_append, List.nil_append, List.eraseIdx_cons_zero, List.eraseIdx_cons_succ, List.setIfInBounds_toArray, World.size_alloc, selR, List.getD_cons_zero, List.getD_cons_succ] at H); clear cz0; have cz0 := (H.out.blk 2 rfl).cell 0; simp only [List.getElem?_toArray, List.getElem?_cons_zero, List.getElem?_cons_succ] at cz0)) | ((with_reducible show wpList _ _ _ (⟨some 49, _, _, _, _, _⟩ :: _) _ _); (refine wpList_append0 rfl (.tmp 46) (.tmp 48) _ rfl E_dm 0 (Nat.zero_le _) _ k _ rfl (H.out.row 3 rfl) _ 1 1 _ rfl (Rd.of_own (H.out.row 9 rfl)) (dm1_one ⟨nm, ⟨B, j, e, accT⟩⟩) (by unfold maxLen; omega) (by omega) ?_; intro vq wq howq hgq hatq; replace H := Lib.hid (H.out.setRow 3 rfl hgq howq hatq); (try simp only [List.set_cons_zero, List.set_cons_succ, List.cons_append, List.nil_append, List.eraseIdx_cons_zero, List.eraseIdx_cons_succ, List.setIfInBounds_toArray, World.size_alloc, selR, List.getD_cons_zero, List.getD_cons_succ] at H); clear howq hgq hatq; obtain ⟨A9, c9, rfl, _⟩ := own_slice (H.out.row 3 rfl); clear cz0; have cz0 := (H.out.blk 2 rfl).cell 0; simp only [List.getElem?_toArray, List.getElem?_cons_zero, List.getElem?_cons_succ] at cz0; have fz0 := (H.out.blk 2 rfl).frozen 0)))
          replace H := Lib.hid (H.out.setCell 2 rfl 0 (.slice A9 (k + 1) c9)); (try simp only [List.set_cons_zero, List.set_cons_succ, List.cons_append, List.nil_append, List.eraseIdx_cons_zero, List.eraseIdx_cons_succ, List.setIfInBounds_toArray, World.size_alloc, selR, List.getD_cons_zero, List.getD_cons_succ] at H)
          replace H := Lib.hid (H.out.both 4 8 (by omega) rfl rfl (rList rDm (acc ++ [⟨nm, ⟨B, j, e, accT⟩⟩])) (holds_list_snoc (H.out.get 4 rfl) (H.out.get 8 rfl)) list_snoc_D); (try simp only [List.set_cons_zero, List.set_cons_succ, List.cons_append, List.nil_append, List.eraseIdx_cons_zero, List.eraseIdx_cons_succ, List.setIfInBounds_toArray, World.size_alloc, selR, List.getD_cons_zero, List.getD_cons_succ] at H)
          replace H := Lib.hid (H.out.sel [0, 1, 2, 3, 4, 5] (by decide) (by simp)); (try simp only [List.set_cons_zero, List.set_cons_succ, List.cons_append, List.nil_append, List.eraseIdx_cons_zero, List.eraseIdx_cons_succ, List.setIfInBounds_toArray, World.size_alloc, selR, List.getD_cons_zero, List.getD_cons_succ] at H)
          clear cz0 fz0
          go_wp2_with fail
          go_roundg (n - (k + 1))
          case rel => exact ⟨k + 1, acc ++ [⟨nm, ⟨B, j, e, accT⟩⟩], A9, c9, rfl, by omega, by go_num, by show _ = _; rw [List.length_append, hkc.out]; rfl, by rw [List.flatMap_append, List.flatMap_cons, List.flatMap_nil, List.append_nil]; exact H, HN3⟩
          case measure => rw [Hgk.out]; omega
    · obtain rfl : k = n := by omega
      have HN3 : Hid (acc.map Dm.con = ds.map Dm.con) := by
        have h := HN.out
        rw [List.take_of_length_le (by rw [List.length_map, hl1.out]; omega)] at h
        exact h
      replace H := Lib.hid (H.out.both 3 4 (by omega) rfl rfl (rX acc A k c) (holds_X (H.out.get 3 rfl) (H.out.get 4 rfl)) (fun g hg => hg)); (try simp only [List.set_cons_zero, List.set_cons_succ, List.cons_append, List.nil_append, List.eraseIdx_cons_zero, List.eraseIdx_cons_succ, List.setIfInBounds_toArray, World.size_alloc, selR, List.getD_cons_zero, List.getD_cons_succ] at H)
      replace H := Lib.hid (H.out.both 3 4 (by omega) rfl rfl (rSch ⟨⟨A, k, c, acc⟩, ⟨MB, mn, md, ms⟩⟩) (holds_sch (of_X (H.out.get 3 rfl)).1 (of_X (H.out.get 3 rfl)).2 (H.out.get 4 rfl) HML.out (by omega) (by omega)) (fun g hg => hg.elim (fun h => .inl (.inl h)) (fun h => h.elim (fun h => .inl (.inr h)) .inr))); (try simp only [List.set_cons_zero, List.set_cons_succ, List.cons_append, List.nil_append, List.eraseIdx_cons_zero, List.eraseIdx_cons_succ, List.setIfInBounds_toArray, World.size_alloc, selR, List.getD_cons_zero, List.getD_cons_succ] at H)
      go_wp2_with (first | ((with_reducible show wpList _ _ _ (⟨some 52, _, _, _, _, _⟩ :: _) _ _); (refine wpList_load_blk rfl rowSch (.tmp 3) rfl _ rfl (H.out.blk 2 rfl) rfl ?_)) | ((with_reducible show wpList _ _ _ (⟨_, .store _ (.tmp 2) _, _, _, _, _⟩ :: _) _ _); (refine wpList_store_blk rfl rowSch (.tmp 2) (.tmp 52) rfl _ rfl (H.out.blk 1 rfl) rfl (#[.slice A k c, .slice MB mn md]) rfl rfl (by simp [Value.oneCell']) ?_; intro wq bq hgq; replace H := Lib.hid (H.out.setBlk 1 rfl hgq bq); (try simp only [List.set_cons_zero, List.set_cons_succ, List.cons_append, List.nil_append, List.eraseIdx_cons_zero, List.eraseIdx_cons_succ, List.setIfInBounds_toArray, World.size_alloc, selR, List.getD_cons_zero, List.getD_cons_succ] at H); clear hgq bq)))
      refine bodyPost_ret (results_blk1 rfl rowSch rfl (H.out.blk 1 rfl) rfl) rfl ?_
      exact ⟨⟨⟨A, k, c, acc⟩, ⟨MB, mn, md, ms⟩⟩, rfl, by show (⟨_, _⟩ : SC) = ⟨_, _⟩; rw [HN3.out], H.out.to, H.out.get 3 rfl, H.out.new 3 rfl⟩

end Go.Proofs.Ytigjghfonpfdlaa
