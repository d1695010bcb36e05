/- Texts laid together: XCatA XCatB XCatC XCatD XCatE XCatP XCatT XCatU XCatO XCatW. -/
import Derived.Test.YtnekknemjhlgdaaAskR
import Derived.Test.YtnekknemjhlgdaaSchR
import Derived.Test.YtnekknemjhlgdaaBb
import Derived.ChangeKeysEq
import Derived.Test.YtnekknemjhlgdaaSchZ
import Derived.Test.YtnekknemjhlgdaaSchY
import Derived.Test.YtnekknemjhlgdaaBc
import Derived.Test.YtnekknemjhlgdaaBa
import Derived.Test.YtnekknemjhlgdaaSchemaChecksW

namespace Go.Proofs.Ytnekknemjhlgdaa
open Go.RowKit
set_option linter.unusedVariables false
set_option linter.unusedSimpArgs false

set_option maxRecDepth 100000 in
set_option maxHeartbeats 1000000 in
theorem cloneT_any (x : Row (List UInt8)) (w : World) (hx : x.rd w) (hn : x.n ≤ 1000000) :
    Calls Try.prog 133 #[.slice x.A x.n x.c] w fun e w' => ∃ (A : Option Addr) (c : Nat), e = .returned (.slice A x.n c) ∧ Bel w w' ∧ w'.ownsRow w.heap.size 9 1 (.slice A x.n c) x.n (x.l.map tx) := by
  have hr : Rd w 1 x.A x.n (x.l.map tx) := hx.texts
  have hlen : Hid (x.l.length = x.n) := hx.len
  obtain ⟨A, n, c, l⟩ := x
  simp only at *
  clear hx
  cases A with
  | none =>
    obtain rfl : n = 0 := by
      rcases Nat.eq_zero_or_pos n with h | h
      · exact h
      · obtain ⟨ad, e, _⟩ := hr.2 h; cases e
    have hl : l = [] := List.eq_nil_of_length_eq_zero hlen.out
    subst hl
    have he := fun (c : Nat) (w : World) => Lib.run_eql_slice_nil (P := Try.prog) w 23 9 none 0 c 0 0 Try.underlying23
    go_enter Try.func133, Try.ntmps133
    go_wp2
    go_ret
    exact ⟨none, 0, rfl, Bel.refl _, World.ownsRow_nil _ _ _ _⟩
  | some ad =>
    have he := fun (n c : Nat) (w : World) => Lib.run_eql_slice_nil (P := Try.prog) w 23 9 (some ad) n c 0 0 Try.underlying23
    have hbs : ∀ w : World, (Instr.buildSlice 23 0 #[]).run Try.prog w = .ok (.slice (some ⟨w.heap.size, 0, none⟩) 0 0) (w.alloc (.cells #[] 9)) := fun _ => by kernel_rfl
    have hown : (w.alloc (.cells #[] 9)).ownsRow w.heap.size 9 1 (.slice (some ⟨w.heap.size, 0, none⟩) 0 0) 0 [] := ⟨rfl, .inr ⟨w.heap.size, 0, #[], rfl, Nat.le_refl _, heap_alloc_new w _, Nat.le_refl _, Nat.zero_le _, rfl, rfl⟩⟩
    go_enter Try.func133, Try.ntmps133
    go_wp2_with ((with_reducible show wpList _ _ _ (⟨some 7, _, _, _, _, _⟩ :: _) _ _); refine wpList_append1 rfl (.tmp 5) (.tmp 6) _ rfl E_text w ((Bel.refl w).alloc _) _ 0 [] rfl hown (some ad) n c (l.map tx) rfl (hr.bel ((Bel.refl w).alloc _)) (by simp [Value.oneCell', tx]) (by unfold maxLen; omega) (by omega) ?_; intro v2 w2 hown2 hB2 hg2 hat2)
    go_ret
    simp only [Nat.zero_add, List.nil_append] at hown2
    obtain ⟨A2, c2, rfl, hc2⟩ := own_slice hown2
    exact ⟨A2, c2, rfl, hB2, hown2⟩
set_option maxRecDepth 100000 in
set_option maxHeartbeats 1000000 in
theorem cloneI_any (x : Row (Int)) (w : World) (hx : x.rd w) (hn : x.n ≤ 1000000) :
    Calls Try.prog 121 #[.slice x.A x.n x.c] w fun e w' => ∃ (A : Option Addr) (c : Nat), e = .returned (.slice A x.n c) ∧ Bel w w' ∧ w'.ownsRow w.heap.size 3 1 (.slice A x.n c) x.n (x.l.map (Value.int .i64)) := by
  have hr : Rd w 1 x.A x.n (x.l.map (Value.int .i64)) := hx.ints
  have hlen : Hid (x.l.length = x.n) := hx.len
  obtain ⟨A, n, c, l⟩ := x
  simp only at *
  clear hx
  cases A with
  | none =>
    obtain rfl : n = 0 := by
      rcases Nat.eq_zero_or_pos n with h | h
      · exact h
      · obtain ⟨ad, e, _⟩ := hr.2 h; cases e
    have hl : l = [] := List.eq_nil_of_length_eq_zero hlen.out
    subst hl
    have he := fun (c : Nat) (w : World) => Lib.run_eql_slice_nil (P := Try.prog) w 58 3 none 0 c 0 0 Try.underlying58
    go_enter Try.func121, Try.ntmps121
    go_wp2
    go_ret
    exact ⟨none, 0, rfl, Bel.refl _, World.ownsRow_nil _ _ _ _⟩
  | some ad =>
    have he := fun (n c : Nat) (w : World) => Lib.run_eql_slice_nil (P := Try.prog) w 58 3 (some ad) n c 0 0 Try.underlying58
    have hbs : ∀ w : World, (Instr.buildSlice 58 0 #[]).run Try.prog w = .ok (.slice (some ⟨w.heap.size, 0, none⟩) 0 0) (w.alloc (.cells #[] 3)) := fun _ => by kernel_rfl
    have hown : (w.alloc (.cells #[] 3)).ownsRow w.heap.size 3 1 (.slice (some ⟨w.heap.size, 0, none⟩) 0 0) 0 [] := ⟨rfl, .inr ⟨w.heap.size, 0, #[], rfl, Nat.le_refl _, heap_alloc_new w _, Nat.le_refl _, Nat.zero_le _, rfl, rfl⟩⟩
    go_enter Try.func121, Try.ntmps121
    go_wp2_with ((with_reducible show wpList _ _ _ (⟨some 7, _, _, _, _, _⟩ :: _) _ _); refine wpList_append1 rfl (.tmp 5) (.tmp 6) _ rfl E_num w ((Bel.refl w).alloc _) _ 0 [] rfl hown (some ad) n c (l.map (Value.int .i64)) rfl (hr.bel ((Bel.refl w).alloc _)) (by simp [Value.oneCell', tx]) (by unfold maxLen; omega) (by omega) ?_; intro v2 w2 hown2 hB2 hg2 hat2)
    go_ret
    simp only [Nat.zero_add, List.nil_append] at hown2
    obtain ⟨A2, c2, rfl, hc2⟩ := own_slice hown2
    exact ⟨A2, c2, rfl, hB2, hown2⟩
theorem sch_tir {s : SC} (h : schErr s = 0) : ∀ d ∈ s.dims, d.nm.length ≤ 12 ∧ d.trs.length ≤ 4 ∧ ∀ t ∈ d.trs, t.nm.length ≤ 12 ∧ (∀ x ∈ t.ts, x.length ≤ 16) ∧ t.ts.length ≤ 200 ∧ t.up.length ≤ 200 := fun d hd => by
  have h1 := (schErr_zero h).2.2.1 d hd
  obtain ⟨h2, h3, h4, h5⟩ := dimErr_zero h1
  refine ⟨(isName_len h2).2, h4, fun t ht => ?_⟩
  obtain ⟨a, ha⟩ := allOk_mem (dimFrom_ok h5) ht
  obtain ⟨e1, _, e3, e4, _⟩ := tierErr_zero ha
  exact ⟨(isName_len e1).2, fun x hx => rowErr_len e4 hx, e3, tierErr_up ha⟩
set_option maxRecDepth 100000 in
set_option maxHeartbeats 4000000 in
theorem catclone_any (s : Sch) (w : World) (hs : s.rd w) (hE : schErr s.con = 0) :
    Calls Try.prog 78 #[.agg s.cs] w fun e w' => ∃ D : Sch, e = .returned (.agg D.cs) ∧ D.con = s.con ∧ Bel w w' ∧ NewR w w' (rSch D) := by
  obtain ⟨e1, e2, e3, e4, e5, e6⟩ := schErr_zero hE
  have HTI := Lib.hid (sch_tir hE)
  have hl1 : Hid (s.dm.l.length = s.dm.n) := hs.dm.len
  have hl2 : Hid (s.ms.l.length = s.ms.n) := hs.ms.len
  have hn16 : s.dm.n ≤ 16 := by have := hl1.out; have : s.con.dims.length = s.dm.l.length := List.length_map ..; omega
  have hm3 : s.ms.n ≤ 3 := by have := hl2.out; have : s.con.ms.length = s.ms.l.length := rfl; omega
  have HD := Lib.hid hs.dm
  have HCM := Lib.hid (fun w' (hb : Bel w w') => cloneT_any s.ms w' (hs.ms.mono hb) (by omega))
  have HML : Hid (∀ m ∈ s.ms.l, m.length ≤ 12) := fun m hm => (isName_len (e6 m hm)).2
  have H := Lib.hid (((SL.start No w).alloc s.cs 25).alloc #[.slice none 0 0, .slice none 0 0] 25)
  (try simp only [List.set_cons_zero, List.set_cons_succ, List.cons_append, List.nil_append, List.eraseIdx_cons_zero, List.eraseIdx_cons_succ, List.setIfInBounds_toArray, World.size_alloc, selR, List.getD_cons_zero, List.getD_cons_succ] at H)
  obtain ⟨⟨DA, n, cn, ds⟩, ⟨MA, mn, mc, ms⟩⟩ := s
  simp only [Sch.cs, Sch.con] at *
  clear hs hE e1 e2 e3 e4 e5 e6
  go_enter Try.func78, Try.ntmps78
  have cs1 := (H.out.blk 0 rfl).cell 1; simp only [List.getElem?_toArray, List.getElem?_cons_zero, List.getElem?_cons_succ] at cs1
  go_wp2_with fail
  refine (HCM.out _ H.out.to).mono ?_; rintro e w1 ⟨MB, md, rfl, hb1, hown⟩
  replace H := Lib.hid (H.out.addRow hb1 hown); (try simp only [List.set_cons_zero, List.set_cons_succ, List.cons_append, List.nil_append, List.eraseIdx_cons_zero, List.eraseIdx_cons_succ, List.setIfInBounds_toArray, World.size_alloc, selR, List.getD_cons_zero, List.getD_cons_succ] at H)
  clear hb1 hown HCM cs1
  generalize w.heap.size + 1 = y at *
  generalize w.heap.size = x at *
  have hbd : ∀ w : World, (Instr.build 25 #[(1, .slice MB mn md)]).run Try.prog w = .ok (.agg #[.slice none 0 0, .slice MB mn md]) w := fun _ => by kernel_rfl
  have cs0 := (H.out.blk 0 rfl).cell 0; simp only [List.getElem?_toArray, List.getElem?_cons_zero, List.getElem?_cons_succ] at cs0
  go_upto_region 2 with (first | ((with_reducible show wpList _ _ _ (⟨some 12, _, _, _, _, _⟩ :: _) _ _); refine wpList_build1 (vx := .slice MB mn md) (v := .agg #[.slice none 0 0, .slice MB mn md]) rfl (.tmp 11) rfl rfl hbd ?_) | ((with_reducible show wpList _ _ _ (⟨_, .store _ (.tmp 3) _, _, _, _, _⟩ :: _) _ _); (refine wpList_store_new rfl rowSch (.tmp 3) (.tmp 12) rfl rfl rfl (#[.slice none 0 0, .slice MB mn md]) rfl rfl (by simp [Value.oneCell']) ?_; replace H := Lib.hid (H.out.alloc (#[.slice none 0 0, .slice MB mn md]) 25); (try simp only [List.set_cons_zero, List.set_cons_succ, List.cons_append, List.nil_append, List.eraseIdx_cons_zero, List.eraseIdx_cons_succ, List.setIfInBounds_toArray, World.size_alloc, selR, List.getD_cons_zero, List.getD_cons_succ] at H))))
  (try simp only [Act.put, List.setIfInBounds_toArray, List.set_cons_zero, List.set_cons_succ])
  clear hbd cs0
  generalize w1.heap.size = z at *
  generalize World.alloc w1 _ = w2 at *
  replace H := Lib.hid (H.out.addNil 64 2); (try simp only [List.set_cons_zero, List.set_cons_succ, List.cons_append, List.nil_append, List.eraseIdx_cons_zero, List.eraseIdx_cons_succ, List.setIfInBounds_toArray, World.size_alloc, selR, List.getD_cons_zero, List.getD_cons_succ] at H)
  replace H := Lib.hid (H.out.add (Bel.refl _) (rList rDm []) (holds_list_nil _ _) list_nil_D); (try simp only [List.set_cons_zero, List.set_cons_succ, List.cons_append, List.nil_append, List.eraseIdx_cons_zero, List.eraseIdx_cons_succ, List.setIfInBounds_toArray, World.size_alloc, selR, List.getD_cons_zero, List.getD_cons_succ] at H)
  replace H := Lib.hid (H.out.sel [0, 1, 3, 4, 5, 2] (by decide) (by simp)); (try simp only [List.set_cons_zero, List.set_cons_succ, List.cons_append, List.nil_append, List.eraseIdx_cons_zero, List.eraseIdx_cons_succ, List.setIfInBounds_toArray, World.size_alloc, selR, List.getD_cons_zero, List.getD_cons_succ] at H)
  have cs0 := (H.out.blk 0 rfl).cell 0; simp only [List.getElem?_toArray, List.getElem?_cons_zero, List.getElem?_cons_succ] at cs0
  go_wp2_with fail
  clear cs0
  have HN : Hid (([] : List Dm).map Dm.con = (ds.map Dm.con).take 0) := rfl
  go_loopg [16] n (fun gg i wr => ∃ (k : Nat) (acc : List Dm) (A : Option Addr) (c : Nat), gg = n - k ∧ k ≤ n ∧ i = .int .i64 k ∧ Hid (acc.length = k) ∧ Hid (SL No w wr [rBlk x 25 #[.slice DA n cn, .slice MA mn mc], rBlk y 25 #[.slice none 0 0, .slice none 0 0], rBlk z 25 #[.slice A k c, .slice MB mn md], rRow 64 2 (.slice A k c) k (acc.flatMap Cel.cells), rList rDm acc, rRow 9 1 (.slice MB mn md) mn (ms.map tx)]) ∧ Hid (acc.map Dm.con = (ds.map Dm.con).take k))
  case atStart => exact ⟨0, [], none, 0, rfl, by omega, rfl, rfl, H, HN⟩
  case round =>
    clear H HN
    obtain ⟨k, acc, A, c, hgk, hk, rfl, hkc, H, HN⟩ := hrel
    obtain ⟨W0, hW0⟩ : ∃ W0, W0 = wr := ⟨_, rfl⟩
    subst hW0
    have Hgk := Lib.hid hgk
    clear hgk
    by_cases hlt : k < n
    · obtain ⟨b1, o1, D, hA, hb1, hDk, hDr, hrg1⟩ := (HD.out.mono H.out.to).dmAt (k := k) hlt
      simp only at hA
      subst hA
      have hDc : (ds.map Dm.con)[k]? = some D.con := by rw [List.getElem?_map, hDk]; rfl
      have HDC := Lib.hid hDc
      obtain ⟨hnm, htn4, htt⟩ := HTI.out D.con (List.mem_of_getElem? hDc)
      have HTT := Lib.hid htt
      replace hDr := HD.out.all D (List.mem_of_getElem? hDk)
      have HTR := Lib.hid (fun w' (hb : Bel w w') => hDr.tr.mono hb)
      have tl : Hid (D.tr.l.length = D.tr.n) := hDr.tr.len
      have HR := Lib.hid hrg1
      have i0 : (0 : Int) ≤ k := by omega
      have i1 : (k : Int) < n := by omega
      clear hDk hDr hrg1 hb1 hDc htt
      obtain ⟨nm, ⟨TA, tn, tc, trs⟩⟩ := D
      simp only [Dm.cs, Dm.con, List.length_map] at *
      have htn : tn ≤ 4 := by have := tl.out; omega
      go_upto_region 5 with (first | ((with_reducible show wpList _ _ _ (⟨some 19, _, _, _, _, _⟩ :: _) _ _); (refine wpList_load_row_at rfl rowDm (.tmp 18) rfl b1 (o1 + k * 2) rfl #[.string ⟨nm.toArray⟩, .slice TA tn tc] rfl HR.out ?_)) | ((with_reducible show wpList _ _ _ (⟨_, .store _ (.tmp 5) _, _, _, _, _⟩ :: _) _ _); (refine wpList_store_new rfl rowDm (.tmp 5) (.tmp 19) rfl rfl rfl (#[.string ⟨nm.toArray⟩, .slice TA tn tc]) rfl rfl (by simp [Value.oneCell']) ?_; replace H := Lib.hid (H.out.alloc (#[.string ⟨nm.toArray⟩, .slice TA tn tc]) 64); (try simp only [List.set_cons_zero, List.set_cons_succ, List.cons_append, List.nil_append, List.eraseIdx_cons_zero, List.eraseIdx_cons_succ, List.setIfInBounds_toArray, World.size_alloc, selR, List.getD_cons_zero, List.getD_cons_succ] at H))))
      (try simp only [Act.put, List.setIfInBounds_toArray, List.set_cons_zero, List.set_cons_succ])
      clear HR
      generalize W0.heap.size = u at *
      generalize World.alloc W0 _ = w5 at *
      have hbd : ∀ w : World, (Instr.build 64 #[(0, .string ⟨nm.toArray⟩)]).run Try.prog w = .ok (.agg #[.string ⟨nm.toArray⟩, .slice none 0 0]) w := fun _ => by kernel_rfl
      have cn0 := (H.out.blk 6 rfl).cell 0; simp only [List.getElem?_toArray, List.getElem?_cons_zero, List.getElem?_cons_succ] at cn0
      go_upto_region 6 with (first | ((with_reducible show wpList _ _ _ (⟨some 22, _, _, _, _, _⟩ :: _) _ _); refine wpList_build1 (vx := .string ⟨nm.toArray⟩) (v := .agg #[.string ⟨nm.toArray⟩, .slice none 0 0]) rfl (.tmp 21) rfl rfl hbd ?_) | ((with_reducible show wpList _ _ _ (⟨_, .store _ (.tmp 6) _, _, _, _, _⟩ :: _) _ _); (refine wpList_store_new rfl rowDm (.tmp 6) (.tmp 22) rfl rfl rfl (#[.string ⟨nm.toArray⟩, .slice none 0 0]) rfl rfl (by simp [Value.oneCell']) ?_; replace H := Lib.hid (H.out.alloc (#[.string ⟨nm.toArray⟩, .slice none 0 0]) 64); (try simp only [List.set_cons_zero, List.set_cons_succ, List.cons_append, List.nil_append, List.eraseIdx_cons_zero, List.eraseIdx_cons_succ, List.setIfInBounds_toArray, World.size_alloc, selR, List.getD_cons_zero, List.getD_cons_succ] at H))))
      (try simp only [Act.put, List.setIfInBounds_toArray, List.set_cons_zero, List.set_cons_succ])
      clear hbd cn0
      generalize w5.heap.size = v at *
      generalize World.alloc w5 _ = w6 at *
      replace H := Lib.hid (H.out.addNil 140 3); (try simp only [List.set_cons_zero, List.set_cons_succ, List.cons_append, List.nil_append, List.eraseIdx_cons_zero, List.eraseIdx_cons_succ, List.setIfInBounds_toArray, World.size_alloc, selR, List.getD_cons_zero, List.getD_cons_succ] at H)
      replace H := Lib.hid (H.out.add (Bel.refl _) (rList rTir []) (holds_list_nil _ _) list_nil_D); (try simp only [List.set_cons_zero, List.set_cons_succ, List.cons_append, List.nil_append, List.eraseIdx_cons_zero, List.eraseIdx_cons_succ, List.setIfInBounds_toArray, World.size_alloc, selR, List.getD_cons_zero, List.getD_cons_succ] at H)
      have cn1 := (H.out.blk 6 rfl).cell 1; simp only [List.getElem?_toArray, List.getElem?_cons_zero, List.getElem?_cons_succ] at cn1
      go_wp2_with fail
      clear cn1
      have H0N := HN
      clear HN
      have HN2 : Hid (([] : List Tir).map Tir.con = (trs.map Tir.con).take 0) := rfl
      go_loopg [26] tn (fun gg i wr => ∃ (j : Nat) (accT : List Tir) (B : Option Addr) (e : Nat), gg = tn - j ∧ j ≤ tn ∧ i = .int .i64 j ∧ Hid (accT.length = j) ∧ Hid (SL No w wr [rBlk x 25 #[.slice (some ⟨b1, o1, none⟩) n cn, .slice MA mn mc], rBlk y 25 #[.slice none 0 0, .slice none 0 0], rBlk z 25 #[.slice A k c, .slice MB mn md], rRow 64 2 (.slice A k c) k (acc.flatMap Cel.cells), rList rDm acc, rRow 9 1 (.slice MB mn md) mn (ms.map tx), rBlk u 64 #[.string ⟨nm.toArray⟩, .slice TA tn tc], rBlk v 64 #[.string ⟨nm.toArray⟩, .slice B j e], rRow 140 3 (.slice B j e) j (accT.flatMap Cel.cells), rList rTir accT]) ∧ Hid (accT.map Tir.con = (trs.map Tir.con).take j))
      case atStart => exact ⟨0, [], none, 0, rfl, by omega, rfl, rfl, H, HN2⟩
      case round =>
        clear H HN2
        obtain ⟨j, accT, B, e, hgj, hj, rfl, hjc, H, HN2⟩ := hrel
        have Hgj := Lib.hid hgj
        clear hgj
        by_cases hjlt : j < tn
        · obtain ⟨b2, o2, Tr, hB2, hb2, hTk, hTr, hrg2⟩ := (HTR.out _ H.out.to).tirAt (k := j) hjlt
          simp only at hB2
          subst hB2
          have hTc : (trs.map Tir.con)[j]? = some Tr.con := by rw [List.getElem?_map, hTk]; rfl
          obtain ⟨f1, f2, f3, f4⟩ := HTT.out Tr.con (List.mem_of_getElem? hTc)
          have l1 : Tr.ts.l.length = Tr.ts.n := hTr.ts.len
          have l2 : Tr.up.l.length = Tr.up.n := hTr.up.len
          simp only at f1 f2 f3 f4
          have HTOk : Hid (Tr.nm.length ≤ 12 ∧ (∀ t ∈ Tr.ts.l, t.length ≤ 16) ∧ (∀ z ∈ Tr.up.l, I64 z) ∧ Tr.ts.n ≤ 200 ∧ Tr.up.n ≤ 200) := ⟨f1, f2, hTr.up.all, by omega, by omega⟩
          have HCT := Lib.hid (fun w' (hb : Bel wr w') => cloneT_any Tr.ts w' (hTr.ts.mono hb) (by omega))
          have HCI := Lib.hid (fun w' (hb : Bel wr w') => cloneI_any Tr.up w' (hTr.up.mono hb) (by omega))
          have hn3 : Tr.ts.n ≤ 200 := by omega
          have hn4 : Tr.up.n ≤ 200 := by omega
          have HN : Hid (∀ X : Tir, X.con = Tr.con → (accT ++ [X]).map Tir.con = (trs.map Tir.con).take (j + 1)) := fun X hX => by rw [List.map_append, HN2.out, take_snoc_get hTc, ← hX]; rfl
          have HR := Lib.hid hrg2
          have j0 : (0 : Int) ≤ j := by omega
          have j1 : (j : Int) < tn := by omega
          clear hTk hTr hrg2 hb2 hTc f1 f2 f3 f4 l1 l2 HN2
          obtain ⟨tnm, ⟨A3, n3, c3, ts⟩, ⟨A4, n4, c4, ups⟩⟩ := Tr
          simp only [Tir.cs] at *
          go_upto_region 9 with (first | ((with_reducible show wpList _ _ _ (⟨some 29, _, _, _, _, _⟩ :: _) _ _); (refine wpList_load_row_at rfl rowTir (.tmp 28) rfl b2 (o2 + j * 3) rfl #[.string ⟨tnm.toArray⟩, .slice A3 n3 c3, .slice A4 n4 c4] rfl HR.out ?_)) | ((with_reducible show wpList _ _ _ (⟨_, .store _ (.tmp 8) _, _, _, _, _⟩ :: _) _ _); (refine wpList_store_new rfl rowTir (.tmp 8) (.tmp 29) rfl rfl rfl (#[.string ⟨tnm.toArray⟩, .slice A3 n3 c3, .slice A4 n4 c4]) rfl rfl (by simp [Value.oneCell']) ?_; replace H := Lib.hid (H.out.alloc (#[.string ⟨tnm.toArray⟩, .slice A3 n3 c3, .slice A4 n4 c4]) 140); (try simp only [List.set_cons_zero, List.set_cons_succ, List.cons_append, List.nil_append, List.eraseIdx_cons_zero, List.eraseIdx_cons_succ, List.setIfInBounds_toArray, World.size_alloc, selR, List.getD_cons_zero, List.getD_cons_succ] at H))))
          (try simp only [Act.put, List.setIfInBounds_toArray, List.set_cons_zero, List.set_cons_succ])
          have HB := Lib.hid ((Bel.refl wr).alloc (.cells #[.string ⟨tnm.toArray⟩, .slice A3 n3 c3, .slice A4 n4 c4] 140))
          clear HR
          generalize wr.heap.size = t8 at *
          generalize World.alloc wr _ = w7 at *
          refine wp_region_held_drew (S := fun w => w.cell? ⟨t8, 0, none⟩ = some (.string ⟨tnm.toArray⟩) ∧ w.cell? ⟨t8, 1, none⟩ = some (.slice A3 n3 c3) ∧ w.cell? ⟨t8, 2, none⟩ = some (.slice A4 n4 c4)) (by kernel_rfl) (by exact ⟨(H.out.blk 10 rfl).cell 0, (H.out.blk 10 rfl).cell 1, (H.out.blk 10 rfl).cell 2⟩) (fun hHeld => ?_)
          replace H := Lib.hid (H.out.drew); (try simp only [List.set_cons_zero, List.set_cons_succ, List.cons_append, List.nil_append, List.eraseIdx_cons_zero, List.eraseIdx_cons_succ, List.setIfInBounds_toArray, World.size_alloc, selR, List.getD_cons_zero, List.getD_cons_succ] at H)
          refine wpAnyH_take (i := 0) (v := ?vq1_0) (get_o0) (by kernel_rfl) (by kernel_rfl) (by kernel_rfl) (by exact fun _ _ _ h => h) (Or.inl ⟨by rfl, ?hyq1_0⟩) (by assumption) ?_
          case hyq1_0 => (intro w hSw; (try dsimp only at hSw); go_simp) <;> with_reducible rfl
          try simp only [Act.put, List.setIfInBounds_toArray, List.set_cons_zero, List.set_cons_succ]
          refine wpAnyH_take (i := 2) (v := ?vq1_2) (get_os (get_os (get_o0))) (by kernel_rfl) (by kernel_rfl) (by kernel_rfl) (by exact fun _ _ _ h => h) (Or.inl ⟨by rfl, ?hyq1_2⟩) (by assumption) ?_
          case hyq1_2 => (intro w hSw; (try dsimp only at hSw); go_simp) <;> with_reducible rfl
          try simp only [Act.put, List.setIfInBounds_toArray, List.set_cons_zero, List.set_cons_succ]
          refine wpAnyH_take (i := 3) (v := ?vq1_3) (get_os (get_os (get_os (get_o0)))) (by kernel_rfl) (by kernel_rfl) (by kernel_rfl) (by exact fun _ _ _ h => h) (Or.inl ⟨by rfl, ?hyq1_3⟩) (by assumption) ?_
          case hyq1_3 => (intro w hSw; (try dsimp only at hSw); go_simp) <;> with_reducible rfl
          try simp only [Act.put, List.setIfInBounds_toArray, List.set_cons_zero, List.set_cons_succ]
          refine wpAnyH_take (i := 4) (v := ?vq1_4) (get_os (get_os (get_os (get_os (get_o0))))) (by kernel_rfl) (by kernel_rfl) (by kernel_rfl) (by exact fun _ _ _ h => h) (Or.inl ⟨by rfl, ?hyq1_4⟩) (by assumption) ?_
          case hyq1_4 => (intro w hSw; (try dsimp only at hSw); go_simp) <;> with_reducible rfl
          try simp only [Act.put, List.setIfInBounds_toArray, List.set_cons_zero, List.set_cons_succ]
          refine wpAnyH_take (i := 5) (v := ?vq1_5) (get_os (get_os (get_os (get_os (get_os (get_o0)))))) (by kernel_rfl) (by kernel_rfl) (by kernel_rfl) (by exact fun _ _ _ h => h) (Or.inl ⟨by rfl, ?hyq1_5⟩) (by assumption) ?_
          case hyq1_5 => (intro w hSw; (try dsimp only at hSw); go_simp) <;> with_reducible rfl
          try simp only [Act.put, List.setIfInBounds_toArray, List.set_cons_zero, List.set_cons_succ]
          refine wpAnyH_take (i := 7) (v := ?vq1_7) (get_os (get_os (get_os (get_os (get_os (get_os (get_os (get_o0)))))))) (by kernel_rfl) (by kernel_rfl) (by kernel_rfl) (by exact fun _ _ _ h => h) (Or.inl ⟨by rfl, ?hyq1_7⟩) (by assumption) ?_
          case hyq1_7 => (intro w hSw; (try dsimp only at hSw); go_simp) <;> with_reducible rfl
          try simp only [Act.put, List.setIfInBounds_toArray, List.set_cons_zero, List.set_cons_succ]
          refine wpAnyH_take (i := 8) (v := ?vq1_8) (get_os (get_os (get_os (get_os (get_os (get_os (get_os (get_os (get_o0))))))))) (by kernel_rfl) (by kernel_rfl) (by kernel_rfl) (by exact fun _ _ _ h => h) (Or.inl ⟨by rfl, ?hyq1_8⟩) (by assumption) ?_
          case hyq1_8 => (intro w hSw; (try dsimp only at hSw); go_simp) <;> with_reducible rfl
          try simp only [Act.put, List.setIfInBounds_toArray, List.set_cons_zero, List.set_cons_succ]
          refine wpAnyH_ready (rs := [1, 6]) (by kernel_rfl) (by simp) ?_
          refine (AllReadyH.cons (get_os (get_o0)) (fun KK hKK => ?_) (AllReadyH.cons (get_os (get_os (get_os (get_os (get_os (get_os (get_o0))))))) (fun KK hKK => ?_) AllReadyH.nil))
          · have cv := (H.out.blk 7 rfl).cell 1; simp only [List.getElem?_toArray, List.getElem?_cons_zero, List.getElem?_cons_succ] at cv
            go_simp
            clear cv
            refine hKK.out _ _ (by exact ⟨(H.out.blk 10 rfl).cell 0, (H.out.blk 10 rfl).cell 1, (H.out.blk 10 rfl).cell 2⟩) (fun hHeld => ?_)
            clear hKK KK
            try simp only [Act.put, List.setIfInBounds_toArray, List.set_cons_zero, List.set_cons_succ]
            refine wpAnyH_ready (rs := [6]) (by kernel_rfl) (by simp) ?_
            refine (AllReadyH.cons (get_os (get_os (get_os (get_os (get_os (get_os (get_o0))))))) (fun KK hKK => ?_) AllReadyH.nil)
            go_simp
            refine (HCT.out _ HB.out.drew).mono ?_; rintro e' w6 ⟨A5, c5, rfl, hb6, hown6⟩
            replace H := Lib.hid (H.out.addRow hb6 hown6); (try simp only [List.set_cons_zero, List.set_cons_succ, List.cons_append, List.nil_append, List.eraseIdx_cons_zero, List.eraseIdx_cons_succ, List.setIfInBounds_toArray, World.size_alloc, selR, List.getD_cons_zero, List.getD_cons_succ] at H)
            replace HB := Lib.hid (HB.out.drew.trans hb6)
            clear hb6 hown6
            refine hKK.out _ _ (by exact ⟨(H.out.blk 10 rfl).cell 0, (H.out.blk 10 rfl).cell 1, (H.out.blk 10 rfl).cell 2⟩) (fun hHeld => ?_)
            clear hKK KK
            try simp only [Act.put, List.setIfInBounds_toArray, List.set_cons_zero, List.set_cons_succ]
            refine wpAnyH_ready (rs := [9]) (by kernel_rfl) (by simp) ?_
            refine (AllReadyH.cons (get_os (get_os (get_os (get_os (get_os (get_os (get_os (get_os (get_os (get_o0)))))))))) (fun KK hKK => ?_) AllReadyH.nil)
            go_simp
            refine (HCI.out _ HB.out).mono ?_; rintro e' w7 ⟨A6, c6, rfl, hb7, hown7⟩
            replace H := Lib.hid (H.out.addRow hb7 hown7); (try simp only [List.set_cons_zero, List.set_cons_succ, List.cons_append, List.nil_append, List.eraseIdx_cons_zero, List.eraseIdx_cons_succ, List.setIfInBounds_toArray, World.size_alloc, selR, List.getD_cons_zero, List.getD_cons_succ] at H)
            replace HB := Lib.hid (HB.out.trans hb7)
            clear hb7 hown7
            refine hKK.out _ _ (by exact ⟨(H.out.blk 10 rfl).cell 0, (H.out.blk 10 rfl).cell 1, (H.out.blk 10 rfl).cell 2⟩) (fun hHeld => ?_)
            clear hKK KK
            try simp only [Act.put, List.setIfInBounds_toArray, List.set_cons_zero, List.set_cons_succ]
            refine wpAnyH_ready (rs := [10]) (by kernel_rfl) (by simp) ?_
            refine (AllReadyH.cons (get_ot (get_o0)) (fun KK hKK => ?_) AllReadyH.nil)
            go_simp
            refine hKK.out _ _ (by exact ⟨(H.out.blk 10 rfl).cell 0, (H.out.blk 10 rfl).cell 1, (H.out.blk 10 rfl).cell 2⟩) (fun hHeld => ?_)
            clear hKK KK
            try simp only [Act.put, List.setIfInBounds_toArray, List.set_cons_zero, List.set_cons_succ]
            refine wpAnyH_ready (rs := [11]) (by kernel_rfl) (by simp) ?_
            refine (AllReadyH.cons (get_ot (get_os (get_o0))) (fun KK hKK => ?_) AllReadyH.nil)
            refine step_buildSlice1 rfl E_tir (.tmp 40) rfl (#[.string ⟨tnm.toArray⟩, .slice A5 n3 c5, .slice A6 n4 c6]) rfl rfl (by omega) ?_
            replace H := Lib.hid (H.out.addRow ((Bel.refl _).alloc _) (own_made _ 140 (#[.string ⟨tnm.toArray⟩, .slice A5 n3 c5, .slice A6 n4 c6]) _ rfl)); (try simp only [List.set_cons_zero, List.set_cons_succ, List.cons_append, List.nil_append, List.eraseIdx_cons_zero, List.eraseIdx_cons_succ, List.setIfInBounds_toArray, World.size_alloc, selR, List.getD_cons_zero, List.getD_cons_succ] at H)
            refine hKK.out _ _ (by exact ⟨(H.out.blk 10 rfl).cell 0, (H.out.blk 10 rfl).cell 1, (H.out.blk 10 rfl).cell 2⟩) (fun hHeld => ?_)
            clear hKK KK
            try simp only [Act.put, List.setIfInBounds_toArray, List.set_cons_zero, List.set_cons_succ]
            refine wpAnyH_ready (rs := [12]) (by kernel_rfl) (by simp) ?_
            refine (AllReadyH.cons (get_ot (get_os (get_os (get_o0)))) (fun KK hKK => ?_) AllReadyH.nil)
            refine step_append0 rfl (.tmp 31) (.tmp 41) _ rfl E_tir 0 (Nat.zero_le _) _ j _ rfl (H.out.row 8 rfl) _ 1 1 _ rfl (Rd.of_own (H.out.row 13 rfl)) (by simp [Value.oneCell']) (by unfold maxLen; omega) (by omega) ?_
            intro vq wq howq hgq hatq
            replace H := Lib.hid (H.out.setRow 8 rfl hgq howq hatq); (try simp only [List.set_cons_zero, List.set_cons_succ, List.cons_append, List.nil_append, List.eraseIdx_cons_zero, List.eraseIdx_cons_succ, List.setIfInBounds_toArray, World.size_alloc, selR, List.getD_cons_zero, List.getD_cons_succ] at H)
            clear howq hgq hatq
            obtain ⟨B9, e9, rfl, _⟩ := own_slice (H.out.row 8 rfl)
            refine hKK.out _ _ (by exact ⟨(H.out.blk 10 rfl).cell 0, (H.out.blk 10 rfl).cell 1, (H.out.blk 10 rfl).cell 2⟩) (fun hHeld => ?_)
            clear hKK KK
            try simp only [Act.put, List.setIfInBounds_toArray, List.set_cons_zero, List.set_cons_succ]
            refine wpAnyH_ready (rs := [13]) (by kernel_rfl) (by simp) ?_
            refine (AllReadyH.cons (get_ot (get_os (get_os (get_os (get_o0))))) (fun KK hKK => ?_) AllReadyH.nil)
            go_simp
            refine hKK.out _ _ (by exact ⟨(H.out.blk 10 rfl).cell 0, (H.out.blk 10 rfl).cell 1, (H.out.blk 10 rfl).cell 2⟩) (fun hHeld => ?_)
            clear hKK KK
            try simp only [Act.put, List.setIfInBounds_toArray, List.set_cons_zero, List.set_cons_succ]
            refine wpAnyH_ready (rs := [14]) (by kernel_rfl) (by simp) ?_
            refine (AllReadyH.cons (get_ot (get_os (get_os (get_os (get_os (get_o0)))))) (fun KK hKK => ?_) AllReadyH.nil)
            have cv := (H.out.blk 7 rfl).cell 1; simp only [List.getElem?_toArray, List.getElem?_cons_zero, List.getElem?_cons_succ] at cv; have fv := (H.out.blk 7 rfl).frozen 1
            go_simp
            replace H := Lib.hid (H.out.setCell 7 rfl 1 (.slice B9 (j + 1) e9)); (try simp only [List.set_cons_zero, List.set_cons_succ, List.cons_append, List.nil_append, List.eraseIdx_cons_zero, List.eraseIdx_cons_succ, List.setIfInBounds_toArray, World.size_alloc, selR, List.getD_cons_zero, List.getD_cons_succ] at H)
            clear cv fv
            refine hKK.out _ _ (by exact ⟨(H.out.blk 10 rfl).cell 0, (H.out.blk 10 rfl).cell 1, (H.out.blk 10 rfl).cell 2⟩) (fun hHeld => ?_)
            clear hKK KK
            try simp only [Act.put, List.setIfInBounds_toArray, List.set_cons_zero, List.set_cons_succ]
            refine wpAnyH_done (by kernel_rfl) ?_ _
            clear hHeld
            clear HB
            replace H := Lib.hid (H.out.both 11 12 (by omega) rfl rfl (rTir ⟨tnm, ⟨A5, n3, c5, ts⟩, ⟨A6, n4, c6, ups⟩⟩) (holds_tir (base := 0) (show TirOwn 0 ⟨tnm, ⟨A5, n3, c5, ts⟩, ⟨A6, n4, c6, ups⟩⟩ _ from ⟨H.out.row 11 rfl, H.out.row 12 rfl, HTOk.out.1, HTOk.out.2.1, HTOk.out.2.2.1, HTOk.out.2.2.2.1, HTOk.out.2.2.2.2⟩)) (fun g hg => hg)); (try simp only [List.set_cons_zero, List.set_cons_succ, List.cons_append, List.nil_append, List.eraseIdx_cons_zero, List.eraseIdx_cons_succ, List.setIfInBounds_toArray, World.size_alloc, selR, List.getD_cons_zero, List.getD_cons_succ] at H)
            replace H := Lib.hid (H.out.both 9 11 (by omega) rfl rfl (rList rTir (accT ++ [⟨tnm, ⟨A5, n3, c5, ts⟩, ⟨A6, n4, c6, ups⟩⟩])) (holds_list_snoc (H.out.get 9 rfl) (H.out.get 11 rfl)) list_snoc_D); (try simp only [List.set_cons_zero, List.set_cons_succ, List.cons_append, List.nil_append, List.eraseIdx_cons_zero, List.eraseIdx_cons_succ, List.setIfInBounds_toArray, World.size_alloc, selR, List.getD_cons_zero, List.getD_cons_succ] at H)
            replace H := Lib.hid (H.out.sel [0, 1, 2, 3, 4, 5, 6, 7, 8, 9] (by decide) (by simp)); (try simp only [List.set_cons_zero, List.set_cons_succ, List.cons_append, List.nil_append, List.eraseIdx_cons_zero, List.eraseIdx_cons_succ, List.setIfInBounds_toArray, World.size_alloc, selR, List.getD_cons_zero, List.getD_cons_succ] at H)
            go_wp2_with fail
            go_roundg (tn - (j + 1))
            case rel => exact ⟨j + 1, accT ++ [⟨tnm, ⟨A5, n3, c5, ts⟩, ⟨A6, n4, c6, ups⟩⟩], B9, e9, rfl, by omega, by go_num, by show _ = _; rw [List.length_append, hjc.out]; rfl, by rw [List.flatMap_append, List.flatMap_cons, List.flatMap_nil, List.append_nil]; exact H, Lib.hid (HN.out _ rfl)⟩
            case measure => rw [Hgj.out]; omega
          · go_simp
            refine (HCT.out _ HB.out.drew).mono ?_; rintro e' w6 ⟨A5, c5, rfl, hb6, hown6⟩
            replace H := Lib.hid (H.out.addRow hb6 hown6); (try simp only [List.set_cons_zero, List.set_cons_succ, List.cons_append, List.nil_append, List.eraseIdx_cons_zero, List.eraseIdx_cons_succ, List.setIfInBounds_toArray, World.size_alloc, selR, List.getD_cons_zero, List.getD_cons_succ] at H)
            replace HB := Lib.hid (HB.out.drew.trans hb6)
            clear hb6 hown6
            refine hKK.out _ _ (by exact ⟨(H.out.blk 10 rfl).cell 0, (H.out.blk 10 rfl).cell 1, (H.out.blk 10 rfl).cell 2⟩) (fun hHeld => ?_)
            clear hKK KK
            try simp only [Act.put, List.setIfInBounds_toArray, List.set_cons_zero, List.set_cons_succ]
            refine wpAnyH_ready (rs := [1, 9]) (by kernel_rfl) (by simp) ?_
            refine (AllReadyH.cons (get_os (get_o0)) (fun KK hKK => ?_) (AllReadyH.cons (get_os (get_os (get_os (get_os (get_os (get_os (get_os (get_os (get_os (get_o0)))))))))) (fun KK hKK => ?_) AllReadyH.nil))
            · have cv := (H.out.blk 7 rfl).cell 1; simp only [List.getElem?_toArray, List.getElem?_cons_zero, List.getElem?_cons_succ] at cv
              go_simp
              clear cv
              refine hKK.out _ _ (by exact ⟨(H.out.blk 10 rfl).cell 0, (H.out.blk 10 rfl).cell 1, (H.out.blk 10 rfl).cell 2⟩) (fun hHeld => ?_)
              clear hKK KK
              try simp only [Act.put, List.setIfInBounds_toArray, List.set_cons_zero, List.set_cons_succ]
              refine wpAnyH_ready (rs := [9]) (by kernel_rfl) (by simp) ?_
              refine (AllReadyH.cons (get_os (get_os (get_os (get_os (get_os (get_os (get_os (get_os (get_os (get_o0)))))))))) (fun KK hKK => ?_) AllReadyH.nil)
              go_simp
              refine (HCI.out _ HB.out).mono ?_; rintro e' w7 ⟨A6, c6, rfl, hb7, hown7⟩
              replace H := Lib.hid (H.out.addRow hb7 hown7); (try simp only [List.set_cons_zero, List.set_cons_succ, List.cons_append, List.nil_append, List.eraseIdx_cons_zero, List.eraseIdx_cons_succ, List.setIfInBounds_toArray, World.size_alloc, selR, List.getD_cons_zero, List.getD_cons_succ] at H)
              replace HB := Lib.hid (HB.out.trans hb7)
              clear hb7 hown7
              refine hKK.out _ _ (by exact ⟨(H.out.blk 10 rfl).cell 0, (H.out.blk 10 rfl).cell 1, (H.out.blk 10 rfl).cell 2⟩) (fun hHeld => ?_)
              clear hKK KK
              try simp only [Act.put, List.setIfInBounds_toArray, List.set_cons_zero, List.set_cons_succ]
              refine wpAnyH_ready (rs := [10]) (by kernel_rfl) (by simp) ?_
              refine (AllReadyH.cons (get_ot (get_o0)) (fun KK hKK => ?_) AllReadyH.nil)
              go_simp
              refine hKK.out _ _ (by exact ⟨(H.out.blk 10 rfl).cell 0, (H.out.blk 10 rfl).cell 1, (H.out.blk 10 rfl).cell 2⟩) (fun hHeld => ?_)
              clear hKK KK
              try simp only [Act.put, List.setIfInBounds_toArray, List.set_cons_zero, List.set_cons_succ]
              refine wpAnyH_ready (rs := [11]) (by kernel_rfl) (by simp) ?_
              refine (AllReadyH.cons (get_ot (get_os (get_o0))) (fun KK hKK => ?_) AllReadyH.nil)
              refine step_buildSlice1 rfl E_tir (.tmp 40) rfl (#[.string ⟨tnm.toArray⟩, .slice A5 n3 c5, .slice A6 n4 c6]) rfl rfl (by omega) ?_
              replace H := Lib.hid (H.out.addRow ((Bel.refl _).alloc _) (own_made _ 140 (#[.string ⟨tnm.toArray⟩, .slice A5 n3 c5, .slice A6 n4 c6]) _ rfl)); (try simp only [List.set_cons_zero, List.set_cons_succ, List.cons_append, List.nil_append, List.eraseIdx_cons_zero, List.eraseIdx_cons_succ, List.setIfInBounds_toArray, World.size_alloc, selR, List.getD_cons_zero, List.getD_cons_succ] at H)
              refine hKK.out _ _ (by exact ⟨(H.out.blk 10 rfl).cell 0, (H.out.blk 10 rfl).cell 1, (H.out.blk 10 rfl).cell 2⟩) (fun hHeld => ?_)
              clear hKK KK
              try simp only [Act.put, List.setIfInBounds_toArray, List.set_cons_zero, List.set_cons_succ]
              refine wpAnyH_ready (rs := [12]) (by kernel_rfl) (by simp) ?_
              refine (AllReadyH.cons (get_ot (get_os (get_os (get_o0)))) (fun KK hKK => ?_) AllReadyH.nil)
              refine step_append0 rfl (.tmp 31) (.tmp 41) _ rfl E_tir 0 (Nat.zero_le _) _ j _ rfl (H.out.row 8 rfl) _ 1 1 _ rfl (Rd.of_own (H.out.row 13 rfl)) (by simp [Value.oneCell']) (by unfold maxLen; omega) (by omega) ?_
              intro vq wq howq hgq hatq
              replace H := Lib.hid (H.out.setRow 8 rfl hgq howq hatq); (try simp only [List.set_cons_zero, List.set_cons_succ, List.cons_append, List.nil_append, List.eraseIdx_cons_zero, List.eraseIdx_cons_succ, List.setIfInBounds_toArray, World.size_alloc, selR, List.getD_cons_zero, List.getD_cons_succ] at H)
              clear howq hgq hatq
              obtain ⟨B9, e9, rfl, _⟩ := own_slice (H.out.row 8 rfl)
              refine hKK.out _ _ (by exact ⟨(H.out.blk 10 rfl).cell 0, (H.out.blk 10 rfl).cell 1, (H.out.blk 10 rfl).cell 2⟩) (fun hHeld => ?_)
              clear hKK KK
              try simp only [Act.put, List.setIfInBounds_toArray, List.set_cons_zero, List.set_cons_succ]
              refine wpAnyH_ready (rs := [13]) (by kernel_rfl) (by simp) ?_
              refine (AllReadyH.cons (get_ot (get_os (get_os (get_os (get_o0))))) (fun KK hKK => ?_) AllReadyH.nil)
              go_simp
              refine hKK.out _ _ (by exact ⟨(H.out.blk 10 rfl).cell 0, (H.out.blk 10 rfl).cell 1, (H.out.blk 10 rfl).cell 2⟩) (fun hHeld => ?_)
              clear hKK KK
              try simp only [Act.put, List.setIfInBounds_toArray, List.set_cons_zero, List.set_cons_succ]
              refine wpAnyH_ready (rs := [14]) (by kernel_rfl) (by simp) ?_
              refine (AllReadyH.cons (get_ot (get_os (get_os (get_os (get_os (get_o0)))))) (fun KK hKK => ?_) AllReadyH.nil)
              have cv := (H.out.blk 7 rfl).cell 1; simp only [List.getElem?_toArray, List.getElem?_cons_zero, List.getElem?_cons_succ] at cv; have fv := (H.out.blk 7 rfl).frozen 1
              go_simp
              replace H := Lib.hid (H.out.setCell 7 rfl 1 (.slice B9 (j + 1) e9)); (try simp only [List.set_cons_zero, List.set_cons_succ, List.cons_append, List.nil_append, List.eraseIdx_cons_zero, List.eraseIdx_cons_succ, List.setIfInBounds_toArray, World.size_alloc, selR, List.getD_cons_zero, List.getD_cons_succ] at H)
              clear cv fv
              refine hKK.out _ _ (by exact ⟨(H.out.blk 10 rfl).cell 0, (H.out.blk 10 rfl).cell 1, (H.out.blk 10 rfl).cell 2⟩) (fun hHeld => ?_)
              clear hKK KK
              try simp only [Act.put, List.setIfInBounds_toArray, List.set_cons_zero, List.set_cons_succ]
              refine wpAnyH_done (by kernel_rfl) ?_ _
              clear hHeld
              clear HB
              replace H := Lib.hid (H.out.both 11 12 (by omega) rfl rfl (rTir ⟨tnm, ⟨A5, n3, c5, ts⟩, ⟨A6, n4, c6, ups⟩⟩) (holds_tir (base := 0) (show TirOwn 0 ⟨tnm, ⟨A5, n3, c5, ts⟩, ⟨A6, n4, c6, ups⟩⟩ _ from ⟨H.out.row 11 rfl, H.out.row 12 rfl, HTOk.out.1, HTOk.out.2.1, HTOk.out.2.2.1, HTOk.out.2.2.2.1, HTOk.out.2.2.2.2⟩)) (fun g hg => hg)); (try simp only [List.set_cons_zero, List.set_cons_succ, List.cons_append, List.nil_append, List.eraseIdx_cons_zero, List.eraseIdx_cons_succ, List.setIfInBounds_toArray, World.size_alloc, selR, List.getD_cons_zero, List.getD_cons_succ] at H)
              replace H := Lib.hid (H.out.both 9 11 (by omega) rfl rfl (rList rTir (accT ++ [⟨tnm, ⟨A5, n3, c5, ts⟩, ⟨A6, n4, c6, ups⟩⟩])) (holds_list_snoc (H.out.get 9 rfl) (H.out.get 11 rfl)) list_snoc_D); (try simp only [List.set_cons_zero, List.set_cons_succ, List.cons_append, List.nil_append, List.eraseIdx_cons_zero, List.eraseIdx_cons_succ, List.setIfInBounds_toArray, World.size_alloc, selR, List.getD_cons_zero, List.getD_cons_succ] at H)
              replace H := Lib.hid (H.out.sel [0, 1, 2, 3, 4, 5, 6, 7, 8, 9] (by decide) (by simp)); (try simp only [List.set_cons_zero, List.set_cons_succ, List.cons_append, List.nil_append, List.eraseIdx_cons_zero, List.eraseIdx_cons_succ, List.setIfInBounds_toArray, World.size_alloc, selR, List.getD_cons_zero, List.getD_cons_succ] at H)
              go_wp2_with fail
              go_roundg (tn - (j + 1))
              case rel => exact ⟨j + 1, accT ++ [⟨tnm, ⟨A5, n3, c5, ts⟩, ⟨A6, n4, c6, ups⟩⟩], B9, e9, rfl, by omega, by go_num, by show _ = _; rw [List.length_append, hjc.out]; rfl, by rw [List.flatMap_append, List.flatMap_cons, List.flatMap_nil, List.append_nil]; exact H, Lib.hid (HN.out _ rfl)⟩
              case measure => rw [Hgj.out]; omega
            · go_simp
              refine (HCI.out _ HB.out).mono ?_; rintro e' w7 ⟨A6, c6, rfl, hb7, hown7⟩
              replace H := Lib.hid (H.out.addRow hb7 hown7); (try simp only [List.set_cons_zero, List.set_cons_succ, List.cons_append, List.nil_append, List.eraseIdx_cons_zero, List.eraseIdx_cons_succ, List.setIfInBounds_toArray, World.size_alloc, selR, List.getD_cons_zero, List.getD_cons_succ] at H)
              replace HB := Lib.hid (HB.out.trans hb7)
              clear hb7 hown7
              refine hKK.out _ _ (by exact ⟨(H.out.blk 10 rfl).cell 0, (H.out.blk 10 rfl).cell 1, (H.out.blk 10 rfl).cell 2⟩) (fun hHeld => ?_)
              clear hKK KK
              try simp only [Act.put, List.setIfInBounds_toArray, List.set_cons_zero, List.set_cons_succ]
              refine wpAnyH_ready (rs := [1, 10]) (by kernel_rfl) (by simp) ?_
              refine (AllReadyH.cons (get_os (get_o0)) (fun KK hKK => ?_) (AllReadyH.cons (get_ot (get_o0)) (fun KK hKK => ?_) AllReadyH.nil))
              · have cv := (H.out.blk 7 rfl).cell 1; simp only [List.getElem?_toArray, List.getElem?_cons_zero, List.getElem?_cons_succ] at cv
                go_simp
                clear cv
                refine hKK.out _ _ (by exact ⟨(H.out.blk 10 rfl).cell 0, (H.out.blk 10 rfl).cell 1, (H.out.blk 10 rfl).cell 2⟩) (fun hHeld => ?_)
                clear hKK KK
                try simp only [Act.put, List.setIfInBounds_toArray, List.set_cons_zero, List.set_cons_succ]
                refine wpAnyH_ready (rs := [10]) (by kernel_rfl) (by simp) ?_
                refine (AllReadyH.cons (get_ot (get_o0)) (fun KK hKK => ?_) AllReadyH.nil)
                go_simp
                refine hKK.out _ _ (by exact ⟨(H.out.blk 10 rfl).cell 0, (H.out.blk 10 rfl).cell 1, (H.out.blk 10 rfl).cell 2⟩) (fun hHeld => ?_)
                clear hKK KK
                try simp only [Act.put, List.setIfInBounds_toArray, List.set_cons_zero, List.set_cons_succ]
                refine wpAnyH_ready (rs := [11]) (by kernel_rfl) (by simp) ?_
                refine (AllReadyH.cons (get_ot (get_os (get_o0))) (fun KK hKK => ?_) AllReadyH.nil)
                refine step_buildSlice1 rfl E_tir (.tmp 40) rfl (#[.string ⟨tnm.toArray⟩, .slice A5 n3 c5, .slice A6 n4 c6]) rfl rfl (by omega) ?_
                replace H := Lib.hid (H.out.addRow ((Bel.refl _).alloc _) (own_made _ 140 (#[.string ⟨tnm.toArray⟩, .slice A5 n3 c5, .slice A6 n4 c6]) _ rfl)); (try simp only [List.set_cons_zero, List.set_cons_succ, List.cons_append, List.nil_append, List.eraseIdx_cons_zero, List.eraseIdx_cons_succ, List.setIfInBounds_toArray, World.size_alloc, selR, List.getD_cons_zero, List.getD_cons_succ] at H)
                refine hKK.out _ _ (by exact ⟨(H.out.blk 10 rfl).cell 0, (H.out.blk 10 rfl).cell 1, (H.out.blk 10 rfl).cell 2⟩) (fun hHeld => ?_)
                clear hKK KK
                try simp only [Act.put, List.setIfInBounds_toArray, List.set_cons_zero, List.set_cons_succ]
                refine wpAnyH_ready (rs := [12]) (by kernel_rfl) (by simp) ?_
                refine (AllReadyH.cons (get_ot (get_os (get_os (get_o0)))) (fun KK hKK => ?_) AllReadyH.nil)
                refine step_append0 rfl (.tmp 31) (.tmp 41) _ rfl E_tir 0 (Nat.zero_le _) _ j _ rfl (H.out.row 8 rfl) _ 1 1 _ rfl (Rd.of_own (H.out.row 13 rfl)) (by simp [Value.oneCell']) (by unfold maxLen; omega) (by omega) ?_
                intro vq wq howq hgq hatq
                replace H := Lib.hid (H.out.setRow 8 rfl hgq howq hatq); (try simp only [List.set_cons_zero, List.set_cons_succ, List.cons_append, List.nil_append, List.eraseIdx_cons_zero, List.eraseIdx_cons_succ, List.setIfInBounds_toArray, World.size_alloc, selR, List.getD_cons_zero, List.getD_cons_succ] at H)
                clear howq hgq hatq
                obtain ⟨B9, e9, rfl, _⟩ := own_slice (H.out.row 8 rfl)
                refine hKK.out _ _ (by exact ⟨(H.out.blk 10 rfl).cell 0, (H.out.blk 10 rfl).cell 1, (H.out.blk 10 rfl).cell 2⟩) (fun hHeld => ?_)
                clear hKK KK
                try simp only [Act.put, List.setIfInBounds_toArray, List.set_cons_zero, List.set_cons_succ]
                refine wpAnyH_ready (rs := [13]) (by kernel_rfl) (by simp) ?_
                refine (AllReadyH.cons (get_ot (get_os (get_os (get_os (get_o0))))) (fun KK hKK => ?_) AllReadyH.nil)
                go_simp
                refine hKK.out _ _ (by exact ⟨(H.out.blk 10 rfl).cell 0, (H.out.blk 10 rfl).cell 1, (H.out.blk 10 rfl).cell 2⟩) (fun hHeld => ?_)
                clear hKK KK
                try simp only [Act.put, List.setIfInBounds_toArray, List.set_cons_zero, List.set_cons_succ]
                refine wpAnyH_ready (rs := [14]) (by kernel_rfl) (by simp) ?_
                refine (AllReadyH.cons (get_ot (get_os (get_os (get_os (get_os (get_o0)))))) (fun KK hKK => ?_) AllReadyH.nil)
                have cv := (H.out.blk 7 rfl).cell 1; simp only [List.getElem?_toArray, List.getElem?_cons_zero, List.getElem?_cons_succ] at cv; have fv := (H.out.blk 7 rfl).frozen 1
                go_simp
                replace H := Lib.hid (H.out.setCell 7 rfl 1 (.slice B9 (j + 1) e9)); (try simp only [List.set_cons_zero, List.set_cons_succ, List.cons_append, List.nil_append, List.eraseIdx_cons_zero, List.eraseIdx_cons_succ, List.setIfInBounds_toArray, World.size_alloc, selR, List.getD_cons_zero, List.getD_cons_succ] at H)
                clear cv fv
                refine hKK.out _ _ (by exact ⟨(H.out.blk 10 rfl).cell 0, (H.out.blk 10 rfl).cell 1, (H.out.blk 10 rfl).cell 2⟩) (fun hHeld => ?_)
                clear hKK KK
                try simp only [Act.put, List.setIfInBounds_toArray, List.set_cons_zero, List.set_cons_succ]
                refine wpAnyH_done (by kernel_rfl) ?_ _
                clear hHeld
                clear HB
                replace H := Lib.hid (H.out.both 11 12 (by omega) rfl rfl (rTir ⟨tnm, ⟨A5, n3, c5, ts⟩, ⟨A6, n4, c6, ups⟩⟩) (holds_tir (base := 0) (show TirOwn 0 ⟨tnm, ⟨A5, n3, c5, ts⟩, ⟨A6, n4, c6, ups⟩⟩ _ from ⟨H.out.row 11 rfl, H.out.row 12 rfl, HTOk.out.1, HTOk.out.2.1, HTOk.out.2.2.1, HTOk.out.2.2.2.1, HTOk.out.2.2.2.2⟩)) (fun g hg => hg)); (try simp only [List.set_cons_zero, List.set_cons_succ, List.cons_append, List.nil_append, List.eraseIdx_cons_zero, List.eraseIdx_cons_succ, List.setIfInBounds_toArray, World.size_alloc, selR, List.getD_cons_zero, List.getD_cons_succ] at H)
                replace H := Lib.hid (H.out.both 9 11 (by omega) rfl rfl (rList rTir (accT ++ [⟨tnm, ⟨A5, n3, c5, ts⟩, ⟨A6, n4, c6, ups⟩⟩])) (holds_list_snoc (H.out.get 9 rfl) (H.out.get 11 rfl)) list_snoc_D); (try simp only [List.set_cons_zero, List.set_cons_succ, List.cons_append, List.nil_append, List.eraseIdx_cons_zero, List.eraseIdx_cons_succ, List.setIfInBounds_toArray, World.size_alloc, selR, List.getD_cons_zero, List.getD_cons_succ] at H)
                replace H := Lib.hid (H.out.sel [0, 1, 2, 3, 4, 5, 6, 7, 8, 9] (by decide) (by simp)); (try simp only [List.set_cons_zero, List.set_cons_succ, List.cons_append, List.nil_append, List.eraseIdx_cons_zero, List.eraseIdx_cons_succ, List.setIfInBounds_toArray, World.size_alloc, selR, List.getD_cons_zero, List.getD_cons_succ] at H)
                go_wp2_with fail
                go_roundg (tn - (j + 1))
                case rel => exact ⟨j + 1, accT ++ [⟨tnm, ⟨A5, n3, c5, ts⟩, ⟨A6, n4, c6, ups⟩⟩], B9, e9, rfl, by omega, by go_num, by show _ = _; rw [List.length_append, hjc.out]; rfl, by rw [List.flatMap_append, List.flatMap_cons, List.flatMap_nil, List.append_nil]; exact H, Lib.hid (HN.out _ rfl)⟩
                case measure => rw [Hgj.out]; omega
              · go_simp
                refine hKK.out _ _ (by exact ⟨(H.out.blk 10 rfl).cell 0, (H.out.blk 10 rfl).cell 1, (H.out.blk 10 rfl).cell 2⟩) (fun hHeld => ?_)
                clear hKK KK
                try simp only [Act.put, List.setIfInBounds_toArray, List.set_cons_zero, List.set_cons_succ]
                refine wpAnyH_ready (rs := [1, 11]) (by kernel_rfl) (by simp) ?_
                refine (AllReadyH.cons (get_os (get_o0)) (fun KK hKK => ?_) (AllReadyH.cons (get_ot (get_os (get_o0))) (fun KK hKK => ?_) AllReadyH.nil))
                · have cv := (H.out.blk 7 rfl).cell 1; simp only [List.getElem?_toArray, List.getElem?_cons_zero, List.getElem?_cons_succ] at cv
                  go_simp
                  clear cv
                  refine hKK.out _ _ (by exact ⟨(H.out.blk 10 rfl).cell 0, (H.out.blk 10 rfl).cell 1, (H.out.blk 10 rfl).cell 2⟩) (fun hHeld => ?_)
                  clear hKK KK
                  try simp only [Act.put, List.setIfInBounds_toArray, List.set_cons_zero, List.set_cons_succ]
                  refine wpAnyH_ready (rs := [11]) (by kernel_rfl) (by simp) ?_
                  refine (AllReadyH.cons (get_ot (get_os (get_o0))) (fun KK hKK => ?_) AllReadyH.nil)
                  refine step_buildSlice1 rfl E_tir (.tmp 40) rfl (#[.string ⟨tnm.toArray⟩, .slice A5 n3 c5, .slice A6 n4 c6]) rfl rfl (by omega) ?_
                  replace H := Lib.hid (H.out.addRow ((Bel.refl _).alloc _) (own_made _ 140 (#[.string ⟨tnm.toArray⟩, .slice A5 n3 c5, .slice A6 n4 c6]) _ rfl)); (try simp only [List.set_cons_zero, List.set_cons_succ, List.cons_append, List.nil_append, List.eraseIdx_cons_zero, List.eraseIdx_cons_succ, List.setIfInBounds_toArray, World.size_alloc, selR, List.getD_cons_zero, List.getD_cons_succ] at H)
                  refine hKK.out _ _ (by exact ⟨(H.out.blk 10 rfl).cell 0, (H.out.blk 10 rfl).cell 1, (H.out.blk 10 rfl).cell 2⟩) (fun hHeld => ?_)
                  clear hKK KK
                  try simp only [Act.put, List.setIfInBounds_toArray, List.set_cons_zero, List.set_cons_succ]
                  refine wpAnyH_ready (rs := [12]) (by kernel_rfl) (by simp) ?_
                  refine (AllReadyH.cons (get_ot (get_os (get_os (get_o0)))) (fun KK hKK => ?_) AllReadyH.nil)
                  refine step_append0 rfl (.tmp 31) (.tmp 41) _ rfl E_tir 0 (Nat.zero_le _) _ j _ rfl (H.out.row 8 rfl) _ 1 1 _ rfl (Rd.of_own (H.out.row 13 rfl)) (by simp [Value.oneCell']) (by unfold maxLen; omega) (by omega) ?_
                  intro vq wq howq hgq hatq
                  replace H := Lib.hid (H.out.setRow 8 rfl hgq howq hatq); (try simp only [List.set_cons_zero, List.set_cons_succ, List.cons_append, List.nil_append, List.eraseIdx_cons_zero, List.eraseIdx_cons_succ, List.setIfInBounds_toArray, World.size_alloc, selR, List.getD_cons_zero, List.getD_cons_succ] at H)
                  clear howq hgq hatq
                  obtain ⟨B9, e9, rfl, _⟩ := own_slice (H.out.row 8 rfl)
                  refine hKK.out _ _ (by exact ⟨(H.out.blk 10 rfl).cell 0, (H.out.blk 10 rfl).cell 1, (H.out.blk 10 rfl).cell 2⟩) (fun hHeld => ?_)
                  clear hKK KK
                  try simp only [Act.put, List.setIfInBounds_toArray, List.set_cons_zero, List.set_cons_succ]
                  refine wpAnyH_ready (rs := [13]) (by kernel_rfl) (by simp) ?_
                  refine (AllReadyH.cons (get_ot (get_os (get_os (get_os (get_o0))))) (fun KK hKK => ?_) AllReadyH.nil)
                  go_simp
                  refine hKK.out _ _ (by exact ⟨(H.out.blk 10 rfl).cell 0, (H.out.blk 10 rfl).cell 1, (H.out.blk 10 rfl).cell 2⟩) (fun hHeld => ?_)
                  clear hKK KK
                  try simp only [Act.put, List.setIfInBounds_toArray, List.set_cons_zero, List.set_cons_succ]
                  refine wpAnyH_ready (rs := [14]) (by kernel_rfl) (by simp) ?_
                  refine (AllReadyH.cons (get_ot (get_os (get_os (get_os (get_os (get_o0)))))) (fun KK hKK => ?_) AllReadyH.nil)
                  have cv := (H.out.blk 7 rfl).cell 1; simp only [List.getElem?_toArray, List.getElem?_cons_zero, List.getElem?_cons_succ] at cv; have fv := (H.out.blk 7 rfl).frozen 1
                  go_simp
                  replace H := Lib.hid (H.out.setCell 7 rfl 1 (.slice B9 (j + 1) e9)); (try simp only [List.set_cons_zero, List.set_cons_succ, List.cons_append, List.nil_append, List.eraseIdx_cons_zero, List.eraseIdx_cons_succ, List.setIfInBounds_toArray, World.size_alloc, selR, List.getD_cons_zero, List.getD_cons_succ] at H)
                  clear cv fv
                  refine hKK.out _ _ (by exact ⟨(H.out.blk 10 rfl).cell 0, (H.out.blk 10 rfl).cell 1, (H.out.blk 10 rfl).cell 2⟩) (fun hHeld => ?_)
                  clear hKK KK
                  try simp only [Act.put, List.setIfInBounds_toArray, List.set_cons_zero, List.set_cons_succ]
                  refine wpAnyH_done (by kernel_rfl) ?_ _
                  clear hHeld
                  clear HB
                  replace H := Lib.hid (H.out.both 11 12 (by omega) rfl rfl (rTir ⟨tnm, ⟨A5, n3, c5, ts⟩, ⟨A6, n4, c6, ups⟩⟩) (holds_tir (base := 0) (show TirOwn 0 ⟨tnm, ⟨A5, n3, c5, ts⟩, ⟨A6, n4, c6, ups⟩⟩ _ from ⟨H.out.row 11 rfl, H.out.row 12 rfl, HTOk.out.1, HTOk.out.2.1, HTOk.out.2.2.1, HTOk.out.2.2.2.1, HTOk.out.2.2.2.2⟩)) (fun g hg => hg)); (try simp only [List.set_cons_zero, List.set_cons_succ, List.cons_append, List.nil_append, List.eraseIdx_cons_zero, List.eraseIdx_cons_succ, List.setIfInBounds_toArray, World.size_alloc, selR, List.getD_cons_zero, List.getD_cons_succ] at H)
                  replace H := Lib.hid (H.out.both 9 11 (by omega) rfl rfl (rList rTir (accT ++ [⟨tnm, ⟨A5, n3, c5, ts⟩, ⟨A6, n4, c6, ups⟩⟩])) (holds_list_snoc (H.out.get 9 rfl) (H.out.get 11 rfl)) list_snoc_D); (try simp only [List.set_cons_zero, List.set_cons_succ, List.cons_append, List.nil_append, List.eraseIdx_cons_zero, List.eraseIdx_cons_succ, List.setIfInBounds_toArray, World.size_alloc, selR, List.getD_cons_zero, List.getD_cons_succ] at H)
                  replace H := Lib.hid (H.out.sel [0, 1, 2, 3, 4, 5, 6, 7, 8, 9] (by decide) (by simp)); (try simp only [List.set_cons_zero, List.set_cons_succ, List.cons_append, List.nil_append, List.eraseIdx_cons_zero, List.eraseIdx_cons_succ, List.setIfInBounds_toArray, World.size_alloc, selR, List.getD_cons_zero, List.getD_cons_succ] at H)
                  go_wp2_with fail
                  go_roundg (tn - (j + 1))
                  case rel => exact ⟨j + 1, accT ++ [⟨tnm, ⟨A5, n3, c5, ts⟩, ⟨A6, n4, c6, ups⟩⟩], B9, e9, rfl, by omega, by go_num, by show _ = _; rw [List.length_append, hjc.out]; rfl, by rw [List.flatMap_append, List.flatMap_cons, List.flatMap_nil, List.append_nil]; exact H, Lib.hid (HN.out _ rfl)⟩
                  case measure => rw [Hgj.out]; omega
                · refine step_buildSlice1 rfl E_tir (.tmp 40) rfl (#[.string ⟨tnm.toArray⟩, .slice A5 n3 c5, .slice A6 n4 c6]) rfl rfl (by omega) ?_
                  replace H := Lib.hid (H.out.addRow ((Bel.refl _).alloc _) (own_made _ 140 (#[.string ⟨tnm.toArray⟩, .slice A5 n3 c5, .slice A6 n4 c6]) _ rfl)); (try simp only [List.set_cons_zero, List.set_cons_succ, List.cons_append, List.nil_append, List.eraseIdx_cons_zero, List.eraseIdx_cons_succ, List.setIfInBounds_toArray, World.size_alloc, selR, List.getD_cons_zero, List.getD_cons_succ] at H)
                  refine hKK.out _ _ (by exact ⟨(H.out.blk 10 rfl).cell 0, (H.out.blk 10 rfl).cell 1, (H.out.blk 10 rfl).cell 2⟩) (fun hHeld => ?_)
                  clear hKK KK
                  try simp only [Act.put, List.setIfInBounds_toArray, List.set_cons_zero, List.set_cons_succ]
                  refine wpAnyH_ready (rs := [1]) (by kernel_rfl) (by simp) ?_
                  refine (AllReadyH.cons (get_os (get_o0)) (fun KK hKK => ?_) AllReadyH.nil)
                  have cv := (H.out.blk 7 rfl).cell 1; simp only [List.getElem?_toArray, List.getElem?_cons_zero, List.getElem?_cons_succ] at cv
                  go_simp
                  clear cv
                  refine hKK.out _ _ (by exact ⟨(H.out.blk 10 rfl).cell 0, (H.out.blk 10 rfl).cell 1, (H.out.blk 10 rfl).cell 2⟩) (fun hHeld => ?_)
                  clear hKK KK
                  try simp only [Act.put, List.setIfInBounds_toArray, List.set_cons_zero, List.set_cons_succ]
                  refine wpAnyH_ready (rs := [12]) (by kernel_rfl) (by simp) ?_
                  refine (AllReadyH.cons (get_ot (get_os (get_os (get_o0)))) (fun KK hKK => ?_) AllReadyH.nil)
                  refine step_append0 rfl (.tmp 31) (.tmp 41) _ rfl E_tir 0 (Nat.zero_le _) _ j _ rfl (H.out.row 8 rfl) _ 1 1 _ rfl (Rd.of_own (H.out.row 13 rfl)) (by simp [Value.oneCell']) (by unfold maxLen; omega) (by omega) ?_
                  intro vq wq howq hgq hatq
                  replace H := Lib.hid (H.out.setRow 8 rfl hgq howq hatq); (try simp only [List.set_cons_zero, List.set_cons_succ, List.cons_append, List.nil_append, List.eraseIdx_cons_zero, List.eraseIdx_cons_succ, List.setIfInBounds_toArray, World.size_alloc, selR, List.getD_cons_zero, List.getD_cons_succ] at H)
                  clear howq hgq hatq
                  obtain ⟨B9, e9, rfl, _⟩ := own_slice (H.out.row 8 rfl)
                  refine hKK.out _ _ (by exact ⟨(H.out.blk 10 rfl).cell 0, (H.out.blk 10 rfl).cell 1, (H.out.blk 10 rfl).cell 2⟩) (fun hHeld => ?_)
                  clear hKK KK
                  try simp only [Act.put, List.setIfInBounds_toArray, List.set_cons_zero, List.set_cons_succ]
                  refine wpAnyH_ready (rs := [13]) (by kernel_rfl) (by simp) ?_
                  refine (AllReadyH.cons (get_ot (get_os (get_os (get_os (get_o0))))) (fun KK hKK => ?_) AllReadyH.nil)
                  go_simp
                  refine hKK.out _ _ (by exact ⟨(H.out.blk 10 rfl).cell 0, (H.out.blk 10 rfl).cell 1, (H.out.blk 10 rfl).cell 2⟩) (fun hHeld => ?_)
                  clear hKK KK
                  try simp only [Act.put, List.setIfInBounds_toArray, List.set_cons_zero, List.set_cons_succ]
                  refine wpAnyH_ready (rs := [14]) (by kernel_rfl) (by simp) ?_
                  refine (AllReadyH.cons (get_ot (get_os (get_os (get_os (get_os (get_o0)))))) (fun KK hKK => ?_) AllReadyH.nil)
                  have cv := (H.out.blk 7 rfl).cell 1; simp only [List.getElem?_toArray, List.getElem?_cons_zero, List.getElem?_cons_succ] at cv; have fv := (H.out.blk 7 rfl).frozen 1
                  go_simp
                  replace H := Lib.hid (H.out.setCell 7 rfl 1 (.slice B9 (j + 1) e9)); (try simp only [List.set_cons_zero, List.set_cons_succ, List.cons_append, List.nil_append, List.eraseIdx_cons_zero, List.eraseIdx_cons_succ, List.setIfInBounds_toArray, World.size_alloc, selR, List.getD_cons_zero, List.getD_cons_succ] at H)
                  clear cv fv
                  refine hKK.out _ _ (by exact ⟨(H.out.blk 10 rfl).cell 0, (H.out.blk 10 rfl).cell 1, (H.out.blk 10 rfl).cell 2⟩) (fun hHeld => ?_)
                  clear hKK KK
                  try simp only [Act.put, List.setIfInBounds_toArray, List.set_cons_zero, List.set_cons_succ]
                  refine wpAnyH_done (by kernel_rfl) ?_ _
                  clear hHeld
                  clear HB
                  replace H := Lib.hid (H.out.both 11 12 (by omega) rfl rfl (rTir ⟨tnm, ⟨A5, n3, c5, ts⟩, ⟨A6, n4, c6, ups⟩⟩) (holds_tir (base := 0) (show TirOwn 0 ⟨tnm, ⟨A5, n3, c5, ts⟩, ⟨A6, n4, c6, ups⟩⟩ _ from ⟨H.out.row 11 rfl, H.out.row 12 rfl, HTOk.out.1, HTOk.out.2.1, HTOk.out.2.2.1, HTOk.out.2.2.2.1, HTOk.out.2.2.2.2⟩)) (fun g hg => hg)); (try simp only [List.set_cons_zero, List.set_cons_succ, List.cons_append, List.nil_append, List.eraseIdx_cons_zero, List.eraseIdx_cons_succ, List.setIfInBounds_toArray, World.size_alloc, selR, List.getD_cons_zero, List.getD_cons_succ] at H)
                  replace H := Lib.hid (H.out.both 9 11 (by omega) rfl rfl (rList rTir (accT ++ [⟨tnm, ⟨A5, n3, c5, ts⟩, ⟨A6, n4, c6, ups⟩⟩])) (holds_list_snoc (H.out.get 9 rfl) (H.out.get 11 rfl)) list_snoc_D); (try simp only [List.set_cons_zero, List.set_cons_succ, List.cons_append, List.nil_append, List.eraseIdx_cons_zero, List.eraseIdx_cons_succ, List.setIfInBounds_toArray, World.size_alloc, selR, List.getD_cons_zero, List.getD_cons_succ] at H)
                  replace H := Lib.hid (H.out.sel [0, 1, 2, 3, 4, 5, 6, 7, 8, 9] (by decide) (by simp)); (try simp only [List.set_cons_zero, List.set_cons_succ, List.cons_append, List.nil_append, List.eraseIdx_cons_zero, List.eraseIdx_cons_succ, List.setIfInBounds_toArray, World.size_alloc, selR, List.getD_cons_zero, List.getD_cons_succ] at H)
                  go_wp2_with fail
                  go_roundg (tn - (j + 1))
                  case rel => exact ⟨j + 1, accT ++ [⟨tnm, ⟨A5, n3, c5, ts⟩, ⟨A6, n4, c6, ups⟩⟩], B9, e9, rfl, by omega, by go_num, by show _ = _; rw [List.length_append, hjc.out]; rfl, by rw [List.flatMap_append, List.flatMap_cons, List.flatMap_nil, List.append_nil]; exact H, Lib.hid (HN.out _ rfl)⟩
                  case measure => rw [Hgj.out]; omega
        · obtain rfl : j = tn := by omega
          have HN3 : Hid ((acc ++ [(⟨nm, ⟨B, j, e, accT⟩⟩ : Dm)]).map Dm.con = (ds.map Dm.con).take (k + 1)) := by
            show _ = _
            rw [List.map_append, H0N.out, take_snoc_get HDC.out]
            have h := HN2.out
            rw [List.take_of_length_le (by rw [List.length_map, tl.out]; omega)] at h
            show _ ++ [(⟨nm, accT.map Tir.con⟩ : DC)] = _
            rw [h]
          clear HN2
          replace H := Lib.hid (H.out.both 8 9 (by omega) rfl rfl (rDm ⟨nm, ⟨B, j, e, accT⟩⟩) (holds_dm (by omega) (by omega) (H.out.get 8 rfl) (H.out.get 9 rfl)) (fun g hg => hg)); (try simp only [List.set_cons_zero, List.set_cons_succ, List.cons_append, List.nil_append, List.eraseIdx_cons_zero, List.eraseIdx_cons_succ, List.setIfInBounds_toArray, World.size_alloc, selR, List.getD_cons_zero, List.getD_cons_succ] at H)
          have cz0 := (H.out.blk 2 rfl).cell 0; simp only [List.getElem?_toArray, List.getElem?_cons_zero, List.getElem?_cons_succ] at cz0
          go_wp2_with (first | ((with_reducible show wpList _ _ _ (⟨some 47, _, _, _, _, _⟩ :: _) _ _); (refine wpList_load_blk rfl rowDm (.tmp 6) rfl _ rfl (H.out.blk 7 rfl) rfl ?_)) | ((with_reducible show wpList _ _ _ (⟨some 48, _, _, _, _, _⟩ :: _) _ _); (refine wpList_buildSlice1 rfl E_dm (.tmp 47) rfl (#[.string ⟨nm.toArray⟩, .slice B j e]) rfl rfl (by omega) ?_; replace H := Lib.hid (H.out.addRow ((Bel.refl _).alloc _) (own_made _ 64 (#[.string ⟨nm.toArray⟩, .slice B j e]) _ rfl)); (try simp only [List.set_cons_zero, List.set_cons_succ, List.cons_append, List.nil_append, List.eraseIdx_cons_zero, List.eraseIdx_cons_succ, List.setIfInBounds_toArray, World.size_alloc, selR, List.getD_cons_zero, List.getD_cons_succ] at H); clear cz0; have cz0 := (H.out.blk 2 rfl).cell 0; simp only [List.getElem?_toArray, List.getElem?_cons_zero, List.getElem?_cons_succ] at cz0)) | ((with_reducible show wpList _ _ _ (⟨some 49, _, _, _, _, _⟩ :: _) _ _); (refine wpList_append0 rfl (.tmp 46) (.tmp 48) _ rfl E_dm 0 (Nat.zero_le _) _ k _ rfl (H.out.row 3 rfl) _ 1 1 _ rfl (Rd.of_own (H.out.row 9 rfl)) (dm1_one ⟨nm, ⟨B, j, e, accT⟩⟩) (by unfold maxLen; omega) (by omega) ?_; intro vq wq howq hgq hatq; replace H := Lib.hid (H.out.setRow 3 rfl hgq howq hatq); (try simp only [List.set_cons_zero, List.set_cons_succ, List.cons_append, List.nil_append, List.eraseIdx_cons_zero, List.eraseIdx_cons_succ, List.setIfInBounds_toArray, World.size_alloc, selR, List.getD_cons_zero, List.getD_cons_succ] at H); clear howq hgq hatq; obtain ⟨A9, c9, rfl, _⟩ := own_slice (H.out.row 3 rfl); clear cz0; have cz0 := (H.out.blk 2 rfl).cell 0; simp only [List.getElem?_toArray, List.getElem?_cons_zero, List.getElem?_cons_succ] at cz0; have fz0 := (H.out.blk 2 rfl).frozen 0)))
          replace H := Lib.hid (H.out.setCell 2 rfl 0 (.slice A9 (k + 1) c9)); (try simp only [List.set_cons_zero, List.set_cons_succ, List.cons_append, List.nil_append, List.eraseIdx_cons_zero, List.eraseIdx_cons_succ, List.setIfInBounds_toArray, World.size_alloc, selR, List.getD_cons_zero, List.getD_cons_succ] at H)
          replace H := Lib.hid (H.out.both 4 8 (by omega) rfl rfl (rList rDm (acc ++ [⟨nm, ⟨B, j, e, accT⟩⟩])) (holds_list_snoc (H.out.get 4 rfl) (H.out.get 8 rfl)) list_snoc_D); (try simp only [List.set_cons_zero, List.set_cons_succ, List.cons_append, List.nil_append, List.eraseIdx_cons_zero, List.eraseIdx_cons_succ, List.setIfInBounds_toArray, World.size_alloc, selR, List.getD_cons_zero, List.getD_cons_succ] at H)
          replace H := Lib.hid (H.out.sel [0, 1, 2, 3, 4, 5] (by decide) (by simp)); (try simp only [List.set_cons_zero, List.set_cons_succ, List.cons_append, List.nil_append, List.eraseIdx_cons_zero, List.eraseIdx_cons_succ, List.setIfInBounds_toArray, World.size_alloc, selR, List.getD_cons_zero, List.getD_cons_succ] at H)
          clear cz0 fz0
          go_wp2_with fail
          go_roundg (n - (k + 1))
          case rel => exact ⟨k + 1, acc ++ [⟨nm, ⟨B, j, e, accT⟩⟩], A9, c9, rfl, by omega, by go_num, by show _ = _; rw [List.length_append, hkc.out]; rfl, by rw [List.flatMap_append, List.flatMap_cons, List.flatMap_nil, List.append_nil]; exact H, HN3⟩
          case measure => rw [Hgk.out]; omega
    · obtain rfl : k = n := by omega
      have HN3 : Hid (acc.map Dm.con = ds.map Dm.con) := by
        have h := HN.out
        rw [List.take_of_length_le (by rw [List.length_map, hl1.out]; omega)] at h
        exact h
      replace H := Lib.hid (H.out.both 3 4 (by omega) rfl rfl (rX acc A k c) (holds_X (H.out.get 3 rfl) (H.out.get 4 rfl)) (fun g hg => hg)); (try simp only [List.set_cons_zero, List.set_cons_succ, List.cons_append, List.nil_append, List.eraseIdx_cons_zero, List.eraseIdx_cons_succ, List.setIfInBounds_toArray, World.size_alloc, selR, List.getD_cons_zero, List.getD_cons_succ] at H)
      replace H := Lib.hid (H.out.both 3 4 (by omega) rfl rfl (rSch ⟨⟨A, k, c, acc⟩, ⟨MB, mn, md, ms⟩⟩) (holds_sch (of_X (H.out.get 3 rfl)).1 (of_X (H.out.get 3 rfl)).2 (H.out.get 4 rfl) HML.out (by omega) (by omega)) (fun g hg => hg.elim (fun h => .inl (.inl h)) (fun h => h.elim (fun h => .inl (.inr h)) .inr))); (try simp only [List.set_cons_zero, List.set_cons_succ, List.cons_append, List.nil_append, List.eraseIdx_cons_zero, List.eraseIdx_cons_succ, List.setIfInBounds_toArray, World.size_alloc, selR, List.getD_cons_zero, List.getD_cons_succ] at H)
      go_wp2_with (first | ((with_reducible show wpList _ _ _ (⟨some 52, _, _, _, _, _⟩ :: _) _ _); (refine wpList_load_blk rfl rowSch (.tmp 3) rfl _ rfl (H.out.blk 2 rfl) rfl ?_)) | ((with_reducible show wpList _ _ _ (⟨_, .store _ (.tmp 2) _, _, _, _, _⟩ :: _) _ _); (refine wpList_store_blk rfl rowSch (.tmp 2) (.tmp 52) rfl _ rfl (H.out.blk 1 rfl) rfl (#[.slice A k c, .slice MB mn md]) rfl rfl (by simp [Value.oneCell']) ?_; intro wq bq hgq; replace H := Lib.hid (H.out.setBlk 1 rfl hgq bq); (try simp only [List.set_cons_zero, List.set_cons_succ, List.cons_append, List.nil_append, List.eraseIdx_cons_zero, List.eraseIdx_cons_succ, List.setIfInBounds_toArray, World.size_alloc, selR, List.getD_cons_zero, List.getD_cons_succ] at H); clear hgq bq)))
      refine bodyPost_ret (results_blk1 rfl rowSch rfl (H.out.blk 1 rfl) rfl) rfl ?_
      exact ⟨⟨⟨A, k, c, acc⟩, ⟨MB, mn, md, ms⟩⟩, rfl, by show (⟨_, _⟩ : SC) = ⟨_, _⟩; rw [HN3.out], H.out.to, H.out.get 3 rfl, H.out.new 3 rfl⟩

end Go.Proofs.Ytnekknemjhlgdaa

namespace Go.Proofs.Ytnekknemjhlgdaa
open Go.RowKit Go.ChangeShapes Go.WideShapes Go.Deep
set_option linter.unusedVariables false
set_option linter.unusedSimpArgs false


/-- A catalog. -/
structure Ct where
  sc : Sch
  fa : Int
  p0 : Int
  q0 : Int
  p1 : Int
  q1 : Int
  p2 : Int
  q2 : Int
abbrev Ct.cs (s : Ct) : Array Value := #[.slice s.sc.dm.A s.sc.dm.n s.sc.dm.c, .slice s.sc.ms.A s.sc.ms.n s.sc.ms.c, .int .i64 s.fa, .int .i64 s.p0, .int .i64 s.q0, .int .i64 s.p1, .int .i64 s.q1, .int .i64 s.p2, .int .i64 s.q2]
structure Ct.rd (w : World) (s : Ct) : Prop where
  sc : s.sc.rd w
  fa : I64 s.fa
  p0 : I64 s.p0
  q0 : I64 s.q0
  p1 : I64 s.p1
  q1 : I64 s.q1
  p2 : I64 s.p2
  q2 : I64 s.q2
theorem Ct.rd.mono {w w' : World} {s : Ct} (h : s.rd w) (hb : Bel w w') : s.rd w' := ⟨h.sc.mono hb, h.fa, h.p0, h.q0, h.p1, h.q1, h.p2, h.q2⟩
/-- What it says. -/
@[ext] structure CC where
  sc : SC
  fa : Int
  p0 : Int
  q0 : Int
  p1 : Int
  q1 : Int
  p2 : Int
  q2 : Int
abbrev Ct.con (s : Ct) : CC := ⟨s.sc.con, s.fa, s.p0, s.q0, s.p1, s.q1, s.p2, s.q2⟩
abbrev Ct.nil : Ct := ⟨Sch.nil, 0, 0, 0, 0, 0, 0, 0⟩
abbrev CC.nil : CC := ⟨SC.nil, 0, 0, 0, 0, 0, 0, 0⟩
theorem ct_one (s : Ct) : s.cs.all (·.oneCell') = true := by simp [Value.oneCell']
theorem i64_zero : I64 0 := by unfold I64; omega
theorem ct_nil_rd (w : World) : Ct.nil.rd w := ⟨sch_nil_rd w, i64_zero, i64_zero, i64_zero, i64_zero, i64_zero, i64_zero, i64_zero⟩
theorem rowCt : RowTy Try.prog 30 9 := ⟨⟨_, Try.underlying30, rfl⟩, by kernel_rfl⟩
theorem rowTt : RowTy Try.prog 27 2 := ⟨⟨_, Try.underlying27, rfl⟩, by kernel_rfl⟩
theorem rowTts : RowTy Try.prog 28 6 := ⟨⟨_, Try.underlying28, rfl⟩, by kernel_rfl⟩
/-- Some cells of a block. -/
theorem Blk.part {w : World} {g : Nat} {t : TypeId} {cs : Array Value} (h : Blk w g t cs) (o : Nat) (l : List Value) (hl : (cs.toList.drop o).take l.length = l) : w.rangeAt g o l := fun j v hv => by
  rw [h.cell]
  rw [← hl, List.getElem?_take] at hv
  split at hv
  · rw [List.getElem?_drop] at hv
    simpa using hv
  · cases hv
/-- A total that may not be: at this place, of so many measures. -/
def badTot (m : Int) (i : Int) (p q : Int) : Bool := !(decide (0 ≤ p) && decide (q ≤ 0)) || (decide (m ≤ i) && !(decide (p = 0) && decide (q = 0)))
/-- The number of why a catalog may not be. -/
def catErr (c : CC) : Int :=
  if schErr c.sc ≠ 0 then schErr c.sc
  else if c.fa < 0 ∨ 4000 < c.fa then 6
  else if badTot c.sc.ms.length 0 c.p0 c.q0 then 2
  else if badTot c.sc.ms.length 1 c.p1 c.q1 then 2
  else if badTot c.sc.ms.length 2 c.p2 c.q2 then 2
  else 0
set_option maxRecDepth 100000 in
theorem c_tot : Try.prog.cellsOf 27 = 2 := by kernel_rfl
theorem info_tot : (Try.prog.info? 27).map (fun i => (i.zero, i.size, i.bytes)) = some (some (.agg #[.int .i64 0, .int .i64 0]), 2, 16) := by kernel_rfl
theorem guard_tot : Try.prog.eqGuardType Try.prog.depth 27 = false := by kernel_rfl
theorem guard_tots : Try.prog.eqGuardType Try.prog.depth 28 = false := by kernel_rfl
set_option maxRecDepth 100000 in
set_option maxHeartbeats 1000000 in
theorem neq_tot (p q : Int) (W : World) : (binOp .neq 27 (.agg #[.int .i64 p, .int .i64 q]) (.agg #[.int .i64 0, .int .i64 0])).run Try.prog W = .ok (.bool (!(decide (p = 0) && decide (q = 0)))) W := by
  by_cases h1 : p = 0 <;> by_cases h2 : q = 0 <;> go_simp
set_option maxRecDepth 100000 in
set_option maxHeartbeats 1000000 in
theorem eql_tots (p0 q0 p1 q1 p2 q2 a0 b0 a1 b1 a2 b2 : Int) (W : World) : (binOp .eql 28 (.agg #[.int .i64 p0, .int .i64 q0, .int .i64 p1, .int .i64 q1, .int .i64 p2, .int .i64 q2]) (.agg #[.int .i64 a0, .int .i64 b0, .int .i64 a1, .int .i64 b1, .int .i64 a2, .int .i64 b2])).run Try.prog W = .ok (.bool (decide (p0 = a0 ∧ q0 = b0 ∧ p1 = a1 ∧ q1 = b1 ∧ p2 = a2 ∧ q2 = b2))) W := by
  obtain ⟨i0, hi0, hz0, hz1, hz2⟩ := info_parts info_tot
  go_simp
  rw [run_equalIn_array W 9999 _ _ Try.underlying28 hi0, c_tot]
  simp only [show List.range 3 = [0, 1, 2] from rfl, Op.eqItems]
  go_simp
  clear hi0 hz0 hz1 hz2
  repeat' split
  all_goals simp_all
set_option maxRecDepth 100000 in
theorem c_tots : Try.prog.cellsOf 28 = 6 := by kernel_rfl
set_option maxRecDepth 100000 in
theorem c_ct : Try.prog.cellsOf 30 = 9 := by kernel_rfl
set_option maxRecDepth 100000 in
theorem c_i64q : Try.prog.cellsOf 2 = 1 := by kernel_rfl
set_option maxRecDepth 100000 in
theorem c_intq : Try.prog.cellsOf 3 = 1 := by kernel_rfl
theorem opens_tot : OpensTo Try.prog 27 (fun _ cs (p : Int × Int) => cs = [.int .i64 p.1, .int .i64 p.2] ∧ I64 p.1 ∧ I64 p.2) := by
  intro H enc w base spare held fuel cs x h hz
  have hl := struct_len Try.underlying27 h c_tot
  obtain ⟨a, ha, wa⟩ := field_of Try.underlying27 h hz 0 _ rfl (opens_i64 Try.underlying2) c_i64q
  obtain ⟨b, hb, wb⟩ := field_of Try.underlying27 h hz 1 _ rfl (opens_i64 Try.underlying2) c_i64q
  refine ⟨⟨a, b⟩, ?_, wa, wb⟩
  match cs, hl with
  | [x0, x1], _ =>
    simp [Cel.cells] at ha hb
    simp [ha, hb]
set_option maxRecDepth 100000 in
theorem open_ct {H : Type} {enc : TypeId × Value → H} {w : World} {base b0 : Nat} {spare : Nat → Bool} {held : Bool} {r : Reach} {v : Value} {d : DataW H} {p : List MemPlace}
    (hv : Value.okWide Try.prog w r b0 30 v) (h : DataW.Trod enc Try.prog w base spare held 30 v d p) (hz : Sized Try.prog 30 d) : ∃ t : Ct, v = .agg t.cs ∧ t.rd w := by
  obtain ⟨cs, rfl, _⟩ := okWide_struct Try.underlying30 hv
  obtain ⟨fuel, hf⟩ := h
  have hl := struct_len Try.underlying30 hf c_ct
  obtain ⟨a, ha, wa⟩ := field_of Try.underlying30 hf hz 0 _ rfl opens_sch c_sch
  obtain ⟨b, hb, wb⟩ := field_of Try.underlying30 hf hz 1 _ rfl (opens_i64 Try.underlying3) c_intq
  have hM : OpensTo Try.prog 28 (fun _ cs (x : (Int × Int) × (Int × Int) × (Int × Int)) => (cs.drop 0).take 2 = [.int .i64 x.1.1, .int .i64 x.1.2] ∧ (cs.drop 2).take 2 = [.int .i64 x.2.1.1, .int .i64 x.2.1.2] ∧ (cs.drop 4).take 2 = [.int .i64 x.2.2.1, .int .i64 x.2.2.2] ∧ (I64 x.1.1 ∧ I64 x.1.2) ∧ (I64 x.2.1.1 ∧ I64 x.2.1.2) ∧ (I64 x.2.2.1 ∧ I64 x.2.2.2)) := by
    intro H enc w base spare held fuel cs x h hz
    obtain ⟨p, hp, wp⟩ := elem_of Try.underlying28 h hz opens_tot c_tot 0 (by omega)
    obtain ⟨q, hq, wq⟩ := elem_of Try.underlying28 h hz opens_tot c_tot 1 (by omega)
    obtain ⟨r, hr, wr⟩ := elem_of Try.underlying28 h hz opens_tot c_tot 2 (by omega)
    exact ⟨(p, q, r), hp, hq, hr, wp, wq, wr⟩
  obtain ⟨⟨⟨p0, q0⟩, ⟨p1, q1⟩, ⟨p2, q2⟩⟩, hp, hq, hr, ⟨w1, w2⟩, ⟨w3, w4⟩, ⟨w5, w6⟩⟩ := field_of Try.underlying30 hf hz 2 _ rfl hM c_tots
  refine ⟨⟨a, b, p0, q0, p1, q1, p2, q2⟩, ?_, ⟨wa, wb, w1, w2, w3, w4, w5, w6⟩⟩
  simp only [Value.cells] at ha hb hl hp hq hr
  obtain ⟨cl⟩ := cs
  match cl, hl with
  | [x0, x1, x2, x3, x4, x5, x6, x7, x8], _ =>
    simp [Cel.cells, Row.v] at ha hb hp hq hr
    simp [ha, hb, hp, hq, hr]

set_option maxRecDepth 100000 in
set_option maxHeartbeats 1000000 in
theorem may_any (p q : Int) (w : World) :
    Calls Try.prog 85 #[.agg #[.int .i64 p, .int .i64 q]] w fun e w' => e = .returned (.bool (decide (0 ≤ p) && decide (q ≤ 0))) ∧ Bel w w' := by
  by_cases h : 0 ≤ p
  · have d0 : decide (0 ≤ p) = true := by simp [h]
    go_enter Try.func85, Try.ntmps85
    go_wp2
    go_ret
    exact ⟨by first | (rw [d0]; rfl) | rfl, (Bel.refl w).alloc _⟩
  · have d0 : decide (0 ≤ p) = false := by simp [h]
    go_enter Try.func85, Try.ntmps85
    go_wp2
    go_ret
    exact ⟨by first | (rw [d0]; rfl) | rfl, (Bel.refl w).alloc _⟩

end Go.Proofs.Ytnekknemjhlgdaa

namespace Go.Proofs.Ytnekknemjhlgdaa
open Go.RowKit
set_option linter.unusedVariables false
set_option linter.unusedSimpArgs false


/-- A schema of memory that is not beyond what the machine holds. -/
def SmS (s : Sch) : Prop := s.dm.n ≤ 1000000 ∧ s.ms.n ≤ 1000000 ∧ ∀ d ∈ s.dm.l, d.tr.n ≤ 1000000 ∧ ∀ t ∈ d.tr.l, t.up.n ≤ 100000
def catT2 (c : CC) : Int := if badTot c.sc.ms.length 2 c.p2 c.q2 then 2 else 0
def catT1 (c : CC) : Int := if badTot c.sc.ms.length 1 c.p1 c.q1 then 2 else catT2 c
def catT0 (c : CC) : Int := if badTot c.sc.ms.length 0 c.p0 c.q0 then 2 else catT1 c
def catFrom (c : CC) (k : Nat) : Int := if k = 0 then catT0 c else if k = 1 then catT1 c else if k = 2 then catT2 c else 0
theorem catErr_sc {c : CC} (h : schErr c.sc ≠ 0) : catErr c = schErr c.sc := by unfold catErr; rw [if_pos h]
theorem catErr_fa {c : CC} (h : schErr c.sc = 0) (h2 : c.fa < 0 ∨ 4000 < c.fa) : catErr c = 6 := by unfold catErr; rw [if_neg (by simp [h]), if_pos h2]
theorem catErr_from {c : CC} (h : schErr c.sc = 0) (h2 : ¬ (c.fa < 0 ∨ 4000 < c.fa)) : catErr c = catFrom c 0 := by unfold catErr; rw [if_neg (by simp [h]), if_neg h2]; rfl
theorem badTot_may {m i p q : Int} (h : (decide (0 ≤ p) && decide (q ≤ 0)) = false) : badTot m i p q = true := by unfold badTot; rw [h]; rfl
theorem badTot_in {m i p q : Int} (h : (decide (0 ≤ p) && decide (q ≤ 0)) = true) (h2 : ¬ m ≤ i) : badTot m i p q = false := by unfold badTot; rw [h]; simp [h2]
theorem badTot_out {m i p q : Int} (h : (decide (0 ≤ p) && decide (q ≤ 0)) = true) (h2 : m ≤ i) {b : Bool} (h3 : (!(decide (p = 0) && decide (q = 0))) = b) : badTot m i p q = b := by unfold badTot; rw [h, h3]; simp [h2]

set_option maxRecDepth 100000 in
set_option maxHeartbeats 2000000 in
theorem catcheck_any (s : Ct) (w : World) (hs : s.rd w) (hm : SmS s.sc) :
    Calls Try.prog 22 #[.agg s.cs] w fun e w' => e = .returned (.int .i64 (catErr s.con)) ∧ Bel w w' := by
  have HC := Lib.hid (fun w' (hb : Bel w w') => schcheck_any s.sc w' (hs.sc.mono hb) hm.1 hm.2.1 hm.2.2)
  have hl2 : Hid (s.sc.ms.l.length = s.sc.ms.n) := hs.sc.ms.len
  have H := Lib.hid ((SL.start No w).alloc s.cs 30)
  (try simp only [List.set_cons_zero, List.set_cons_succ, List.cons_append, List.nil_append, List.eraseIdx_cons_zero, List.eraseIdx_cons_succ, List.setIfInBounds_toArray, World.size_alloc, selR, List.getD_cons_zero, List.getD_cons_succ] at H)
  have f1 := hs.fa
  unfold I64 at f1
  obtain ⟨⟨⟨A, n, c, ds⟩, ⟨MA, mn, mc, ms⟩⟩, fa, p0, q0, p1, q1, p2, q2⟩ := s
  simp only [Ct.cs, Sch.cs, Ct.con, Sch.con] at *
  obtain ⟨f1, f2⟩ := f1
  clear hs hm
  go_enter Try.func22, Try.ntmps22
  go_wp2_with ((with_reducible show wpList _ _ _ (⟨some 7, _, _, _, _, _⟩ :: _) _ _); (refine wpList_load_row_at rfl rowSch (.tmp 6) rfl w.heap.size (0) rfl #[.slice A n c, .slice MA mn mc] rfl ((H.out.blk 0 rfl).part 0 _ rfl) ?_))
  generalize w.heap.size = x at *
  generalize World.alloc _ _ = w1 at *
  refine (HC.out _ H.out.to).mono ?_; rintro e w2 ⟨rfl, hb2⟩
  replace H := Lib.hid (H.out.bel hb2); (try simp only [List.set_cons_zero, List.set_cons_succ, List.cons_append, List.nil_append, List.eraseIdx_cons_zero, List.eraseIdx_cons_succ, List.setIfInBounds_toArray, World.size_alloc, selR, List.getD_cons_zero, List.getD_cons_succ] at H)
  clear hb2 HC
  by_cases hE : schErr (⟨ds.map Dm.con, ms⟩ : SC) = 0
  · have hm1 : Hid (1 ≤ mn) := by have h : 1 ≤ ms.length := (schErr_zero hE).2.2.2.1; have h5 := hl2.out; show _ ≤ _; omega
    rw [hE]
    have c2 := (H.out.blk 0 rfl).cell 2; simp only [List.getElem?_toArray, List.getElem?_cons_zero, List.getElem?_cons_succ] at c2
    by_cases h1 : fa < 0
    · have HV : Hid (catErr ⟨⟨ds.map Dm.con, ms⟩, fa, p0, q0, p1, q1, p2, q2⟩ = 6) := catErr_fa hE (.inl h1)
      clear hE
      go_wp2_with fail
      go_ret
      rw [HV.out]
      exact ⟨rfl, H.out.to⟩
    · by_cases h2 : 4000 < fa
      · have HV : Hid (catErr ⟨⟨ds.map Dm.con, ms⟩, fa, p0, q0, p1, q1, p2, q2⟩ = 6) := catErr_fa hE (.inr h2)
        clear hE
        go_wp2_with fail
        go_ret
        rw [HV.out]
        exact ⟨rfl, H.out.to⟩
      · have HV : Hid (catErr ⟨⟨ds.map Dm.con, ms⟩, fa, p0, q0, p1, q1, p2, q2⟩ = catFrom ⟨⟨ds.map Dm.con, ms⟩, fa, p0, q0, p1, q1, p2, q2⟩ 0) := catErr_from hE (by rintro (h | h); exact h1 h; exact h2 h)
        clear hE
        go_wp2_with ((with_reducible show wpList _ _ _ (⟨some 21, _, _, _, _, _⟩ :: _) _ _); (refine wpList_load_row_at rfl rowTts (.tmp 20) rfl x (3) rfl #[.int .i64 p0, .int .i64 q0, .int .i64 p1, .int .i64 q1, .int .i64 p2, .int .i64 q2] rfl ((H.out.blk 0 rfl).part 3 _ rfl) ?_))
        clear c2 h1 h2 f1 f2
        go_loopg [22] 3 (fun gg i wr => ∃ k : Nat, gg = 3 - k ∧ k ≤ 3 ∧ i = .int .i64 k ∧ Hid (SL No w wr [rBlk x 30 #[.slice A n c, .slice MA mn mc, .int .i64 fa, .int .i64 p0, .int .i64 q0, .int .i64 p1, .int .i64 q1, .int .i64 p2, .int .i64 q2]]) ∧ Hid (catErr ⟨⟨ds.map Dm.con, ms⟩, fa, p0, q0, p1, q1, p2, q2⟩ = catFrom ⟨⟨ds.map Dm.con, ms⟩, fa, p0, q0, p1, q1, p2, q2⟩ k))
        case atStart => exact ⟨0, rfl, by omega, rfl, H, HV⟩
        case round =>
          clear H HV
          obtain ⟨k, hgk, hk, rfl, H, HV⟩ := hrel
          obtain rfl | rfl | rfl | rfl : k = 0 ∨ k = 1 ∨ k = 2 ∨ k = 3 := by omega
          · have ix : ∀ W, (Instr.index 28 (.agg #[.int .i64 p0, .int .i64 q0, .int .i64 p1, .int .i64 q1, .int .i64 p2, .int .i64 q2]) (.int .i64 0)).run Try.prog W = .ok (.agg #[.int .i64 p0, .int .i64 q0]) W := fun _ => by kernel_rfl
            rw [show ((0 : Nat) : Int) = 0 from rfl]
            go_upto_region 9 with ((with_reducible show wpList _ _ _ (⟨_, .store _ (.tmp 5) _, _, _, _, _⟩ :: _) _ _); (refine wpList_store_new rfl rowTt (.tmp 5) (.tmp 25) rfl rfl rfl (#[.int .i64 p0, .int .i64 q0]) rfl rfl (by simp [Value.oneCell']) ?_; replace H := Lib.hid (H.out.alloc (#[.int .i64 p0, .int .i64 q0]) 27); (try simp only [List.set_cons_zero, List.set_cons_succ, List.cons_append, List.nil_append, List.eraseIdx_cons_zero, List.eraseIdx_cons_succ, List.setIfInBounds_toArray, World.size_alloc, selR, List.getD_cons_zero, List.getD_cons_succ] at H)))
            (try simp only [Act.put, List.setIfInBounds_toArray, List.set_cons_zero, List.set_cons_succ])
            go_wp2_with ((with_reducible show wpList _ _ _ (⟨some 26, _, _, _, _, _⟩ :: _) _ _); (refine wpList_load_blk rfl rowTt (.tmp 5) rfl _ rfl (H.out.blk 1 rfl) rfl ?_))
            clear ix
            refine (may_any p0 q0 _).mono ?_; rintro e w5 ⟨rfl, hb5⟩
            replace H := Lib.hid (H.out.bel hb5); (try simp only [List.set_cons_zero, List.set_cons_succ, List.cons_append, List.nil_append, List.eraseIdx_cons_zero, List.eraseIdx_cons_succ, List.setIfInBounds_toArray, World.size_alloc, selR, List.getD_cons_zero, List.getD_cons_succ] at H)
            clear hb5
            obtain ⟨bm, hbm⟩ : ∃ b, (decide (0 ≤ p0) && decide (q0 ≤ 0)) = b := ⟨_, rfl⟩
            rw [hbm]
            have HBM := Lib.hid hbm
            clear hbm
            cases bm with
            | false =>
              have HBD : Hid (badTot ms.length 0 p0 q0 = true) := badTot_may HBM.out
              have HV2 : Hid (catErr ⟨⟨ds.map Dm.con, ms⟩, fa, p0, q0, p1, q1, p2, q2⟩ = 2) := by show _ = _; rw [HV.out]; show catT0 _ = 2; unfold catT0; rw [if_pos HBD.out]
              go_wp2_with fail
              go_ret
              rw [HV2.out]
              exact ⟨rfl, H.out.to⟩
            | true =>
              have cm0 := (H.out.blk 0 rfl).cell 1; simp only [List.getElem?_toArray, List.getElem?_cons_zero, List.getElem?_cons_succ] at cm0
              by_cases hin : (mn : Int) ≤ 0
              · exact absurd hin (by have := hm1.out; omega)
              · have d1 : decide ((mn : Int) ≤ 0) = false := by simp; omega
                have hin2 : ¬ (ms.length : Int) ≤ 0 := by have := hl2.out; omega
                have HBD : Hid (badTot ms.length 0 p0 q0 = false) := badTot_in HBM.out hin2
                clear hin2
                have HV2 : Hid (catErr ⟨⟨ds.map Dm.con, ms⟩, fa, p0, q0, p1, q1, p2, q2⟩ = catFrom ⟨⟨ds.map Dm.con, ms⟩, fa, p0, q0, p1, q1, p2, q2⟩ 1) := by show _ = _; rw [HV.out]; show catT0 _ = _; unfold catT0; rw [if_neg (by rw [HBD.out]; simp)]; rfl
                go_wp2_with fail
                go_roundg (3 - (0 + 1))
                case rel => exact ⟨1, rfl, by omega, rfl, Lib.hid (H.out.sel [0] (by decide) (by simp)), HV2⟩
                case measure => omega
          · have ix : ∀ W, (Instr.index 28 (.agg #[.int .i64 p0, .int .i64 q0, .int .i64 p1, .int .i64 q1, .int .i64 p2, .int .i64 q2]) (.int .i64 1)).run Try.prog W = .ok (.agg #[.int .i64 p1, .int .i64 q1]) W := fun _ => by kernel_rfl
            rw [show ((1 : Nat) : Int) = 1 from rfl]
            go_upto_region 9 with ((with_reducible show wpList _ _ _ (⟨_, .store _ (.tmp 5) _, _, _, _, _⟩ :: _) _ _); (refine wpList_store_new rfl rowTt (.tmp 5) (.tmp 25) rfl rfl rfl (#[.int .i64 p1, .int .i64 q1]) rfl rfl (by simp [Value.oneCell']) ?_; replace H := Lib.hid (H.out.alloc (#[.int .i64 p1, .int .i64 q1]) 27); (try simp only [List.set_cons_zero, List.set_cons_succ, List.cons_append, List.nil_append, List.eraseIdx_cons_zero, List.eraseIdx_cons_succ, List.setIfInBounds_toArray, World.size_alloc, selR, List.getD_cons_zero, List.getD_cons_succ] at H)))
            (try simp only [Act.put, List.setIfInBounds_toArray, List.set_cons_zero, List.set_cons_succ])
            go_wp2_with ((with_reducible show wpList _ _ _ (⟨some 26, _, _, _, _, _⟩ :: _) _ _); (refine wpList_load_blk rfl rowTt (.tmp 5) rfl _ rfl (H.out.blk 1 rfl) rfl ?_))
            clear ix
            refine (may_any p1 q1 _).mono ?_; rintro e w5 ⟨rfl, hb5⟩
            replace H := Lib.hid (H.out.bel hb5); (try simp only [List.set_cons_zero, List.set_cons_succ, List.cons_append, List.nil_append, List.eraseIdx_cons_zero, List.eraseIdx_cons_succ, List.setIfInBounds_toArray, World.size_alloc, selR, List.getD_cons_zero, List.getD_cons_succ] at H)
            clear hb5
            obtain ⟨bm, hbm⟩ : ∃ b, (decide (0 ≤ p1) && decide (q1 ≤ 0)) = b := ⟨_, rfl⟩
            rw [hbm]
            have HBM := Lib.hid hbm
            clear hbm
            cases bm with
            | false =>
              have HBD : Hid (badTot ms.length 1 p1 q1 = true) := badTot_may HBM.out
              have HV2 : Hid (catErr ⟨⟨ds.map Dm.con, ms⟩, fa, p0, q0, p1, q1, p2, q2⟩ = 2) := by show _ = _; rw [HV.out]; show catT1 _ = 2; unfold catT1; rw [if_pos HBD.out]
              go_wp2_with fail
              go_ret
              rw [HV2.out]
              exact ⟨rfl, H.out.to⟩
            | true =>
              have cm0 := (H.out.blk 0 rfl).cell 1; simp only [List.getElem?_toArray, List.getElem?_cons_zero, List.getElem?_cons_succ] at cm0
              by_cases hin : (mn : Int) ≤ 1
              · have d1 : decide ((mn : Int) ≤ 1) = true := by simp [hin]
                have hin2 : (ms.length : Int) ≤ 1 := by have := hl2.out; omega
                obtain ⟨bz, hbz⟩ : ∃ b, (!(decide (p1 = 0) && decide (q1 = 0))) = b := ⟨_, rfl⟩
                have HBD : Hid (badTot ms.length 1 p1 q1 = bz) := badTot_out HBM.out hin2 hbz
                have hneq := neq_tot p1 q1
                rw [hbz] at hneq
                clear hbz hin2
                cases bz with
                | true =>
                  have HV2 : Hid (catErr ⟨⟨ds.map Dm.con, ms⟩, fa, p0, q0, p1, q1, p2, q2⟩ = 2) := by show _ = _; rw [HV.out]; show catT1 _ = 2; unfold catT1; rw [if_pos HBD.out]
                  go_wp2_with (first | ((with_reducible show wpList _ _ _ (⟨some 37, _, _, _, _, _⟩ :: _) _ _); refine wpList_load_blkG (by first | rfl | go_simp) rowTt (.tmp 5) (by rfl) _ (by rfl) (H.out.blk 1 rfl) rfl ?_) | ((with_reducible show wpList _ _ _ (⟨some 39, _, _, _, _, _⟩ :: _) _ _); refine wpList_cmp_row (by first | rfl | go_simp) .neq 27 27 (.tmp 37) (.tmp 38) (by rfl) (by rfl) (by rfl) guard_tot (hneq _) ?_))
                  go_ret
                  rw [HV2.out]
                  exact ⟨rfl, H.out.to⟩
                | false =>
                  have HV2 : Hid (catErr ⟨⟨ds.map Dm.con, ms⟩, fa, p0, q0, p1, q1, p2, q2⟩ = catFrom ⟨⟨ds.map Dm.con, ms⟩, fa, p0, q0, p1, q1, p2, q2⟩ 2) := by show _ = _; rw [HV.out]; show catT1 _ = _; unfold catT1; rw [if_neg (by rw [HBD.out]; simp)]; rfl
                  go_wp2_with (first | ((with_reducible show wpList _ _ _ (⟨some 37, _, _, _, _, _⟩ :: _) _ _); refine wpList_load_blkG (by first | rfl | go_simp) rowTt (.tmp 5) (by rfl) _ (by rfl) (H.out.blk 1 rfl) rfl ?_) | ((with_reducible show wpList _ _ _ (⟨some 39, _, _, _, _, _⟩ :: _) _ _); refine wpList_cmp_row (by first | rfl | go_simp) .neq 27 27 (.tmp 37) (.tmp 38) (by rfl) (by rfl) (by rfl) guard_tot (hneq _) ?_))
                  go_roundg (3 - (1 + 1))
                  case rel => exact ⟨2, rfl, by omega, rfl, Lib.hid (H.out.sel [0] (by decide) (by simp)), HV2⟩
                  case measure => omega
              · have d1 : decide ((mn : Int) ≤ 1) = false := by simp; omega
                have hin2 : ¬ (ms.length : Int) ≤ 1 := by have := hl2.out; omega
                have HBD : Hid (badTot ms.length 1 p1 q1 = false) := badTot_in HBM.out hin2
                clear hin2
                have HV2 : Hid (catErr ⟨⟨ds.map Dm.con, ms⟩, fa, p0, q0, p1, q1, p2, q2⟩ = catFrom ⟨⟨ds.map Dm.con, ms⟩, fa, p0, q0, p1, q1, p2, q2⟩ 2) := by show _ = _; rw [HV.out]; show catT1 _ = _; unfold catT1; rw [if_neg (by rw [HBD.out]; simp)]; rfl
                go_wp2_with fail
                go_roundg (3 - (1 + 1))
                case rel => exact ⟨2, rfl, by omega, rfl, Lib.hid (H.out.sel [0] (by decide) (by simp)), HV2⟩
                case measure => omega
          · have ix : ∀ W, (Instr.index 28 (.agg #[.int .i64 p0, .int .i64 q0, .int .i64 p1, .int .i64 q1, .int .i64 p2, .int .i64 q2]) (.int .i64 2)).run Try.prog W = .ok (.agg #[.int .i64 p2, .int .i64 q2]) W := fun _ => by kernel_rfl
            rw [show ((2 : Nat) : Int) = 2 from rfl]
            go_upto_region 9 with ((with_reducible show wpList _ _ _ (⟨_, .store _ (.tmp 5) _, _, _, _, _⟩ :: _) _ _); (refine wpList_store_new rfl rowTt (.tmp 5) (.tmp 25) rfl rfl rfl (#[.int .i64 p2, .int .i64 q2]) rfl rfl (by simp [Value.oneCell']) ?_; replace H := Lib.hid (H.out.alloc (#[.int .i64 p2, .int .i64 q2]) 27); (try simp only [List.set_cons_zero, List.set_cons_succ, List.cons_append, List.nil_append, List.eraseIdx_cons_zero, List.eraseIdx_cons_succ, List.setIfInBounds_toArray, World.size_alloc, selR, List.getD_cons_zero, List.getD_cons_succ] at H)))
            (try simp only [Act.put, List.setIfInBounds_toArray, List.set_cons_zero, List.set_cons_succ])
            go_wp2_with ((with_reducible show wpList _ _ _ (⟨some 26, _, _, _, _, _⟩ :: _) _ _); (refine wpList_load_blk rfl rowTt (.tmp 5) rfl _ rfl (H.out.blk 1 rfl) rfl ?_))
            clear ix
            refine (may_any p2 q2 _).mono ?_; rintro e w5 ⟨rfl, hb5⟩
            replace H := Lib.hid (H.out.bel hb5); (try simp only [List.set_cons_zero, List.set_cons_succ, List.cons_append, List.nil_append, List.eraseIdx_cons_zero, List.eraseIdx_cons_succ, List.setIfInBounds_toArray, World.size_alloc, selR, List.getD_cons_zero, List.getD_cons_succ] at H)
            clear hb5
            obtain ⟨bm, hbm⟩ : ∃ b, (decide (0 ≤ p2) && decide (q2 ≤ 0)) = b := ⟨_, rfl⟩
            rw [hbm]
            have HBM := Lib.hid hbm
            clear hbm
            cases bm with
            | false =>
              have HBD : Hid (badTot ms.length 2 p2 q2 = true) := badTot_may HBM.out
              have HV2 : Hid (catErr ⟨⟨ds.map Dm.con, ms⟩, fa, p0, q0, p1, q1, p2, q2⟩ = 2) := by show _ = _; rw [HV.out]; show catT2 _ = 2; unfold catT2; rw [if_pos HBD.out]
              go_wp2_with fail
              go_ret
              rw [HV2.out]
              exact ⟨rfl, H.out.to⟩
            | true =>
              have cm0 := (H.out.blk 0 rfl).cell 1; simp only [List.getElem?_toArray, List.getElem?_cons_zero, List.getElem?_cons_succ] at cm0
              by_cases hin : (mn : Int) ≤ 2
              · have d1 : decide ((mn : Int) ≤ 2) = true := by simp [hin]
                have hin2 : (ms.length : Int) ≤ 2 := by have := hl2.out; omega
                obtain ⟨bz, hbz⟩ : ∃ b, (!(decide (p2 = 0) && decide (q2 = 0))) = b := ⟨_, rfl⟩
                have HBD : Hid (badTot ms.length 2 p2 q2 = bz) := badTot_out HBM.out hin2 hbz
                have hneq := neq_tot p2 q2
                rw [hbz] at hneq
                clear hbz hin2
                cases bz with
                | true =>
                  have HV2 : Hid (catErr ⟨⟨ds.map Dm.con, ms⟩, fa, p0, q0, p1, q1, p2, q2⟩ = 2) := by show _ = _; rw [HV.out]; show catT2 _ = 2; unfold catT2; rw [if_pos HBD.out]
                  go_wp2_with (first | ((with_reducible show wpList _ _ _ (⟨some 37, _, _, _, _, _⟩ :: _) _ _); refine wpList_load_blkG (by first | rfl | go_simp) rowTt (.tmp 5) (by rfl) _ (by rfl) (H.out.blk 1 rfl) rfl ?_) | ((with_reducible show wpList _ _ _ (⟨some 39, _, _, _, _, _⟩ :: _) _ _); refine wpList_cmp_row (by first | rfl | go_simp) .neq 27 27 (.tmp 37) (.tmp 38) (by rfl) (by rfl) (by rfl) guard_tot (hneq _) ?_))
                  go_ret
                  rw [HV2.out]
                  exact ⟨rfl, H.out.to⟩
                | false =>
                  have HV2 : Hid (catErr ⟨⟨ds.map Dm.con, ms⟩, fa, p0, q0, p1, q1, p2, q2⟩ = catFrom ⟨⟨ds.map Dm.con, ms⟩, fa, p0, q0, p1, q1, p2, q2⟩ 3) := by show _ = _; rw [HV.out]; show catT2 _ = _; unfold catT2; rw [if_neg (by rw [HBD.out]; simp)]; rfl
                  go_wp2_with (first | ((with_reducible show wpList _ _ _ (⟨some 37, _, _, _, _, _⟩ :: _) _ _); refine wpList_load_blkG (by first | rfl | go_simp) rowTt (.tmp 5) (by rfl) _ (by rfl) (H.out.blk 1 rfl) rfl ?_) | ((with_reducible show wpList _ _ _ (⟨some 39, _, _, _, _, _⟩ :: _) _ _); refine wpList_cmp_row (by first | rfl | go_simp) .neq 27 27 (.tmp 37) (.tmp 38) (by rfl) (by rfl) (by rfl) guard_tot (hneq _) ?_))
                  go_roundg (3 - (2 + 1))
                  case rel => exact ⟨3, rfl, by omega, rfl, Lib.hid (H.out.sel [0] (by decide) (by simp)), HV2⟩
                  case measure => omega
              · have d1 : decide ((mn : Int) ≤ 2) = false := by simp; omega
                have hin2 : ¬ (ms.length : Int) ≤ 2 := by have := hl2.out; omega
                have HBD : Hid (badTot ms.length 2 p2 q2 = false) := badTot_in HBM.out hin2
                clear hin2
                have HV2 : Hid (catErr ⟨⟨ds.map Dm.con, ms⟩, fa, p0, q0, p1, q1, p2, q2⟩ = catFrom ⟨⟨ds.map Dm.con, ms⟩, fa, p0, q0, p1, q1, p2, q2⟩ 3) := by show _ = _; rw [HV.out]; show catT2 _ = _; unfold catT2; rw [if_neg (by rw [HBD.out]; simp)]; rfl
                go_wp2_with fail
                go_roundg (3 - (2 + 1))
                case rel => exact ⟨3, rfl, by omega, rfl, Lib.hid (H.out.sel [0] (by decide) (by simp)), HV2⟩
                case measure => omega
          · rw [show ((3 : Nat) : Int) = 3 from rfl]
            go_wp2_with fail
            go_ret
            rw [HV.out]
            exact ⟨rfl, H.out.to⟩
  · have HV : Hid (catErr ⟨⟨ds.map Dm.con, ms⟩, fa, p0, q0, p1, q1, p2, q2⟩ = schErr (⟨ds.map Dm.con, ms⟩ : SC)) := catErr_sc hE
    have dE : (schErr (⟨ds.map Dm.con, ms⟩ : SC) == 0) = false := by simpa using hE
    clear hE
    go_wp2_with fail
    go_ret
    rw [HV.out]
    exact ⟨rfl, H.out.to⟩

end Go.Proofs.Ytnekknemjhlgdaa

namespace Go.Proofs.Ytnekknemjhlgdaa
open Go.RowKit
set_option linter.unusedVariables false
set_option linter.unusedSimpArgs false


theorem wpList_load_partG {P : Program} {ops : Array Oper} {rest : List Oper} {op : Oper} {a : Act} {w : World} {Q : Exit → Act → World → Prop} (hw : Region.wanted op (yielded ops a.tmps) = true) {ty : TypeId} {n : Nat} (R : RowTy P ty n) (x : Operand) (ho : op.op = .load ty x)
    (b o : Nat) (hx : a.eval x = .pointer (some ⟨b, o, none⟩)) (cs : Array Value) (hn : cs.size = n) (hc : w.rangeAt b o cs.toList)
    (h : wpList P ops Q rest (a.put op.dst (.agg cs)) w) : wpList P ops Q (op :: rest) a w := by
  obtain ⟨d, hu, hd⟩ := R.hu
  refine wpList_step fun K hK => ?_
  rw [if_pos hw]
  exact wp_load_mid ty x ho b o hx cs.toList d hc hu hd (by rw [R.hi]; simp [hn]) (hK _ _ (by simpa using h))
theorem sameS_iff (a b : SC) : sameS a b = true ↔ a = b := by
  obtain ⟨x, y⟩ := a
  obtain ⟨u, v⟩ := b
  unfold sameS
  simp
set_option maxRecDepth 100000 in
set_option maxHeartbeats 2000000 in
theorem catwrong_any (s : Ct) (w : World) (hs : s.rd w) (hm : SmS s.sc) :
    Calls Try.prog 21 #[.agg s.cs] w fun e w' => e = .returned (.int .i64 (catErr s.con)) ∧ Bel w w' := by
  have HC := Lib.hid (fun w' (hb : Bel w w') => schwrong_any s.sc w' (hs.sc.mono hb) hm.1 hm.2.1 (fun d hd => (hm.2.2 d hd).1))
  have hl2 : Hid (s.sc.ms.l.length = s.sc.ms.n) := hs.sc.ms.len
  have H := Lib.hid ((SL.start No w).alloc s.cs 30)
  (try simp only [List.set_cons_zero, List.set_cons_succ, List.cons_append, List.nil_append, List.eraseIdx_cons_zero, List.eraseIdx_cons_succ, List.setIfInBounds_toArray, World.size_alloc, selR, List.getD_cons_zero, List.getD_cons_succ] at H)
  have f1 := hs.fa
  unfold I64 at f1
  obtain ⟨⟨⟨A, n, c, ds⟩, ⟨MA, mn, mc, ms⟩⟩, fa, p0, q0, p1, q1, p2, q2⟩ := s
  simp only [Ct.cs, Sch.cs, Ct.con, Sch.con] at *
  obtain ⟨f1, f2⟩ := f1
  clear hs hm
  go_enter Try.func21, Try.ntmps21
  go_wp2_with ((with_reducible show wpList _ _ _ (⟨some 7, _, _, _, _, _⟩ :: _) _ _); (refine wpList_load_row_at rfl rowSch (.tmp 6) rfl w.heap.size (0) rfl #[.slice A n c, .slice MA mn mc] rfl ((H.out.blk 0 rfl).part 0 _ rfl) ?_))
  generalize w.heap.size = x at *
  generalize World.alloc _ _ = w1 at *
  refine (HC.out _ H.out.to).mono ?_; rintro e w2 ⟨rfl, hb2⟩
  replace H := Lib.hid (H.out.bel hb2); (try simp only [List.set_cons_zero, List.set_cons_succ, List.cons_append, List.nil_append, List.eraseIdx_cons_zero, List.eraseIdx_cons_succ, List.setIfInBounds_toArray, World.size_alloc, selR, List.getD_cons_zero, List.getD_cons_succ] at H)
  clear hb2 HC
  by_cases hE : schErr (⟨ds.map Dm.con, ms⟩ : SC) = 0
  · have hm1 : Hid (1 ≤ mn) := by have h : 1 ≤ ms.length := (schErr_zero hE).2.2.2.1; have h5 := hl2.out; show _ ≤ _; omega
    rw [hE]
    have c2 := (H.out.blk 0 rfl).cell 2; simp only [List.getElem?_toArray, List.getElem?_cons_zero, List.getElem?_cons_succ] at c2
    by_cases h1 : fa < 0
    · have HV : Hid (catErr ⟨⟨ds.map Dm.con, ms⟩, fa, p0, q0, p1, q1, p2, q2⟩ = 6) := catErr_fa hE (.inl h1)
      clear hE
      go_wp2_with fail
      go_ret
      rw [HV.out]
      exact ⟨rfl, H.out.to⟩
    · by_cases h2 : 4000 < fa
      · have HV : Hid (catErr ⟨⟨ds.map Dm.con, ms⟩, fa, p0, q0, p1, q1, p2, q2⟩ = 6) := catErr_fa hE (.inr h2)
        clear hE
        go_wp2_with fail
        go_ret
        rw [HV.out]
        exact ⟨rfl, H.out.to⟩
      · have HV : Hid (catErr ⟨⟨ds.map Dm.con, ms⟩, fa, p0, q0, p1, q1, p2, q2⟩ = catFrom ⟨⟨ds.map Dm.con, ms⟩, fa, p0, q0, p1, q1, p2, q2⟩ 0) := catErr_from hE (by rintro (h | h); exact h1 h; exact h2 h)
        clear hE
        go_wp2_with fail
        clear c2 h1 h2 f1 f2
        go_loopg [4] 3 (fun gg i wr => ∃ k : Nat, gg = 3 - k ∧ k ≤ 3 ∧ i = .int .i64 k ∧ Hid (SL No w wr [rBlk x 30 #[.slice A n c, .slice MA mn mc, .int .i64 fa, .int .i64 p0, .int .i64 q0, .int .i64 p1, .int .i64 q1, .int .i64 p2, .int .i64 q2]]) ∧ Hid (catErr ⟨⟨ds.map Dm.con, ms⟩, fa, p0, q0, p1, q1, p2, q2⟩ = catFrom ⟨⟨ds.map Dm.con, ms⟩, fa, p0, q0, p1, q1, p2, q2⟩ k))
        case atStart => exact ⟨0, rfl, by omega, rfl, H, HV⟩
        case round =>
          clear H HV
          obtain ⟨k, hgk, hk, rfl, H, HV⟩ := hrel
          obtain rfl | rfl | rfl | rfl : k = 0 ∨ k = 1 ∨ k = 2 ∨ k = 3 := by omega
          · rw [show ((0 : Nat) : Int) = 0 from rfl]
            go_upto_region 10 with (first | ((with_reducible show wpList _ _ _ (⟨some 27, _, _, _, _, _⟩ :: _) _ _); (refine wpList_load_row_at rfl rowTt (.tmp 26) rfl x (3) rfl #[.int .i64 p0, .int .i64 q0] rfl ((H.out.blk 0 rfl).part 3 _ rfl) ?_)) | ((with_reducible show wpList _ _ _ (⟨_, .store _ (.tmp 5) _, _, _, _, _⟩ :: _) _ _); (refine wpList_store_new rfl rowTt (.tmp 5) (.tmp 27) rfl rfl rfl (#[.int .i64 p0, .int .i64 q0]) rfl rfl (by simp [Value.oneCell']) ?_; replace H := Lib.hid (H.out.alloc (#[.int .i64 p0, .int .i64 q0]) 27); (try simp only [List.set_cons_zero, List.set_cons_succ, List.cons_append, List.nil_append, List.eraseIdx_cons_zero, List.eraseIdx_cons_succ, List.setIfInBounds_toArray, World.size_alloc, selR, List.getD_cons_zero, List.getD_cons_succ] at H))))
            (try simp only [Act.put, List.setIfInBounds_toArray, List.set_cons_zero, List.set_cons_succ])
            have cm0 := (H.out.blk 0 rfl).cell 1; simp only [List.getElem?_toArray, List.getElem?_cons_zero, List.getElem?_cons_succ] at cm0
            have ct0 := (H.out.blk 1 rfl).cell 0; simp only [List.getElem?_toArray, List.getElem?_cons_zero, List.getElem?_cons_succ] at ct0
            have ct1 := (H.out.blk 1 rfl).cell 1; simp only [List.getElem?_toArray, List.getElem?_cons_zero, List.getElem?_cons_succ] at ct1
            have e1 : decide (p0 < 0) = !decide (0 ≤ p0) := by by_cases h : p0 < 0 <;> simp [h] <;> omega
            clear e1
            by_cases h1 : p0 < 0
            · have HBD : Hid (badTot ms.length 0 p0 q0 = true) := badTot_may (by simp; omega)
              have HV2 : Hid (catErr ⟨⟨ds.map Dm.con, ms⟩, fa, p0, q0, p1, q1, p2, q2⟩ = 2) := by show _ = _; rw [HV.out]; show catT0 _ = 2; unfold catT0; rw [if_pos HBD.out]
              go_wp2_with fail
              go_ret
              rw [HV2.out]
              exact ⟨rfl, H.out.to⟩
            · by_cases h2 : 0 < q0
              · have HBD : Hid (badTot ms.length 0 p0 q0 = true) := badTot_may (by simp; omega)
                have HV2 : Hid (catErr ⟨⟨ds.map Dm.con, ms⟩, fa, p0, q0, p1, q1, p2, q2⟩ = 2) := by show _ = _; rw [HV.out]; show catT0 _ = 2; unfold catT0; rw [if_pos HBD.out]
                go_wp2_with fail
                go_ret
                rw [HV2.out]
                exact ⟨rfl, H.out.to⟩
              · have d1 : decide (p0 < 0) = false := by simp; omega
                have d2 : decide (0 < q0) = false := by simp; omega
                have hin : ¬ (mn : Int) ≤ 0 := by have := hm1.out; omega
                have hin2 : ¬ (ms.length : Int) ≤ 0 := by have := hl2.out; omega
                have HBD : Hid (badTot ms.length 0 p0 q0 = false) := badTot_in (by simp; omega) hin2
                clear hin2
                have HV2 : Hid (catErr ⟨⟨ds.map Dm.con, ms⟩, fa, p0, q0, p1, q1, p2, q2⟩ = catFrom ⟨⟨ds.map Dm.con, ms⟩, fa, p0, q0, p1, q1, p2, q2⟩ 1) := by show _ = _; rw [HV.out]; show catT0 _ = _; unfold catT0; rw [if_neg (by rw [HBD.out]; simp)]; rfl
                go_wp2_with fail
                go_roundg (3 - (0 + 1))
                case rel => exact ⟨1, rfl, by omega, rfl, Lib.hid (H.out.sel [0] (by decide) (by simp)), HV2⟩
                case measure => omega
          · rw [show ((1 : Nat) : Int) = 1 from rfl]
            go_upto_region 10 with (first | ((with_reducible show wpList _ _ _ (⟨some 27, _, _, _, _, _⟩ :: _) _ _); (refine wpList_load_row_at rfl rowTt (.tmp 26) rfl x (5) rfl #[.int .i64 p1, .int .i64 q1] rfl ((H.out.blk 0 rfl).part 5 _ rfl) ?_)) | ((with_reducible show wpList _ _ _ (⟨_, .store _ (.tmp 5) _, _, _, _, _⟩ :: _) _ _); (refine wpList_store_new rfl rowTt (.tmp 5) (.tmp 27) rfl rfl rfl (#[.int .i64 p1, .int .i64 q1]) rfl rfl (by simp [Value.oneCell']) ?_; replace H := Lib.hid (H.out.alloc (#[.int .i64 p1, .int .i64 q1]) 27); (try simp only [List.set_cons_zero, List.set_cons_succ, List.cons_append, List.nil_append, List.eraseIdx_cons_zero, List.eraseIdx_cons_succ, List.setIfInBounds_toArray, World.size_alloc, selR, List.getD_cons_zero, List.getD_cons_succ] at H))))
            (try simp only [Act.put, List.setIfInBounds_toArray, List.set_cons_zero, List.set_cons_succ])
            have cm0 := (H.out.blk 0 rfl).cell 1; simp only [List.getElem?_toArray, List.getElem?_cons_zero, List.getElem?_cons_succ] at cm0
            have ct0 := (H.out.blk 1 rfl).cell 0; simp only [List.getElem?_toArray, List.getElem?_cons_zero, List.getElem?_cons_succ] at ct0
            have ct1 := (H.out.blk 1 rfl).cell 1; simp only [List.getElem?_toArray, List.getElem?_cons_zero, List.getElem?_cons_succ] at ct1
            have e1 : decide (p1 < 0) = !decide (0 ≤ p1) := by by_cases h : p1 < 0 <;> simp [h] <;> omega
            clear e1
            by_cases h1 : p1 < 0
            · have HBD : Hid (badTot ms.length 1 p1 q1 = true) := badTot_may (by simp; omega)
              have HV2 : Hid (catErr ⟨⟨ds.map Dm.con, ms⟩, fa, p0, q0, p1, q1, p2, q2⟩ = 2) := by show _ = _; rw [HV.out]; show catT1 _ = 2; unfold catT1; rw [if_pos HBD.out]
              go_wp2_with fail
              go_ret
              rw [HV2.out]
              exact ⟨rfl, H.out.to⟩
            · by_cases h2 : 0 < q1
              · have HBD : Hid (badTot ms.length 1 p1 q1 = true) := badTot_may (by simp; omega)
                have HV2 : Hid (catErr ⟨⟨ds.map Dm.con, ms⟩, fa, p0, q0, p1, q1, p2, q2⟩ = 2) := by show _ = _; rw [HV.out]; show catT1 _ = 2; unfold catT1; rw [if_pos HBD.out]
                go_wp2_with fail
                go_ret
                rw [HV2.out]
                exact ⟨rfl, H.out.to⟩
              · have d1 : decide (p1 < 0) = false := by simp; omega
                have d2 : decide (0 < q1) = false := by simp; omega
                by_cases hin : (mn : Int) ≤ 1
                · have d1 : decide ((mn : Int) ≤ 1) = true := by simp [hin]
                  have hin2 : (ms.length : Int) ≤ 1 := by have := hl2.out; omega
                  by_cases h3 : p1 = 0
                  · by_cases h4 : q1 = 0
                    · have HBD : Hid (badTot ms.length 1 p1 q1 = false) := badTot_out (by simp; omega) hin2 (by simp [h3, h4])
                      clear hin2
                      have b3 : (p1 != 0) = false := by simp [h3]
                      have b4 : (q1 != 0) = false := by simp [h4]
                      clear h1 h2 h3 h4
                      have HV2 : Hid (catErr ⟨⟨ds.map Dm.con, ms⟩, fa, p0, q0, p1, q1, p2, q2⟩ = catFrom ⟨⟨ds.map Dm.con, ms⟩, fa, p0, q0, p1, q1, p2, q2⟩ 2) := by show _ = _; rw [HV.out]; show catT1 _ = _; unfold catT1; rw [if_neg (by rw [HBD.out]; simp)]; rfl
                      go_wp2_with fail
                      go_roundg (3 - (1 + 1))
                      case rel => exact ⟨2, rfl, by omega, rfl, Lib.hid (H.out.sel [0] (by decide) (by simp)), HV2⟩
                      case measure => omega
                    · have HBD : Hid (badTot ms.length 1 p1 q1 = true) := badTot_out (by simp; omega) hin2 (by simp [h3, h4])
                      clear hin2
                      have b3 : (p1 != 0) = false := by simp [h3]
                      have b4 : (q1 != 0) = true := by simp [h4]
                      clear h1 h2 h3 h4
                      have HV2 : Hid (catErr ⟨⟨ds.map Dm.con, ms⟩, fa, p0, q0, p1, q1, p2, q2⟩ = 2) := by show _ = _; rw [HV.out]; show catT1 _ = 2; unfold catT1; rw [if_pos HBD.out]
                      go_wp2_with fail
                      go_ret
                      rw [HV2.out]
                      exact ⟨rfl, H.out.to⟩
                  · have HBD : Hid (badTot ms.length 1 p1 q1 = true) := badTot_out (by simp; omega) hin2 (by simp [h3])
                    clear hin2
                    have b3 : (p1 != 0) = true := by simp [h3]
                    clear h1 h2 h3
                    have HV2 : Hid (catErr ⟨⟨ds.map Dm.con, ms⟩, fa, p0, q0, p1, q1, p2, q2⟩ = 2) := by show _ = _; rw [HV.out]; show catT1 _ = 2; unfold catT1; rw [if_pos HBD.out]
                    go_wp2_with fail
                    go_ret
                    rw [HV2.out]
                    exact ⟨rfl, H.out.to⟩
                · have hin2 : ¬ (ms.length : Int) ≤ 1 := by have := hl2.out; omega
                  have HBD : Hid (badTot ms.length 1 p1 q1 = false) := badTot_in (by simp; omega) hin2
                  clear hin2
                  have HV2 : Hid (catErr ⟨⟨ds.map Dm.con, ms⟩, fa, p0, q0, p1, q1, p2, q2⟩ = catFrom ⟨⟨ds.map Dm.con, ms⟩, fa, p0, q0, p1, q1, p2, q2⟩ 2) := by show _ = _; rw [HV.out]; show catT1 _ = _; unfold catT1; rw [if_neg (by rw [HBD.out]; simp)]; rfl
                  go_wp2_with fail
                  go_roundg (3 - (1 + 1))
                  case rel => exact ⟨2, rfl, by omega, rfl, Lib.hid (H.out.sel [0] (by decide) (by simp)), HV2⟩
                  case measure => omega
          · rw [show ((2 : Nat) : Int) = 2 from rfl]
            go_upto_region 10 with (first | ((with_reducible show wpList _ _ _ (⟨some 27, _, _, _, _, _⟩ :: _) _ _); (refine wpList_load_row_at rfl rowTt (.tmp 26) rfl x (7) rfl #[.int .i64 p2, .int .i64 q2] rfl ((H.out.blk 0 rfl).part 7 _ rfl) ?_)) | ((with_reducible show wpList _ _ _ (⟨_, .store _ (.tmp 5) _, _, _, _, _⟩ :: _) _ _); (refine wpList_store_new rfl rowTt (.tmp 5) (.tmp 27) rfl rfl rfl (#[.int .i64 p2, .int .i64 q2]) rfl rfl (by simp [Value.oneCell']) ?_; replace H := Lib.hid (H.out.alloc (#[.int .i64 p2, .int .i64 q2]) 27); (try simp only [List.set_cons_zero, List.set_cons_succ, List.cons_append, List.nil_append, List.eraseIdx_cons_zero, List.eraseIdx_cons_succ, List.setIfInBounds_toArray, World.size_alloc, selR, List.getD_cons_zero, List.getD_cons_succ] at H))))
            (try simp only [Act.put, List.setIfInBounds_toArray, List.set_cons_zero, List.set_cons_succ])
            have cm0 := (H.out.blk 0 rfl).cell 1; simp only [List.getElem?_toArray, List.getElem?_cons_zero, List.getElem?_cons_succ] at cm0
            have ct0 := (H.out.blk 1 rfl).cell 0; simp only [List.getElem?_toArray, List.getElem?_cons_zero, List.getElem?_cons_succ] at ct0
            have ct1 := (H.out.blk 1 rfl).cell 1; simp only [List.getElem?_toArray, List.getElem?_cons_zero, List.getElem?_cons_succ] at ct1
            have e1 : decide (p2 < 0) = !decide (0 ≤ p2) := by by_cases h : p2 < 0 <;> simp [h] <;> omega
            clear e1
            by_cases h1 : p2 < 0
            · have HBD : Hid (badTot ms.length 2 p2 q2 = true) := badTot_may (by simp; omega)
              have HV2 : Hid (catErr ⟨⟨ds.map Dm.con, ms⟩, fa, p0, q0, p1, q1, p2, q2⟩ = 2) := by show _ = _; rw [HV.out]; show catT2 _ = 2; unfold catT2; rw [if_pos HBD.out]
              go_wp2_with fail
              go_ret
              rw [HV2.out]
              exact ⟨rfl, H.out.to⟩
            · by_cases h2 : 0 < q2
              · have HBD : Hid (badTot ms.length 2 p2 q2 = true) := badTot_may (by simp; omega)
                have HV2 : Hid (catErr ⟨⟨ds.map Dm.con, ms⟩, fa, p0, q0, p1, q1, p2, q2⟩ = 2) := by show _ = _; rw [HV.out]; show catT2 _ = 2; unfold catT2; rw [if_pos HBD.out]
                go_wp2_with fail
                go_ret
                rw [HV2.out]
                exact ⟨rfl, H.out.to⟩
              · have d1 : decide (p2 < 0) = false := by simp; omega
                have d2 : decide (0 < q2) = false := by simp; omega
                by_cases hin : (mn : Int) ≤ 2
                · have d1 : decide ((mn : Int) ≤ 2) = true := by simp [hin]
                  have hin2 : (ms.length : Int) ≤ 2 := by have := hl2.out; omega
                  by_cases h3 : p2 = 0
                  · by_cases h4 : q2 = 0
                    · have HBD : Hid (badTot ms.length 2 p2 q2 = false) := badTot_out (by simp; omega) hin2 (by simp [h3, h4])
                      clear hin2
                      have b3 : (p2 != 0) = false := by simp [h3]
                      have b4 : (q2 != 0) = false := by simp [h4]
                      clear h1 h2 h3 h4
                      have HV2 : Hid (catErr ⟨⟨ds.map Dm.con, ms⟩, fa, p0, q0, p1, q1, p2, q2⟩ = catFrom ⟨⟨ds.map Dm.con, ms⟩, fa, p0, q0, p1, q1, p2, q2⟩ 3) := by show _ = _; rw [HV.out]; show catT2 _ = _; unfold catT2; rw [if_neg (by rw [HBD.out]; simp)]; rfl
                      go_wp2_with fail
                      go_roundg (3 - (2 + 1))
                      case rel => exact ⟨3, rfl, by omega, rfl, Lib.hid (H.out.sel [0] (by decide) (by simp)), HV2⟩
                      case measure => omega
                    · have HBD : Hid (badTot ms.length 2 p2 q2 = true) := badTot_out (by simp; omega) hin2 (by simp [h3, h4])
                      clear hin2
                      have b3 : (p2 != 0) = false := by simp [h3]
                      have b4 : (q2 != 0) = true := by simp [h4]
                      clear h1 h2 h3 h4
                      have HV2 : Hid (catErr ⟨⟨ds.map Dm.con, ms⟩, fa, p0, q0, p1, q1, p2, q2⟩ = 2) := by show _ = _; rw [HV.out]; show catT2 _ = 2; unfold catT2; rw [if_pos HBD.out]
                      go_wp2_with fail
                      go_ret
                      rw [HV2.out]
                      exact ⟨rfl, H.out.to⟩
                  · have HBD : Hid (badTot ms.length 2 p2 q2 = true) := badTot_out (by simp; omega) hin2 (by simp [h3])
                    clear hin2
                    have b3 : (p2 != 0) = true := by simp [h3]
                    clear h1 h2 h3
                    have HV2 : Hid (catErr ⟨⟨ds.map Dm.con, ms⟩, fa, p0, q0, p1, q1, p2, q2⟩ = 2) := by show _ = _; rw [HV.out]; show catT2 _ = 2; unfold catT2; rw [if_pos HBD.out]
                    go_wp2_with fail
                    go_ret
                    rw [HV2.out]
                    exact ⟨rfl, H.out.to⟩
                · have hin2 : ¬ (ms.length : Int) ≤ 2 := by have := hl2.out; omega
                  have HBD : Hid (badTot ms.length 2 p2 q2 = false) := badTot_in (by simp; omega) hin2
                  clear hin2
                  have HV2 : Hid (catErr ⟨⟨ds.map Dm.con, ms⟩, fa, p0, q0, p1, q1, p2, q2⟩ = catFrom ⟨⟨ds.map Dm.con, ms⟩, fa, p0, q0, p1, q1, p2, q2⟩ 3) := by show _ = _; rw [HV.out]; show catT2 _ = _; unfold catT2; rw [if_neg (by rw [HBD.out]; simp)]; rfl
                  go_wp2_with fail
                  go_roundg (3 - (2 + 1))
                  case rel => exact ⟨3, rfl, by omega, rfl, Lib.hid (H.out.sel [0] (by decide) (by simp)), HV2⟩
                  case measure => omega
          · rw [show ((3 : Nat) : Int) = 3 from rfl]
            go_wp2_with fail
            go_ret
            rw [HV.out]
            exact ⟨rfl, H.out.to⟩
  · have HV : Hid (catErr ⟨⟨ds.map Dm.con, ms⟩, fa, p0, q0, p1, q1, p2, q2⟩ = schErr (⟨ds.map Dm.con, ms⟩ : SC)) := catErr_sc hE
    have dE : (schErr (⟨ds.map Dm.con, ms⟩ : SC) == 0) = false := by simpa using hE
    clear hE
    go_wp2_with fail
    go_ret
    rw [HV.out]
    exact ⟨rfl, H.out.to⟩
/-- Do two catalogs say the same? -/
def sameK (a b : CC) : Bool := sameS a.sc b.sc && decide (a.fa = b.fa) && decide (a.p0 = b.p0 ∧ a.q0 = b.q0 ∧ a.p1 = b.p1 ∧ a.q1 = b.q1 ∧ a.p2 = b.p2 ∧ a.q2 = b.q2)
set_option maxRecDepth 100000 in
set_option maxHeartbeats 2000000 in
theorem catsame_any (s t : Ct) (w : World) (hs : s.rd w) (ht : t.rd w) :
    Calls Try.prog 19 #[.agg s.cs, .agg t.cs] w fun e w' => e = .returned (.bool (sameK s.con t.con)) ∧ Bel w w' := by
  have HC := Lib.hid (fun w' (hb : Bel w w') => schsame_any s.sc t.sc w' (hs.sc.mono hb) (ht.sc.mono hb))
  have H := Lib.hid (((SL.start No w).alloc s.cs 30).alloc t.cs 30)
  (try simp only [List.set_cons_zero, List.set_cons_succ, List.cons_append, List.nil_append, List.eraseIdx_cons_zero, List.eraseIdx_cons_succ, List.setIfInBounds_toArray, World.size_alloc, selR, List.getD_cons_zero, List.getD_cons_succ] at H)
  have HE := Lib.hid (eql_tots s.p0 s.q0 s.p1 s.q1 s.p2 s.q2 t.p0 t.q0 t.p1 t.q1 t.p2 t.q2)
  have HV : Hid (sameK s.con t.con = (sameS s.sc.con t.sc.con && decide (s.fa = t.fa) && decide (s.p0 = t.p0 ∧ s.q0 = t.q0 ∧ s.p1 = t.p1 ∧ s.q1 = t.q1 ∧ s.p2 = t.p2 ∧ s.q2 = t.q2))) := rfl
  generalize sameK s.con t.con = R at *
  obtain ⟨bt, hbt⟩ : ∃ b, decide (s.p0 = t.p0 ∧ s.q0 = t.q0 ∧ s.p1 = t.p1 ∧ s.q1 = t.q1 ∧ s.p2 = t.p2 ∧ s.q2 = t.q2) = b := ⟨_, rfl⟩
  obtain ⟨bs, hbs⟩ : ∃ b, sameS s.sc.con t.sc.con = b := ⟨_, rfl⟩
  rw [hbt] at HE HV
  rw [hbs] at HC HV
  clear hbt hbs
  obtain ⟨⟨⟨A, n, c, ds⟩, ⟨MA, mn, mc, ms⟩⟩, fa, p0, q0, p1, q1, p2, q2⟩ := s
  obtain ⟨⟨⟨B, m, d, es⟩, ⟨MB, mm, md, mt⟩⟩, fb, a0, b0, a1, b1, a2, b2⟩ := t
  simp only [Ct.cs, Sch.cs, Ct.con, Sch.con] at *
  clear hs ht
  go_enter Try.func19, Try.ntmps19
  go_upto_region 1 with fail
  generalize w.heap.size + 1 = y at *
  generalize w.heap.size = x at *
  generalize World.alloc (World.alloc _ _) _ = w1 at *
  go_wp2_with (first | ((with_reducible show wpList _ _ _ (⟨some 6, _, _, _, _, _⟩ :: _) _ _); (refine wpList_load_row_at rfl rowSch (.tmp 5) rfl x (0) rfl #[.slice A n c, .slice MA mn mc] rfl ((H.out.blk 0 rfl).part 0 _ rfl) ?_)) | ((with_reducible show wpList _ _ _ (⟨some 8, _, _, _, _, _⟩ :: _) _ _); (refine wpList_load_row_at rfl rowSch (.tmp 7) rfl y (0) rfl #[.slice B m d, .slice MB mm md] rfl ((H.out.blk 1 rfl).part 0 _ rfl) ?_)))
  refine (HC.out _ H.out.to).mono ?_; rintro e w2 ⟨rfl, hb2⟩
  replace H := Lib.hid (H.out.bel hb2); (try simp only [List.set_cons_zero, List.set_cons_succ, List.cons_append, List.nil_append, List.eraseIdx_cons_zero, List.eraseIdx_cons_succ, List.setIfInBounds_toArray, World.size_alloc, selR, List.getD_cons_zero, List.getD_cons_succ] at H)
  clear hb2 HC
  have c2 := (H.out.blk 0 rfl).cell 2; simp only [List.getElem?_toArray, List.getElem?_cons_zero, List.getElem?_cons_succ] at c2
  have c3 := (H.out.blk 1 rfl).cell 2; simp only [List.getElem?_toArray, List.getElem?_cons_zero, List.getElem?_cons_succ] at c3
  cases bs with
  | false =>
    have HV2 : Hid (R = false) := by show _ = _; rw [HV.out]; rfl
    go_wp2_with fail
    go_ret
    rw [HV2.out]
    exact ⟨rfl, H.out.to⟩
  | true =>
    by_cases h1 : fa = fb
    · have HV2 : Hid (R = bt) := by show _ = _; rw [HV.out]; simp [h1]
      have h1b : (fa == fb) = true := by simp [h1]
      clear h1
      go_wp2_with (first | ((with_reducible show wpList _ _ _ (⟨some 19, _, _, _, _, _⟩ :: _) _ _); refine wpList_load_partG (by first | rfl | go_simp) rowTts (.tmp 18) (by rfl) x 3 (by rfl) #[.int .i64 p0, .int .i64 q0, .int .i64 p1, .int .i64 q1, .int .i64 p2, .int .i64 q2] rfl ((H.out.blk 0 rfl).part 3 _ rfl) ?_) | ((with_reducible show wpList _ _ _ (⟨some 21, _, _, _, _, _⟩ :: _) _ _); refine wpList_load_partG (by first | rfl | go_simp) rowTts (.tmp 20) (by rfl) y 3 (by rfl) #[.int .i64 a0, .int .i64 b0, .int .i64 a1, .int .i64 b1, .int .i64 a2, .int .i64 b2] rfl ((H.out.blk 1 rfl).part 3 _ rfl) ?_) | ((with_reducible show wpList _ _ _ (⟨some 22, _, _, _, _, _⟩ :: _) _ _); refine wpList_cmp_row (by first | rfl | go_simp) .eql 28 28 (.tmp 19) (.tmp 21) (by rfl) (by rfl) (by rfl) guard_tots (HE.out _) ?_))
      go_ret
      rw [HV2.out]
      exact ⟨rfl, H.out.to⟩
    · have HV2 : Hid (R = false) := by show _ = _; rw [HV.out]; simp [h1]
      have h1b : (fa == fb) = false := by simp [h1]
      clear h1
      go_wp2_with fail
      go_ret
      rw [HV2.out]
      exact ⟨rfl, H.out.to⟩
theorem sameK_iff (a b : CC) : sameK a b = true ↔ a = b := by
  unfold sameK
  obtain ⟨s, f, x0, y0, x1, y1, x2, y2⟩ := a
  obtain ⟨t, g, u0, v0, u1, v1, u2, v2⟩ := b
  simp only [Bool.and_eq_true, decide_eq_true_eq, CC.mk.injEq, sameS_iff, and_assoc]

end Go.Proofs.Ytnekknemjhlgdaa

namespace Go.Proofs.Ytnekknemjhlgdaa
open Go.RowKit
set_option linter.unusedVariables false
set_option linter.unusedSimpArgs false


theorem small_of_own {s : Sch} {w : World} (h : SchOwn s w) : SmS s := ⟨by have := h.dn; omega, by have := h.mn; omega, h.small⟩
/-- How New and Grow end: a catalog, and the number of why not. -/
def CatPost (o : CC × Int) (w : World) (e : Ending) (w' : World) : Prop :=
  ∃ D : Ct, e = .returned (.tuple #[.agg D.cs, .int .i64 o.2]) ∧ D.con = o.1 ∧ D.rd w' ∧ SmS D.sc ∧ Bel w w'
theorem small_nil : SmS Sch.nil := ⟨by show (0 : Nat) ≤ _; omega, by show (0 : Nat) ≤ _; omega, fun d hd => by cases hd⟩
theorem catPost_nil {k : Int} {w w' : World} (hb : Bel w w') : CatPost (CC.nil, k) w (.returned (.tuple #[.agg #[.slice none 0 0, .slice none 0 0, .int .i64 0, .int .i64 0, .int .i64 0, .int .i64 0, .int .i64 0, .int .i64 0, .int .i64 0], .int .i64 k])) w' := ⟨Ct.nil, rfl, rfl, ct_nil_rd w', small_nil, hb⟩
/-- The catalog of a cube without facts. -/
def catNew (s : SC) : CC × Int := if schErr s ≠ 0 then (CC.nil, schErr s) else (⟨s, 0, 0, 0, 0, 0, 0, 0⟩, 0)
set_option maxRecDepth 100000 in
set_option maxHeartbeats 1000000 in
theorem catnew_any (s : Sch) (w : World) (hs : s.rd w) (hm : SmS s) :
    Calls Try.prog 17 #[.agg s.cs] w (CatPost (catNew s.con) w) := by
  have HC := Lib.hid (fun w' (hb : Bel w w') => schcheck_any s w' (hs.mono hb) hm.1 hm.2.1 hm.2.2)
  have HK := Lib.hid (fun hE w' (hb : Bel w w') => catclone_any s w' (hs.mono hb) hE)
  have H := Lib.hid (((SL.start No w).alloc s.cs 25).alloc #[.slice none 0 0, .slice none 0 0, .int .i64 0, .int .i64 0, .int .i64 0, .int .i64 0, .int .i64 0, .int .i64 0, .int .i64 0] 30)
  (try simp only [List.set_cons_zero, List.set_cons_succ, List.cons_append, List.nil_append, List.eraseIdx_cons_zero, List.eraseIdx_cons_succ, List.setIfInBounds_toArray, World.size_alloc, selR, List.getD_cons_zero, List.getD_cons_succ] at H)
  generalize hO : catNew s.con = O
  have HO := Lib.hid hO
  clear hO
  obtain ⟨⟨A, n, c, ds⟩, ⟨MA, mn, mc, ms⟩⟩ := s
  simp only [Sch.cs, Sch.con] at *
  clear hs hm
  go_enter Try.func17, Try.ntmps17
  go_upto_region 1 with fail
  generalize w.heap.size + 1 = y at *
  generalize w.heap.size = x at *
  generalize World.alloc (World.alloc _ _) _ = w1 at *
  go_wp2_with ((with_reducible show wpList _ _ _ (⟨some 5, _, _, _, _, _⟩ :: _) _ _); (refine wpList_load_blk rfl rowSch (.tmp 1) rfl _ rfl (H.out.blk 0 rfl) rfl ?_))
  refine (HC.out _ H.out.to).mono ?_; rintro e w2 ⟨rfl, hb2⟩
  replace H := Lib.hid (H.out.bel hb2); (try simp only [List.set_cons_zero, List.set_cons_succ, List.cons_append, List.nil_append, List.eraseIdx_cons_zero, List.eraseIdx_cons_succ, List.setIfInBounds_toArray, World.size_alloc, selR, List.getD_cons_zero, List.getD_cons_succ] at H)
  clear hb2 HC
  by_cases hE : schErr (⟨ds.map Dm.con, ms⟩ : SC) = 0
  · have HK2 := Lib.hid (HK.out hE)
    have HO2 : Hid ((⟨⟨ds.map Dm.con, ms⟩, 0, 0, 0, 0, 0, 0, 0⟩, 0) = O) := by have h := HO.out; unfold catNew at h; rw [if_neg (by simp [hE])] at h; exact h
    rw [hE]
    clear hE HK HO
    go_wp2_with ((with_reducible show wpList _ _ _ (⟨some 11, _, _, _, _, _⟩ :: _) _ _); (refine wpList_load_blk rfl rowSch (.tmp 1) rfl _ rfl (H.out.blk 0 rfl) rfl ?_))
    refine (HK2.out _ H.out.to).mono ?_; rintro e w3 ⟨D, rfl, hD, hb3, hN⟩
    replace H := Lib.hid (H.out.add hb3 _ hN.1 hN.2); (try simp only [List.set_cons_zero, List.set_cons_succ, List.cons_append, List.nil_append, List.eraseIdx_cons_zero, List.eraseIdx_cons_succ, List.setIfInBounds_toArray, World.size_alloc, selR, List.getD_cons_zero, List.getD_cons_succ] at H)
    have HDC := Lib.hid hD
    clear hN hD HK2
    obtain ⟨⟨B, m, d, es⟩, ⟨MB, mm, md, mt⟩⟩ := D
    simp only [Sch.cs, Sch.con] at *
    have hbd : ∀ w : World, (Instr.build 30 #[(0, .agg #[.slice B m d, .slice MB mm md])]).run Try.prog w = .ok (.agg #[.slice B m d, .slice MB mm md, .int .i64 0, .int .i64 0, .int .i64 0, .int .i64 0, .int .i64 0, .int .i64 0, .int .i64 0]) w := fun _ => by kernel_rfl
    go_wp2_with (first | ((with_reducible show wpList _ _ _ (⟨some 13, _, _, _, _, _⟩ :: _) _ _); refine wpList_build1 (vx := .agg #[.slice B m d, .slice MB mm md]) (v := .agg #[.slice B m d, .slice MB mm md, .int .i64 0, .int .i64 0, .int .i64 0, .int .i64 0, .int .i64 0, .int .i64 0, .int .i64 0]) rfl (.tmp 12) rfl rfl hbd ?_) | ((with_reducible show wpList _ _ _ (⟨_, .store _ (.tmp 2) _, _, _, _, _⟩ :: _) _ _); (refine wpList_store_blk rfl rowCt (.tmp 2) (.tmp 13) rfl _ rfl (H.out.blk 1 rfl) rfl (#[.slice B m d, .slice MB mm md, .int .i64 0, .int .i64 0, .int .i64 0, .int .i64 0, .int .i64 0, .int .i64 0, .int .i64 0]) rfl rfl (by simp [Value.oneCell']) ?_; intro wq bq hgq; replace H := Lib.hid (H.out.setBlk 1 rfl hgq bq); (try simp only [List.set_cons_zero, List.set_cons_succ, List.cons_append, List.nil_append, List.eraseIdx_cons_zero, List.eraseIdx_cons_succ, List.setIfInBounds_toArray, World.size_alloc, selR, List.getD_cons_zero, List.getD_cons_succ] at H); clear hgq bq)))
    refine bodyPost_ret (results_blk rfl rowCt rfl (H.out.blk 1 rfl) rfl) rfl ?_
    rw [← HO2.out]
    exact ⟨⟨⟨⟨B, m, d, es⟩, ⟨MB, mm, md, mt⟩⟩, 0, 0, 0, 0, 0, 0, 0⟩, rfl, congrArg (fun s => (⟨s, 0, 0, 0, 0, 0, 0, 0⟩ : CC)) HDC.out, ⟨(H.out.at_ 2 rfl).rd, i64_zero, i64_zero, i64_zero, i64_zero, i64_zero, i64_zero, i64_zero⟩, small_of_own (H.out.at_ 2 rfl), H.out.to⟩
  · have HO2 : Hid ((CC.nil, schErr (⟨ds.map Dm.con, ms⟩ : SC)) = O) := by have h := HO.out; unfold catNew at h; rw [if_pos hE] at h; exact h
    have dE : (schErr (⟨ds.map Dm.con, ms⟩ : SC) == 0) = false := by simpa using hE
    clear hE HK HO
    go_wp2_with ((with_reducible show wpList _ _ _ (⟨_, .store _ (.tmp 2) _, _, _, _, _⟩ :: _) _ _); (refine wpList_store_blk rfl rowCt (.tmp 2) (.tmp 9) rfl _ rfl (H.out.blk 1 rfl) rfl (#[.slice none 0 0, .slice none 0 0, .int .i64 0, .int .i64 0, .int .i64 0, .int .i64 0, .int .i64 0, .int .i64 0, .int .i64 0]) rfl rfl (by simp [Value.oneCell']) ?_; intro wq bq hgq; replace H := Lib.hid (H.out.setBlk 1 rfl hgq bq); (try simp only [List.set_cons_zero, List.set_cons_succ, List.cons_append, List.nil_append, List.eraseIdx_cons_zero, List.eraseIdx_cons_succ, List.setIfInBounds_toArray, World.size_alloc, selR, List.getD_cons_zero, List.getD_cons_succ] at H); clear hgq bq))
    refine bodyPost_ret (results_blk rfl rowCt rfl (H.out.blk 1 rfl) rfl) rfl ?_
    rw [← HO2.out]
    exact catPost_nil H.out.to

/-- A total with a value more; false: it does not fit. -/
def egrow (p q v : Int) : (Int × Int) × Bool := if v < 0 then (if (xadd q v).2 then (p, (xadd q v).1) else (0, 0), (xadd q v).2) else (if (xadd p v).2 then ((xadd p v).1, q) else (0, 0), (xadd p v).2)
set_option maxRecDepth 100000 in
set_option maxHeartbeats 1000000 in
theorem egrow_any (p q v : Int) (w : World) (hp : I64 p) (hq : I64 q) (hv : I64 v) :
    Calls Try.prog 129 #[.agg #[.int .i64 p, .int .i64 q], .int .i64 v] w fun e w' => e = .returned (.tuple #[.agg #[.int .i64 (egrow p q v).1.1, .int .i64 (egrow p q v).1.2], .bool (egrow p q v).2]) ∧ Bel w w' := by
  have H := Lib.hid (((SL.start No w).alloc #[.int .i64 p, .int .i64 q] 27).alloc #[.int .i64 0, .int .i64 0] 27)
  (try simp only [List.set_cons_zero, List.set_cons_succ, List.cons_append, List.nil_append, List.eraseIdx_cons_zero, List.eraseIdx_cons_succ, List.setIfInBounds_toArray, World.size_alloc, selR, List.getD_cons_zero, List.getD_cons_succ] at H)
  go_enter Try.func129, Try.ntmps129
  go_upto_region 2 with fail
  generalize w.heap.size + 1 = y at *
  generalize w.heap.size = x at *
  generalize World.alloc (World.alloc _ _) _ = w1 at *
  by_cases h : v < 0
  · have HO2 : Hid ((if (xadd q v).2 then (p, (xadd q v).1) else (0, 0), (xadd q v).2) = egrow p q v) := by show _ = _; unfold egrow; rw [if_pos h]
    have HX := Lib.hid (fun w => add_any q v w hq hv)
    generalize (xadd q v) = X at *
    obtain ⟨r, ok⟩ := X
    simp only at HX HO2
    have c0 := (H.out.blk 0 rfl).cell 1; simp only [List.getElem?_toArray, List.getElem?_cons_zero, List.getElem?_cons_succ] at c0; have f0 := (H.out.blk 0 rfl).frozen 1
    go_wp2_with fail
    refine (HX.out _).mono ?_; rintro e w2 ⟨rfl, rfl⟩
    cases ok with
    | true =>
      go_wp2_with (first | ((with_reducible show wpList _ _ _ (⟨some 28, _, _, _, _, _⟩ :: _) _ _); (replace H := Lib.hid (H.out.setCell 0 rfl 1 (.int .i64 r)); (try simp only [List.set_cons_zero, List.set_cons_succ, List.cons_append, List.nil_append, List.eraseIdx_cons_zero, List.eraseIdx_cons_succ, List.setIfInBounds_toArray, World.size_alloc, selR, List.getD_cons_zero, List.getD_cons_succ] at H); clear c0 f0; refine wpList_load_blk rfl rowTt (.tmp 2) rfl _ rfl (H.out.blk 0 rfl) rfl ?_)) | ((with_reducible show wpList _ _ _ (⟨_, .store _ (.tmp 4) _, _, _, _, _⟩ :: _) _ _); (refine wpList_store_blk rfl rowTt (.tmp 4) (.tmp 28) rfl _ rfl (H.out.blk 1 rfl) rfl (#[.int .i64 p, .int .i64 r]) rfl rfl (by simp [Value.oneCell']) ?_; intro wq bq hgq; replace H := Lib.hid (H.out.setBlk 1 rfl hgq bq); (try simp only [List.set_cons_zero, List.set_cons_succ, List.cons_append, List.nil_append, List.eraseIdx_cons_zero, List.eraseIdx_cons_succ, List.setIfInBounds_toArray, World.size_alloc, selR, List.getD_cons_zero, List.getD_cons_succ] at H); clear hgq bq)))
      refine bodyPost_ret (results_blk rfl rowTt rfl (H.out.blk 1 rfl) rfl) rfl ?_
      rw [← HO2.out]
      exact ⟨rfl, H.out.to⟩
    | false =>
      go_wp2_with ((with_reducible show wpList _ _ _ (⟨_, .store _ (.tmp 4) _, _, _, _, _⟩ :: _) _ _); (replace H := Lib.hid (H.out.setCell 0 rfl 1 (.int .i64 r)); (try simp only [List.set_cons_zero, List.set_cons_succ, List.cons_append, List.nil_append, List.eraseIdx_cons_zero, List.eraseIdx_cons_succ, List.setIfInBounds_toArray, World.size_alloc, selR, List.getD_cons_zero, List.getD_cons_succ] at H); clear c0 f0; refine wpList_store_blk rfl rowTt (.tmp 4) (.tmp 27) rfl _ rfl (H.out.blk 1 rfl) rfl (#[.int .i64 0, .int .i64 0]) rfl rfl (by simp [Value.oneCell']) ?_; intro wq bq hgq; replace H := Lib.hid (H.out.setBlk 1 rfl hgq bq); (try simp only [List.set_cons_zero, List.set_cons_succ, List.cons_append, List.nil_append, List.eraseIdx_cons_zero, List.eraseIdx_cons_succ, List.setIfInBounds_toArray, World.size_alloc, selR, List.getD_cons_zero, List.getD_cons_succ] at H); clear hgq bq))
      refine bodyPost_ret (results_blk rfl rowTt rfl (H.out.blk 1 rfl) rfl) rfl ?_
      rw [← HO2.out]
      exact ⟨rfl, H.out.to⟩
  · have HO2 : Hid ((if (xadd p v).2 then ((xadd p v).1, q) else (0, 0), (xadd p v).2) = egrow p q v) := by show _ = _; unfold egrow; rw [if_neg h]
    have HX := Lib.hid (fun w => add_any p v w hp hv)
    generalize (xadd p v) = X at *
    obtain ⟨r, ok⟩ := X
    simp only at HX HO2
    have c0 := (H.out.blk 0 rfl).cell 0; simp only [List.getElem?_toArray, List.getElem?_cons_zero, List.getElem?_cons_succ] at c0; have f0 := (H.out.blk 0 rfl).frozen 0
    go_wp2_with fail
    refine (HX.out _).mono ?_; rintro e w2 ⟨rfl, rfl⟩
    cases ok with
    | true =>
      go_wp2_with (first | ((with_reducible show wpList _ _ _ (⟨some 28, _, _, _, _, _⟩ :: _) _ _); (replace H := Lib.hid (H.out.setCell 0 rfl 0 (.int .i64 r)); (try simp only [List.set_cons_zero, List.set_cons_succ, List.cons_append, List.nil_append, List.eraseIdx_cons_zero, List.eraseIdx_cons_succ, List.setIfInBounds_toArray, World.size_alloc, selR, List.getD_cons_zero, List.getD_cons_succ] at H); clear c0 f0; refine wpList_load_blk rfl rowTt (.tmp 2) rfl _ rfl (H.out.blk 0 rfl) rfl ?_)) | ((with_reducible show wpList _ _ _ (⟨_, .store _ (.tmp 4) _, _, _, _, _⟩ :: _) _ _); (refine wpList_store_blk rfl rowTt (.tmp 4) (.tmp 28) rfl _ rfl (H.out.blk 1 rfl) rfl (#[.int .i64 r, .int .i64 q]) rfl rfl (by simp [Value.oneCell']) ?_; intro wq bq hgq; replace H := Lib.hid (H.out.setBlk 1 rfl hgq bq); (try simp only [List.set_cons_zero, List.set_cons_succ, List.cons_append, List.nil_append, List.eraseIdx_cons_zero, List.eraseIdx_cons_succ, List.setIfInBounds_toArray, World.size_alloc, selR, List.getD_cons_zero, List.getD_cons_succ] at H); clear hgq bq)))
      refine bodyPost_ret (results_blk rfl rowTt rfl (H.out.blk 1 rfl) rfl) rfl ?_
      rw [← HO2.out]
      exact ⟨rfl, H.out.to⟩
    | false =>
      go_wp2_with ((with_reducible show wpList _ _ _ (⟨_, .store _ (.tmp 4) _, _, _, _, _⟩ :: _) _ _); (replace H := Lib.hid (H.out.setCell 0 rfl 0 (.int .i64 r)); (try simp only [List.set_cons_zero, List.set_cons_succ, List.cons_append, List.nil_append, List.eraseIdx_cons_zero, List.eraseIdx_cons_succ, List.setIfInBounds_toArray, World.size_alloc, selR, List.getD_cons_zero, List.getD_cons_succ] at H); clear c0 f0; refine wpList_store_blk rfl rowTt (.tmp 4) (.tmp 27) rfl _ rfl (H.out.blk 1 rfl) rfl (#[.int .i64 0, .int .i64 0]) rfl rfl (by simp [Value.oneCell']) ?_; intro wq bq hgq; replace H := Lib.hid (H.out.setBlk 1 rfl hgq bq); (try simp only [List.set_cons_zero, List.set_cons_succ, List.cons_append, List.nil_append, List.eraseIdx_cons_zero, List.eraseIdx_cons_succ, List.setIfInBounds_toArray, World.size_alloc, selR, List.getD_cons_zero, List.getD_cons_succ] at H); clear hgq bq))
      refine bodyPost_ret (results_blk rfl rowTt rfl (H.out.blk 1 rfl) rfl) rfl ?_
      rw [← HO2.out]
      exact ⟨rfl, H.out.to⟩

end Go.Proofs.Ytnekknemjhlgdaa

namespace Go.Proofs.Ytnekknemjhlgdaa
open Go.RowKit
set_option linter.unusedVariables false
set_option linter.unusedSimpArgs false


theorem drop_get {α : Type} {l : List α} {k : Nat} {a : α} (h : l[k]? = some a) : l.drop k = a :: l.drop (k + 1) := by
  obtain ⟨h1, rfl⟩ := List.getElem?_eq_some_iff.1 h
  exact List.drop_eq_getElem_cons h1
theorem xadd_i64 {a b : Int} : I64 (xadd a b).1 := by
  unfold xadd xfit
  split
  · assumption
  · exact i64_zero
theorem egrow_i64 {p q v : Int} (hp : I64 p) (hq : I64 q) : I64 (egrow p q v).1.1 ∧ I64 (egrow p q v).1.2 := by
  unfold egrow
  split
  · simp only
    split
    · exact ⟨hp, xadd_i64⟩
    · exact ⟨i64_zero, i64_zero⟩
  · simp only
    split
    · exact ⟨xadd_i64, hq⟩
    · exact ⟨i64_zero, i64_zero⟩
/-- A catalog with one of its totals grown by a value. -/
def cupd (c : CC) (i : Nat) (v : Int) : CC × Bool :=
  if i = 0 then (let g := egrow c.p0 c.q0 v; (⟨c.sc, c.fa, g.1.1, g.1.2, c.p1, c.q1, c.p2, c.q2⟩, g.2))
  else if i = 1 then (let g := egrow c.p1 c.q1 v; (⟨c.sc, c.fa, c.p0, c.q0, g.1.1, g.1.2, c.p2, c.q2⟩, g.2))
  else (let g := egrow c.p2 c.q2 v; (⟨c.sc, c.fa, c.p0, c.q0, c.p1, c.q1, g.1.1, g.1.2⟩, g.2))
/-- A row more, from a measure on. -/
def crow (c : CC) (i : Nat) : List Int → Option CC
  | [] => some c
  | v :: l => if (cupd c i v).2 then crow (cupd c i v).1 (i + 1) l else none
/-- Rows more. -/
def crows (m : Nat) (c : CC) : List (List Int) → CC × Int
  | [] => (c, 0)
  | r :: l => if r.length ≠ m then (CC.nil, 2) else match crow c 0 r with
    | none => (CC.nil, 12)
    | some d => crows m d l
def cfin (n : Nat) (o : CC × Int) : CC × Int := if o.2 = 0 then (⟨o.1.sc, o.1.fa + n, o.1.p0, o.1.q0, o.1.p1, o.1.q1, o.1.p2, o.1.q2⟩, 0) else o
/-- A catalog behind rows more. -/
def catGrow (c : CC) (rows : List (List Int)) : CC × Int :=
  if catErr c ≠ 0 then (CC.nil, catErr c)
  else if 4000 < c.fa + rows.length then (CC.nil, 6)
  else cfin rows.length (crows c.sc.ms.length c rows)
theorem catErr_zero {c : CC} (h : catErr c = 0) : schErr c.sc = 0 ∧ 0 ≤ c.fa ∧ c.fa ≤ 4000 := by
  unfold catErr at h
  split at h
  · rename_i h1; exact absurd h h1
  · rename_i h1
    split at h
    · cases h
    · rename_i h2
      exact ⟨by simpa using h1, by omega, by omega⟩
theorem crows_bad {m : Nat} {c : CC} {r : List Int} {l : List (List Int)} (h : r.length ≠ m) : crows m c (r :: l) = (CC.nil, 2) := by rw [crows, if_pos h]
theorem crows_over {m : Nat} {c : CC} {r : List Int} {l : List (List Int)} (h : r.length = m) (h2 : crow c 0 r = none) : crows m c (r :: l) = (CC.nil, 12) := by rw [crows, if_neg (by simp [h]), h2]
theorem crows_ok {m : Nat} {c d : CC} {r : List Int} {l : List (List Int)} (h : r.length = m) (h2 : crow c 0 r = some d) : crows m c (r :: l) = crows m d l := by rw [crows, if_neg (by simp [h]), h2]
theorem crow_step {c : CC} {i : Nat} {v : Int} {l : List Int} (h : (cupd c i v).2 = true) : crow c i (v :: l) = crow (cupd c i v).1 (i + 1) l := by rw [crow, if_pos h]
theorem crow_none {c : CC} {i : Nat} {v : Int} {l : List Int} (h : (cupd c i v).2 = false) : crow c i (v :: l) = none := by rw [crow, if_neg (by simp [h])]

end Go.Proofs.Ytnekknemjhlgdaa

namespace Go.Proofs.Ytnekknemjhlgdaa
open Go.RowKit
set_option linter.unusedVariables false
set_option linter.unusedSimpArgs false


def tots (c : CC) : List (Int × Int) := [(c.p0, c.q0), (c.p1, c.q1), (c.p2, c.q2)]
def totPut (t : Int × Int) : List UInt8 := nput (nfold t.1) ++ nput (nfold t.2)
/-- A catalog's bytes. -/
def catPut (c : CC) : List UInt8 := schPut c.sc ++ nput c.fa.toNat ++ ((tots c).take c.sc.ms.length).flatMap totPut
def catPutV (c : CC) : List UInt8 × Int := if catErr c = 0 then (catPut c, 0) else ([], catErr c)
theorem len3 : Try.prog.arrayLen 28 = 3 := by kernel_rfl
theorem slice3 (a : Addr) (s : Nat) (hs : s ≤ 3) (W : World) : (Instr.sliceAt 28 (.pointer (some a)) none (some (.int .i64 s)) none).run Try.prog W = .ok (.slice (some a) s 3) W := by
  have hz : ∀ w, (sizeOf (Try.prog.elem 28)).run Try.prog w = .ok 2 w := fun _ => by kernel_rfl
  rw [run_sliceAt_array_h W 28 a (by kernel_rfl) .i64 s (by omega) (by rw [len3]; omega), hz]
  simp [len3, slicedAt, Addr.add]
set_option maxRecDepth 100000 in
set_option maxHeartbeats 2000000 in
theorem catput_any (s : Ct) (w : World) (hs : s.rd w) (hm : SmS s.sc) :
    Calls Try.prog 20 #[.agg s.cs] w fun e w' => e = .returned (.tuple #[.string ⟨(catPutV s.con).1.toArray⟩, .int .i64 (catPutV s.con).2]) ∧ Bel w w' := by
  have HC := Lib.hid (fun w' (hb : Bel w w') => catcheck_any s w' (hs.mono hb) hm)
  have HP := Lib.hid (fun w' (hb : Bel w w') => schput_any s.sc w' (hs.sc.mono hb) hm.1 hm.2.1 hm.2.2)
  have HI : Hid (I64 s.p0 ∧ I64 s.q0 ∧ I64 s.p1 ∧ I64 s.q1 ∧ I64 s.p2 ∧ I64 s.q2) := ⟨hs.p0, hs.q0, hs.p1, hs.q1, hs.p2, hs.q2⟩
  have hml : Hid (s.sc.ms.l.length = s.sc.ms.n) := hs.sc.ms.len
  have H := Lib.hid ((SL.start No w).alloc s.cs 30)
  (try simp only [List.set_cons_zero, List.set_cons_succ, List.cons_append, List.nil_append, List.eraseIdx_cons_zero, List.eraseIdx_cons_succ, List.setIfInBounds_toArray, World.size_alloc, selR, List.getD_cons_zero, List.getD_cons_succ] at H)
  have hfa := hs.fa
  unfold I64 at hfa
  obtain ⟨⟨⟨A, n, c, ds⟩, ⟨MA, mn, mc, ms⟩⟩, fa, p0, q0, p1, q1, p2, q2⟩ := s
  simp only [Ct.cs, Sch.cs, Ct.con, Sch.con] at *
  obtain ⟨f1, f2⟩ := hfa
  clear hs hm
  go_enter Try.func20, Try.ntmps20
  go_upto_region 1 with fail
  generalize w.heap.size = x at *
  generalize World.alloc _ _ = w1 at *
  go_wp2_with ((with_reducible show wpList _ _ _ (⟨some 9, _, _, _, _, _⟩ :: _) _ _); (refine wpList_load_blk rfl rowCt (.tmp 1) rfl _ rfl (H.out.blk 0 rfl) rfl ?_))
  refine (HC.out _ H.out.to).mono ?_; rintro e w2 ⟨rfl, hb2⟩
  replace H := Lib.hid (H.out.bel hb2); (try simp only [List.set_cons_zero, List.set_cons_succ, List.cons_append, List.nil_append, List.eraseIdx_cons_zero, List.eraseIdx_cons_succ, List.setIfInBounds_toArray, World.size_alloc, selR, List.getD_cons_zero, List.getD_cons_succ] at H)
  clear hb2 HC
  by_cases hE : catErr ⟨⟨ds.map Dm.con, ms⟩, fa, p0, q0, p1, q1, p2, q2⟩ = 0
  · obtain ⟨g1, g2, g3⟩ := catErr_zero hE
    have hm3 : mn ≤ 3 := by have h : ms.length ≤ 3 := (schErr_zero g1).2.2.2.2.1; have := hml.out; omega
    simp only at g1 g2 g3
    have HV : Hid (catPutV ⟨⟨ds.map Dm.con, ms⟩, fa, p0, q0, p1, q1, p2, q2⟩ = (schPut ⟨ds.map Dm.con, ms⟩ ++ nput fa.toNat ++ ((tots ⟨⟨ds.map Dm.con, ms⟩, fa, p0, q0, p1, q1, p2, q2⟩).take mn).flatMap totPut, 0)) := by show _ = _; unfold catPutV; rw [if_pos hE, ← hml.out]; rfl
    have HPV : schPutV ⟨ds.map Dm.con, ms⟩ = (schPut ⟨ds.map Dm.con, ms⟩, 0) := by unfold schPutV; rw [if_pos g1]
    rw [HPV] at HP
    rw [hE]
    clear hE HPV
    have hX : (schPut (⟨ds.map Dm.con, ms⟩ : SC)).length ≤ 900000 := schPut_len g1
    generalize schPut (⟨ds.map Dm.con, ms⟩ : SC) = X at *
    go_wp2_with ((with_reducible show wpList _ _ _ (⟨some 16, _, _, _, _, _⟩ :: _) _ _); (refine wpList_load_row_at rfl rowSch (.tmp 15) rfl x (0) rfl #[.slice A n c, .slice MA mn mc] rfl ((H.out.blk 0 rfl).part 0 _ rfl) ?_))
    refine (HP.out _ H.out.to).mono ?_; rintro e w3 ⟨rfl, hb3⟩
    replace H := Lib.hid (H.out.bel hb3); (try simp only [List.set_cons_zero, List.set_cons_succ, List.cons_append, List.nil_append, List.eraseIdx_cons_zero, List.eraseIdx_cons_succ, List.setIfInBounds_toArray, World.size_alloc, selR, List.getD_cons_zero, List.getD_cons_succ] at H)
    clear hb3 HP
    clear g1
    have hF := nput_le9 fa.toNat
    have c2 := (H.out.blk 0 rfl).cell 2; simp only [List.getElem?_toArray, List.getElem?_cons_zero, List.getElem?_cons_succ] at c2
    go_wp2_with fail
    refine (putNum_any fa _ (by omega) (by omega)).mono ?_; rintro e w4 ⟨rfl, hb4⟩
    replace H := Lib.hid (H.out.bel hb4); (try simp only [List.set_cons_zero, List.set_cons_succ, List.cons_append, List.nil_append, List.eraseIdx_cons_zero, List.eraseIdx_cons_succ, List.setIfInBounds_toArray, World.size_alloc, selR, List.getD_cons_zero, List.getD_cons_succ] at H)
    clear hb4 c2
    have c1 := (H.out.blk 0 rfl).cell 1; simp only [List.getElem?_toArray, List.getElem?_cons_zero, List.getElem?_cons_succ] at c1
    have sl := slice3 ⟨x, 3, none⟩ mn hm3
    go_wp2_with fail
    rw [str_append]
    clear c1 sl
    have hY : (X ++ nput fa.toNat).length ≤ 900010 := by rw [List.length_append]; omega
    clear hF hX
    generalize X ++ nput fa.toNat = Y at *
    have HY : Hid (Y = Y ++ ((tots ⟨⟨ds.map Dm.con, ms⟩, fa, p0, q0, p1, q1, p2, q2⟩).take 0).flatMap totPut) := by show _ = _; simp
    go_loopg [5, 32] mn (fun gg v i wr => ∃ (k : Nat) (l : List UInt8), gg = mn - k ∧ k ≤ mn ∧ v = .string ⟨l.toArray⟩ ∧ i = .int .i64 k ∧ l.length ≤ 900010 + 20 * k ∧ Hid (l = Y ++ ((tots ⟨⟨ds.map Dm.con, ms⟩, fa, p0, q0, p1, q1, p2, q2⟩).take k).flatMap totPut) ∧ Hid (SL No w wr [rBlk x 30 #[.slice A n c, .slice MA mn mc, .int .i64 fa, .int .i64 p0, .int .i64 q0, .int .i64 p1, .int .i64 q1, .int .i64 p2, .int .i64 q2]]))
    case atStart => exact ⟨0, Y, rfl, by omega, rfl, rfl, by omega, HY, H⟩
    case round =>
      clear H HY hY
      obtain ⟨k, l, hgk, hk, rfl, rfl, hl, HY, H⟩ := hrel
      have Hgk := Lib.hid hgk
      clear hgk
      by_cases hlt : k < mn
      · have j1 : (k : Int) < mn := by omega
        obtain rfl | rfl | rfl : k = 0 ∨ k = 1 ∨ k = 2 := by omega
        · rw [show ((0 : Nat) : Int) = 0 from rfl] at j1 ⊢
          have la := nput_le9 (nfold p0)
          have lb := nput_le9 (nfold q0)
          have HN : Hid (l ++ (nput (nfold p0) ++ nput (nfold q0)) = Y ++ ((tots ⟨⟨ds.map Dm.con, ms⟩, fa, p0, q0, p1, q1, p2, q2⟩).take (0 + 1)).flatMap totPut) := by show _ = _; rw [HY.out]; simp [tots, totPut]
          go_upto_region 9 with (first | ((with_reducible show wpList _ _ _ (⟨some 35, _, _, _, _, _⟩ :: _) _ _); (refine wpList_load_row_at rfl rowTt (.tmp 34) rfl x (3) rfl #[.int .i64 p0, .int .i64 q0] rfl ((H.out.blk 0 rfl).part 3 _ rfl) ?_)) | ((with_reducible show wpList _ _ _ (⟨_, .store _ (.tmp 8) _, _, _, _, _⟩ :: _) _ _); (refine wpList_store_new rfl rowTt (.tmp 8) (.tmp 35) rfl rfl rfl (#[.int .i64 p0, .int .i64 q0]) rfl rfl (by simp [Value.oneCell']) ?_; replace H := Lib.hid (H.out.alloc (#[.int .i64 p0, .int .i64 q0]) 27); (try simp only [List.set_cons_zero, List.set_cons_succ, List.cons_append, List.nil_append, List.eraseIdx_cons_zero, List.eraseIdx_cons_succ, List.setIfInBounds_toArray, World.size_alloc, selR, List.getD_cons_zero, List.getD_cons_succ] at H))))
          (try simp only [Act.put, List.setIfInBounds_toArray, List.set_cons_zero, List.set_cons_succ])
          generalize wr.heap.size = z at *
          generalize World.alloc wr _ = w5 at *
          have ct0 := (H.out.blk 1 rfl).cell 0; simp only [List.getElem?_toArray, List.getElem?_cons_zero, List.getElem?_cons_succ] at ct0
          have ct1 := (H.out.blk 1 rfl).cell 1; simp only [List.getElem?_toArray, List.getElem?_cons_zero, List.getElem?_cons_succ] at ct1
          have f_ct0 := fun u : Over w5 => Over.cell ct0 u
          have f_ct1 := fun u : Over w5 => Over.cell ct1 u
          refine wp_region_over (by kernel_rfl) (by kernel_rfl) ?_
          (try simp only [Act.put, List.setIfInBounds_toArray, List.set_cons_zero, List.set_cons_succ])
          repeat (go_big_quiet_step ((first | (go_at_call 84; rename_i u; exact calls_over (pputInt_any p0 _ HI.out.1.1 HI.out.1.2)) | (go_at_call 84; rename_i u; exact calls_over (pputInt_any q0 _ HI.out.2.1.1 HI.out.2.1.2)))))
          refine wpQuiet_nil ?_
          rintro w5 ⟨⟨_, hw5⟩, rfl⟩
          (try dsimp only)
          replace H := Lib.hid (H.out.bel hw5); (try simp only [List.set_cons_zero, List.set_cons_succ, List.cons_append, List.nil_append, List.eraseIdx_cons_zero, List.eraseIdx_cons_succ, List.setIfInBounds_toArray, World.size_alloc, selR, List.getD_cons_zero, List.getD_cons_succ] at H)
          clear f_ct0 f_ct1 ct0 ct1
          replace H := Lib.hid (H.out.sel [0] (by decide) (by simp)); (try simp only [List.set_cons_zero, List.set_cons_succ, List.cons_append, List.nil_append, List.eraseIdx_cons_zero, List.eraseIdx_cons_succ, List.setIfInBounds_toArray, World.size_alloc, selR, List.getD_cons_zero, List.getD_cons_succ] at H)
          rw [str_append, str_append]
          go_wp2_with fail
          go_roundg (mn - (0 + 1))
          case rel => exact ⟨0 + 1, _, rfl, by omega, rfl, rfl, by simp only [List.length_append]; omega, HN, H⟩
          case measure => rw [Hgk.out]; omega
        · rw [show ((1 : Nat) : Int) = 1 from rfl] at j1 ⊢
          have la := nput_le9 (nfold p1)
          have lb := nput_le9 (nfold q1)
          have HN : Hid (l ++ (nput (nfold p1) ++ nput (nfold q1)) = Y ++ ((tots ⟨⟨ds.map Dm.con, ms⟩, fa, p0, q0, p1, q1, p2, q2⟩).take (1 + 1)).flatMap totPut) := by show _ = _; rw [HY.out]; simp [tots, totPut]
          go_upto_region 9 with (first | ((with_reducible show wpList _ _ _ (⟨some 35, _, _, _, _, _⟩ :: _) _ _); (refine wpList_load_row_at rfl rowTt (.tmp 34) rfl x (5) rfl #[.int .i64 p1, .int .i64 q1] rfl ((H.out.blk 0 rfl).part 5 _ rfl) ?_)) | ((with_reducible show wpList _ _ _ (⟨_, .store _ (.tmp 8) _, _, _, _, _⟩ :: _) _ _); (refine wpList_store_new rfl rowTt (.tmp 8) (.tmp 35) rfl rfl rfl (#[.int .i64 p1, .int .i64 q1]) rfl rfl (by simp [Value.oneCell']) ?_; replace H := Lib.hid (H.out.alloc (#[.int .i64 p1, .int .i64 q1]) 27); (try simp only [List.set_cons_zero, List.set_cons_succ, List.cons_append, List.nil_append, List.eraseIdx_cons_zero, List.eraseIdx_cons_succ, List.setIfInBounds_toArray, World.size_alloc, selR, List.getD_cons_zero, List.getD_cons_succ] at H))))
          (try simp only [Act.put, List.setIfInBounds_toArray, List.set_cons_zero, List.set_cons_succ])
          generalize wr.heap.size = z at *
          generalize World.alloc wr _ = w5 at *
          have ct0 := (H.out.blk 1 rfl).cell 0; simp only [List.getElem?_toArray, List.getElem?_cons_zero, List.getElem?_cons_succ] at ct0
          have ct1 := (H.out.blk 1 rfl).cell 1; simp only [List.getElem?_toArray, List.getElem?_cons_zero, List.getElem?_cons_succ] at ct1
          have f_ct0 := fun u : Over w5 => Over.cell ct0 u
          have f_ct1 := fun u : Over w5 => Over.cell ct1 u
          refine wp_region_over (by kernel_rfl) (by kernel_rfl) ?_
          (try simp only [Act.put, List.setIfInBounds_toArray, List.set_cons_zero, List.set_cons_succ])
          repeat (go_big_quiet_step ((first | (go_at_call 84; rename_i u; exact calls_over (pputInt_any p1 _ HI.out.2.2.1.1 HI.out.2.2.1.2)) | (go_at_call 84; rename_i u; exact calls_over (pputInt_any q1 _ HI.out.2.2.2.1.1 HI.out.2.2.2.1.2)))))
          refine wpQuiet_nil ?_
          rintro w5 ⟨⟨_, hw5⟩, rfl⟩
          (try dsimp only)
          replace H := Lib.hid (H.out.bel hw5); (try simp only [List.set_cons_zero, List.set_cons_succ, List.cons_append, List.nil_append, List.eraseIdx_cons_zero, List.eraseIdx_cons_succ, List.setIfInBounds_toArray, World.size_alloc, selR, List.getD_cons_zero, List.getD_cons_succ] at H)
          clear f_ct0 f_ct1 ct0 ct1
          replace H := Lib.hid (H.out.sel [0] (by decide) (by simp)); (try simp only [List.set_cons_zero, List.set_cons_succ, List.cons_append, List.nil_append, List.eraseIdx_cons_zero, List.eraseIdx_cons_succ, List.setIfInBounds_toArray, World.size_alloc, selR, List.getD_cons_zero, List.getD_cons_succ] at H)
          rw [str_append, str_append]
          go_wp2_with fail
          go_roundg (mn - (1 + 1))
          case rel => exact ⟨1 + 1, _, rfl, by omega, rfl, rfl, by simp only [List.length_append]; omega, HN, H⟩
          case measure => rw [Hgk.out]; omega
        · rw [show ((2 : Nat) : Int) = 2 from rfl] at j1 ⊢
          have la := nput_le9 (nfold p2)
          have lb := nput_le9 (nfold q2)
          have HN : Hid (l ++ (nput (nfold p2) ++ nput (nfold q2)) = Y ++ ((tots ⟨⟨ds.map Dm.con, ms⟩, fa, p0, q0, p1, q1, p2, q2⟩).take (2 + 1)).flatMap totPut) := by show _ = _; rw [HY.out]; simp [tots, totPut]
          go_upto_region 9 with (first | ((with_reducible show wpList _ _ _ (⟨some 35, _, _, _, _, _⟩ :: _) _ _); (refine wpList_load_row_at rfl rowTt (.tmp 34) rfl x (7) rfl #[.int .i64 p2, .int .i64 q2] rfl ((H.out.blk 0 rfl).part 7 _ rfl) ?_)) | ((with_reducible show wpList _ _ _ (⟨_, .store _ (.tmp 8) _, _, _, _, _⟩ :: _) _ _); (refine wpList_store_new rfl rowTt (.tmp 8) (.tmp 35) rfl rfl rfl (#[.int .i64 p2, .int .i64 q2]) rfl rfl (by simp [Value.oneCell']) ?_; replace H := Lib.hid (H.out.alloc (#[.int .i64 p2, .int .i64 q2]) 27); (try simp only [List.set_cons_zero, List.set_cons_succ, List.cons_append, List.nil_append, List.eraseIdx_cons_zero, List.eraseIdx_cons_succ, List.setIfInBounds_toArray, World.size_alloc, selR, List.getD_cons_zero, List.getD_cons_succ] at H))))
          (try simp only [Act.put, List.setIfInBounds_toArray, List.set_cons_zero, List.set_cons_succ])
          generalize wr.heap.size = z at *
          generalize World.alloc wr _ = w5 at *
          have ct0 := (H.out.blk 1 rfl).cell 0; simp only [List.getElem?_toArray, List.getElem?_cons_zero, List.getElem?_cons_succ] at ct0
          have ct1 := (H.out.blk 1 rfl).cell 1; simp only [List.getElem?_toArray, List.getElem?_cons_zero, List.getElem?_cons_succ] at ct1
          have f_ct0 := fun u : Over w5 => Over.cell ct0 u
          have f_ct1 := fun u : Over w5 => Over.cell ct1 u
          refine wp_region_over (by kernel_rfl) (by kernel_rfl) ?_
          (try simp only [Act.put, List.setIfInBounds_toArray, List.set_cons_zero, List.set_cons_succ])
          repeat (go_big_quiet_step ((first | (go_at_call 84; rename_i u; exact calls_over (pputInt_any p2 _ HI.out.2.2.2.2.1.1 HI.out.2.2.2.2.1.2)) | (go_at_call 84; rename_i u; exact calls_over (pputInt_any q2 _ HI.out.2.2.2.2.2.1 HI.out.2.2.2.2.2.2)))))
          refine wpQuiet_nil ?_
          rintro w5 ⟨⟨_, hw5⟩, rfl⟩
          (try dsimp only)
          replace H := Lib.hid (H.out.bel hw5); (try simp only [List.set_cons_zero, List.set_cons_succ, List.cons_append, List.nil_append, List.eraseIdx_cons_zero, List.eraseIdx_cons_succ, List.setIfInBounds_toArray, World.size_alloc, selR, List.getD_cons_zero, List.getD_cons_succ] at H)
          clear f_ct0 f_ct1 ct0 ct1
          replace H := Lib.hid (H.out.sel [0] (by decide) (by simp)); (try simp only [List.set_cons_zero, List.set_cons_succ, List.cons_append, List.nil_append, List.eraseIdx_cons_zero, List.eraseIdx_cons_succ, List.setIfInBounds_toArray, World.size_alloc, selR, List.getD_cons_zero, List.getD_cons_succ] at H)
          rw [str_append, str_append]
          go_wp2_with fail
          go_roundg (mn - (2 + 1))
          case rel => exact ⟨2 + 1, _, rfl, by omega, rfl, rfl, by simp only [List.length_append]; omega, HN, H⟩
          case measure => rw [Hgk.out]; omega
      · obtain rfl : k = mn := by omega
        rw [← HY.out] at HV
        go_wp2_with fail
        go_ret2
        rw [HV.out]
        exact ⟨rfl, H.out.to⟩
  · have HV : Hid (catPutV ⟨⟨ds.map Dm.con, ms⟩, fa, p0, q0, p1, q1, p2, q2⟩ = ([], catErr ⟨⟨ds.map Dm.con, ms⟩, fa, p0, q0, p1, q1, p2, q2⟩)) := by show _ = _; unfold catPutV; rw [if_neg hE]
    have dE : (catErr ⟨⟨ds.map Dm.con, ms⟩, fa, p0, q0, p1, q1, p2, q2⟩ == 0) = false := by simpa using hE
    generalize catErr ⟨⟨ds.map Dm.con, ms⟩, fa, p0, q0, p1, q1, p2, q2⟩ = E at *
    clear HP
    go_wp2_with fail
    go_ret2
    rw [HV.out]
    exact ⟨rfl, H.out.to⟩

end Go.Proofs.Ytnekknemjhlgdaa

namespace Go.Proofs.Ytnekknemjhlgdaa
open Go.RowKit
set_option linter.unusedVariables false
set_option linter.unusedSimpArgs false


set_option maxRecDepth 100000 in
set_option maxHeartbeats 2000000 in
theorem rcatput_any (s : Ct) (w : World) (hs : s.rd w) (hE : catErr s.con = 0) :
    Calls Try.prog 24 #[.agg s.cs] w fun e w' => e = .returned (.string ⟨(catPut s.con).toArray⟩) ∧ Bel w w' := by
  obtain ⟨g1, g2, g3⟩ := catErr_zero hE
  have HP := Lib.hid (fun w' (hb : Bel w w') => rschput_any s.sc w' (hs.sc.mono hb) g1)
  have HI : Hid (I64 s.p0 ∧ I64 s.q0 ∧ I64 s.p1 ∧ I64 s.q1 ∧ I64 s.p2 ∧ I64 s.q2) := ⟨hs.p0, hs.q0, hs.p1, hs.q1, hs.p2, hs.q2⟩
  have hml : Hid (s.sc.ms.l.length = s.sc.ms.n) := hs.sc.ms.len
  have H := Lib.hid ((SL.start No w).alloc s.cs 30)
  (try simp only [List.set_cons_zero, List.set_cons_succ, List.cons_append, List.nil_append, List.eraseIdx_cons_zero, List.eraseIdx_cons_succ, List.setIfInBounds_toArray, World.size_alloc, selR, List.getD_cons_zero, List.getD_cons_succ] at H)
  obtain ⟨⟨⟨A, n, c, ds⟩, ⟨MA, mn, mc, ms⟩⟩, fa, p0, q0, p1, q1, p2, q2⟩ := s
  simp only [Ct.cs, Sch.cs, Ct.con, Sch.con] at *
  have hm3 : mn ≤ 3 := by have h : ms.length ≤ 3 := (schErr_zero g1).2.2.2.2.1; have := hml.out; omega
  have HV : Hid (catPut ⟨⟨ds.map Dm.con, ms⟩, fa, p0, q0, p1, q1, p2, q2⟩ = schPut ⟨ds.map Dm.con, ms⟩ ++ nput fa.toNat ++ ((tots ⟨⟨ds.map Dm.con, ms⟩, fa, p0, q0, p1, q1, p2, q2⟩).take mn).flatMap totPut) := by show _ = _; rw [← hml.out]; rfl
  have hX : (schPut (⟨ds.map Dm.con, ms⟩ : SC)).length ≤ 900000 := schPut_len g1
  clear hs hE g1
  generalize catPut ⟨⟨ds.map Dm.con, ms⟩, fa, p0, q0, p1, q1, p2, q2⟩ = R at *
  generalize schPut (⟨ds.map Dm.con, ms⟩ : SC) = X at *
  have hF := nput_le9 fa.toNat
  go_enter Try.func24, Try.ntmps24
  go_upto_region 1 with fail
  generalize w.heap.size = x at *
  generalize World.alloc _ _ = w1 at *
  have ct2 := (H.out.blk 0 rfl).cell 2; simp only [List.getElem?_toArray, List.getElem?_cons_zero, List.getElem?_cons_succ] at ct2
  have f_ct2 := fun u : Over w1 => Over.cell ct2 u
  refine wp_region_over (by kernel_rfl) (by kernel_rfl) ?_
  (try simp only [Act.put, List.setIfInBounds_toArray, List.set_cons_zero, List.set_cons_succ])
  repeat (first
    | ((with_reducible show wpQuiet _ _ _ _ (⟨some 6, _, _, _, _, _⟩ :: _) _); refine wpQuiet_load_row (by first | rfl | go_simp) rowSch (.tmp 5) rfl x (0) rfl #[.slice A n c, .slice MA mn mc] rfl (H.out.blk 0 rfl).lt ((H.out.blk 0 rfl).part 0 _ rfl) ?_; simp only [Act.put, List.setIfInBounds_toArray, List.set_cons_zero, List.set_cons_succ])
    | go_big_quiet_step ((first | (go_at_call 92; rename_i u; exact calls_over (HP.out _ (H.out.to.trans u.bel))) | (go_at_call 93; rename_i u; exact calls_over (rputNum_any fa _ (by omega) (by omega))))))
  refine wpQuiet_nil ?_
  rintro w5 ⟨⟨_, hw5⟩, rfl⟩
  (try dsimp only)
  replace H := Lib.hid (H.out.bel hw5); (try simp only [List.set_cons_zero, List.set_cons_succ, List.cons_append, List.nil_append, List.eraseIdx_cons_zero, List.eraseIdx_cons_succ, List.setIfInBounds_toArray, World.size_alloc, selR, List.getD_cons_zero, List.getD_cons_succ] at H)
  clear f_ct2 ct2
  rw [str_append]
  have c1 := (H.out.blk 0 rfl).cell 1; simp only [List.getElem?_toArray, List.getElem?_cons_zero, List.getElem?_cons_succ] at c1
  go_wp2_with fail
  clear c1 HP
  have hY : (X ++ nput fa.toNat).length ≤ 900010 := by rw [List.length_append]; omega
  clear hF hX
  generalize X ++ nput fa.toNat = Y at *
  have HY : Hid (Y = Y ++ ((tots ⟨⟨ds.map Dm.con, ms⟩, fa, p0, q0, p1, q1, p2, q2⟩).take 0).flatMap totPut) := by show _ = _; simp
  go_loopg [3, 16] mn (fun gg v i wr => ∃ (k : Nat) (l : List UInt8), gg = mn - k ∧ k ≤ mn ∧ v = .string ⟨l.toArray⟩ ∧ i = .int .i64 k ∧ l.length ≤ 900010 + 20 * k ∧ Hid (l = Y ++ ((tots ⟨⟨ds.map Dm.con, ms⟩, fa, p0, q0, p1, q1, p2, q2⟩).take k).flatMap totPut) ∧ Hid (SL No w wr [rBlk x 30 #[.slice A n c, .slice MA mn mc, .int .i64 fa, .int .i64 p0, .int .i64 q0, .int .i64 p1, .int .i64 q1, .int .i64 p2, .int .i64 q2]]))
  case atStart => exact ⟨0, Y, rfl, by omega, rfl, rfl, by omega, HY, H⟩
  case round =>
    clear H HY hY
    obtain ⟨k, l, hgk, hk, rfl, rfl, hl, HY, H⟩ := hrel
    have Hgk := Lib.hid hgk
    clear hgk
    by_cases hlt : k < mn
    · have j1 : (k : Int) < mn := by omega
      obtain rfl | rfl | rfl : k = 0 ∨ k = 1 ∨ k = 2 := by omega
      · rw [show ((0 : Nat) : Int) = 0 from rfl] at j1 ⊢
        have la := nput_le9 (nfold p0)
        have lb := nput_le9 (nfold q0)
        have HN : Hid (l ++ nput (nfold p0) ++ nput (nfold q0) = Y ++ ((tots ⟨⟨ds.map Dm.con, ms⟩, fa, p0, q0, p1, q1, p2, q2⟩).take (0 + 1)).flatMap totPut) := by show _ = _; rw [HY.out]; simp [tots, totPut]
        go_upto_region 5 with fail
        (try simp only [Act.put, List.setIfInBounds_toArray, List.set_cons_zero, List.set_cons_succ])
        have ct0 := (H.out.blk 0 rfl).cell 3; simp only [List.getElem?_toArray, List.getElem?_cons_zero, List.getElem?_cons_succ] at ct0
        have ct1 := (H.out.blk 0 rfl).cell 4; simp only [List.getElem?_toArray, List.getElem?_cons_zero, List.getElem?_cons_succ] at ct1
        have f_ct0 := fun u : Over wr => Over.cell ct0 u
        have f_ct1 := fun u : Over wr => Over.cell ct1 u
        refine wp_region_over (by kernel_rfl) (by kernel_rfl) ?_
        (try simp only [Act.put, List.setIfInBounds_toArray, List.set_cons_zero, List.set_cons_succ])
        repeat (go_big_quiet_step ((first | (go_at_call 94; rename_i u; exact calls_over (rputInt_any p0 _ HI.out.1.1 HI.out.1.2)) | (go_at_call 94; rename_i u; exact calls_over (rputInt_any q0 _ HI.out.2.1.1 HI.out.2.1.2)))))
        refine wpQuiet_nil ?_
        rintro w5 ⟨⟨_, hw5⟩, rfl⟩
        (try dsimp only)
        replace H := Lib.hid (H.out.bel hw5); (try simp only [List.set_cons_zero, List.set_cons_succ, List.cons_append, List.nil_append, List.eraseIdx_cons_zero, List.eraseIdx_cons_succ, List.setIfInBounds_toArray, World.size_alloc, selR, List.getD_cons_zero, List.getD_cons_succ] at H)
        clear f_ct0 f_ct1 ct0 ct1
        rw [str_append, str_append]
        go_wp2_with fail
        go_roundg (mn - (0 + 1))
        case rel => exact ⟨0 + 1, _, rfl, by omega, rfl, rfl, by simp only [List.length_append]; omega, HN, H⟩
        case measure => rw [Hgk.out]; omega
      · rw [show ((1 : Nat) : Int) = 1 from rfl] at j1 ⊢
        have la := nput_le9 (nfold p1)
        have lb := nput_le9 (nfold q1)
        have HN : Hid (l ++ nput (nfold p1) ++ nput (nfold q1) = Y ++ ((tots ⟨⟨ds.map Dm.con, ms⟩, fa, p0, q0, p1, q1, p2, q2⟩).take (1 + 1)).flatMap totPut) := by show _ = _; rw [HY.out]; simp [tots, totPut]
        go_upto_region 5 with fail
        (try simp only [Act.put, List.setIfInBounds_toArray, List.set_cons_zero, List.set_cons_succ])
        have ct0 := (H.out.blk 0 rfl).cell 5; simp only [List.getElem?_toArray, List.getElem?_cons_zero, List.getElem?_cons_succ] at ct0
        have ct1 := (H.out.blk 0 rfl).cell 6; simp only [List.getElem?_toArray, List.getElem?_cons_zero, List.getElem?_cons_succ] at ct1
        have f_ct0 := fun u : Over wr => Over.cell ct0 u
        have f_ct1 := fun u : Over wr => Over.cell ct1 u
        refine wp_region_over (by kernel_rfl) (by kernel_rfl) ?_
        (try simp only [Act.put, List.setIfInBounds_toArray, List.set_cons_zero, List.set_cons_succ])
        repeat (go_big_quiet_step ((first | (go_at_call 94; rename_i u; exact calls_over (rputInt_any p1 _ HI.out.2.2.1.1 HI.out.2.2.1.2)) | (go_at_call 94; rename_i u; exact calls_over (rputInt_any q1 _ HI.out.2.2.2.1.1 HI.out.2.2.2.1.2)))))
        refine wpQuiet_nil ?_
        rintro w5 ⟨⟨_, hw5⟩, rfl⟩
        (try dsimp only)
        replace H := Lib.hid (H.out.bel hw5); (try simp only [List.set_cons_zero, List.set_cons_succ, List.cons_append, List.nil_append, List.eraseIdx_cons_zero, List.eraseIdx_cons_succ, List.setIfInBounds_toArray, World.size_alloc, selR, List.getD_cons_zero, List.getD_cons_succ] at H)
        clear f_ct0 f_ct1 ct0 ct1
        rw [str_append, str_append]
        go_wp2_with fail
        go_roundg (mn - (1 + 1))
        case rel => exact ⟨1 + 1, _, rfl, by omega, rfl, rfl, by simp only [List.length_append]; omega, HN, H⟩
        case measure => rw [Hgk.out]; omega
      · rw [show ((2 : Nat) : Int) = 2 from rfl] at j1 ⊢
        have la := nput_le9 (nfold p2)
        have lb := nput_le9 (nfold q2)
        have HN : Hid (l ++ nput (nfold p2) ++ nput (nfold q2) = Y ++ ((tots ⟨⟨ds.map Dm.con, ms⟩, fa, p0, q0, p1, q1, p2, q2⟩).take (2 + 1)).flatMap totPut) := by show _ = _; rw [HY.out]; simp [tots, totPut]
        go_upto_region 5 with fail
        (try simp only [Act.put, List.setIfInBounds_toArray, List.set_cons_zero, List.set_cons_succ])
        have ct0 := (H.out.blk 0 rfl).cell 7; simp only [List.getElem?_toArray, List.getElem?_cons_zero, List.getElem?_cons_succ] at ct0
        have ct1 := (H.out.blk 0 rfl).cell 8; simp only [List.getElem?_toArray, List.getElem?_cons_zero, List.getElem?_cons_succ] at ct1
        have f_ct0 := fun u : Over wr => Over.cell ct0 u
        have f_ct1 := fun u : Over wr => Over.cell ct1 u
        refine wp_region_over (by kernel_rfl) (by kernel_rfl) ?_
        (try simp only [Act.put, List.setIfInBounds_toArray, List.set_cons_zero, List.set_cons_succ])
        repeat (go_big_quiet_step ((first | (go_at_call 94; rename_i u; exact calls_over (rputInt_any p2 _ HI.out.2.2.2.2.1.1 HI.out.2.2.2.2.1.2)) | (go_at_call 94; rename_i u; exact calls_over (rputInt_any q2 _ HI.out.2.2.2.2.2.1 HI.out.2.2.2.2.2.2)))))
        refine wpQuiet_nil ?_
        rintro w5 ⟨⟨_, hw5⟩, rfl⟩
        (try dsimp only)
        replace H := Lib.hid (H.out.bel hw5); (try simp only [List.set_cons_zero, List.set_cons_succ, List.cons_append, List.nil_append, List.eraseIdx_cons_zero, List.eraseIdx_cons_succ, List.setIfInBounds_toArray, World.size_alloc, selR, List.getD_cons_zero, List.getD_cons_succ] at H)
        clear f_ct0 f_ct1 ct0 ct1
        rw [str_append, str_append]
        go_wp2_with fail
        go_roundg (mn - (2 + 1))
        case rel => exact ⟨2 + 1, _, rfl, by omega, rfl, rfl, by simp only [List.length_append]; omega, HN, H⟩
        case measure => rw [Hgk.out]; omega
    · obtain rfl : k = mn := by omega
      rw [← HY.out] at HV
      go_wp2_with fail
      go_ret
      rw [HV.out]
      exact ⟨rfl, H.out.to⟩

end Go.Proofs.Ytnekknemjhlgdaa

namespace Go.Proofs.Ytnekknemjhlgdaa
open Go.RowKit
set_option linter.unusedVariables false
set_option linter.unusedSimpArgs false


/-- All totals are numbers of int64. -/
def okC (c : CC) : Prop := I64 c.p0 ∧ I64 c.q0 ∧ I64 c.p1 ∧ I64 c.q1 ∧ I64 c.p2 ∧ I64 c.q2
instance (c : CC) : Decidable (okC c) := by unfold okC; infer_instance
/-- The catalog behind values more, as if numbers had no end. -/
def addV (c : CC) (a b z : Int) : CC := ⟨c.sc, c.fa, c.p0 + max a 0, c.q0 + min a 0, c.p1 + max b 0, c.q1 + min b 0, c.p2 + max z 0, c.q2 + min z 0⟩
def addR (c : CC) (r : List Int) : CC := addV c (r.getD 0 0) (r.getD 1 0) (r.getD 2 0)
theorem egrow_val {p q v : Int} (hp : I64 p) (hq : I64 q) : ((egrow p q v).2 = true ↔ I64 (p + max v 0) ∧ I64 (q + min v 0)) ∧ ((egrow p q v).2 = true → (egrow p q v).1 = (p + max v 0, q + min v 0)) := by
  unfold egrow xadd xfit
  by_cases h : v < 0
  · rw [if_pos h, show max v 0 = 0 by omega, show min v 0 = v by omega, Int.add_zero]
    by_cases hf : I64 (q + v)
    · rw [if_pos hf]
      exact ⟨⟨fun _ => ⟨hp, hf⟩, fun _ => rfl⟩, fun _ => rfl⟩
    · rw [if_neg hf]
      exact ⟨⟨fun h => (by cases h), fun h => absurd h.2 hf⟩, fun h => by cases h⟩
  · rw [if_neg h, show max v 0 = v by omega, show min v 0 = 0 by omega, Int.add_zero]
    by_cases hf : I64 (p + v)
    · rw [if_pos hf]
      exact ⟨⟨fun _ => ⟨hf, hq⟩, fun _ => rfl⟩, fun _ => rfl⟩
    · rw [if_neg hf]
      exact ⟨⟨fun h => (by cases h), fun h => absurd h.1 hf⟩, fun h => by cases h⟩
theorem egrow_0 {p q v : Int} (hp : I64 p) (hq : I64 q) : egrow p q v = ((p + max v 0, q + min v 0), true) ∧ I64 (p + max v 0) ∧ I64 (q + min v 0) ∨ (egrow p q v).2 = false ∧ ¬ (I64 (p + max v 0) ∧ I64 (q + min v 0)) := by
  obtain ⟨h1, h2⟩ := egrow_val (v := v) hp hq
  cases hb : (egrow p q v).2
  · right
    exact ⟨rfl, fun h => by have := h1.2 h; rw [hb] at this; cases this⟩
  · left
    have h3 := h1.1 hb
    exact ⟨Prod.ext (h2 hb) hb, h3.1, h3.2⟩
theorem add0 (x : Int) : x + max 0 0 = x := by omega
theorem add0' (x : Int) : x + min 0 0 = x := by omega
/-- A row of as many values as there are measures. -/
theorem crow_val {c : CC} (hc : okC c) {r : List Int} (h3 : r.length ≤ 3) : crow c 0 r = if okC (addR c r) then some (addR c r) else none := by
  obtain ⟨h0, g0, h1, g1, h2, g2⟩ := hc
  match r, h3 with
  | [], _ =>
    rw [crow, if_pos (show okC (addR c []) by unfold addR addV okC; simp only [List.getD_nil, add0, add0']; exact ⟨h0, g0, h1, g1, h2, g2⟩)]
    unfold addR addV
    simp only [List.getD_nil, add0, add0']
  | [a], _ =>
    have e : addR c [a] = ⟨c.sc, c.fa, c.p0 + max a 0, c.q0 + min a 0, c.p1, c.q1, c.p2, c.q2⟩ := by unfold addR addV; simp [add0, add0']
    rw [crow, crow, e]
    unfold cupd
    rw [if_pos rfl]
    rcases egrow_0 (v := a) h0 g0 with ⟨h, i1, i2⟩ | ⟨h, hn⟩
    · rw [if_pos (show okC ⟨_, _, _, _, _, _, _, _⟩ from ⟨i1, i2, h1, g1, h2, g2⟩)]
      simp only [h, if_true]
    · rw [if_neg (show ¬ okC ⟨_, _, _, _, _, _, _, _⟩ from fun hk => hn ⟨hk.1, hk.2.1⟩)]
      simp only [h]
      rfl
  | [a, b], _ =>
    have e : addR c [a, b] = ⟨c.sc, c.fa, c.p0 + max a 0, c.q0 + min a 0, c.p1 + max b 0, c.q1 + min b 0, c.p2, c.q2⟩ := by unfold addR addV; simp [add0, add0']
    rw [crow, crow, crow, e]
    unfold cupd
    simp only [if_true, Nat.zero_add, Nat.one_ne_zero, if_false]
    rcases egrow_0 (v := a) h0 g0 with ⟨h, i1, i2⟩ | ⟨h, hn⟩
    · rcases egrow_0 (v := b) h1 g1 with ⟨h', j1, j2⟩ | ⟨h', hn'⟩
      · rw [if_pos (show okC ⟨_, _, _, _, _, _, _, _⟩ from ⟨i1, i2, j1, j2, h2, g2⟩)]
        simp only [h, h', if_true]
      · rw [if_neg (show ¬ okC ⟨_, _, _, _, _, _, _, _⟩ from fun hk => hn' ⟨hk.2.2.1, hk.2.2.2.1⟩)]
        simp only [h, h', if_true]
        rfl
    · rw [if_neg (show ¬ okC ⟨_, _, _, _, _, _, _, _⟩ from fun hk => hn ⟨hk.1, hk.2.1⟩)]
      simp only [h]
      rfl
  | [a, b, z], _ =>
    rw [crow, crow, crow, crow, show addR c [a, b, z] = addV c a b z from rfl]
    unfold cupd addV
    simp only [if_true, Nat.zero_add, Nat.one_ne_zero, if_false]
    rcases egrow_0 (v := a) h0 g0 with ⟨h, i1, i2⟩ | ⟨h, hn⟩
    · rcases egrow_0 (v := b) h1 g1 with ⟨h', j1, j2⟩ | ⟨h', hn'⟩
      · rcases egrow_0 (v := z) h2 g2 with ⟨h'', k1, k2⟩ | ⟨h'', hn''⟩
        · rw [if_pos (show okC ⟨_, _, _, _, _, _, _, _⟩ from ⟨i1, i2, j1, j2, k1, k2⟩)]
          simp [h, h', h'']
        · rw [if_neg (show ¬ okC ⟨_, _, _, _, _, _, _, _⟩ from fun hk => hn'' ⟨hk.2.2.2.2.1, hk.2.2.2.2.2⟩)]
          simp [h, h', h'']
      · rw [if_neg (show ¬ okC ⟨_, _, _, _, _, _, _, _⟩ from fun hk => hn' ⟨hk.2.2.1, hk.2.2.2.1⟩)]
        simp [h, h']
    · rw [if_neg (show ¬ okC ⟨_, _, _, _, _, _, _, _⟩ from fun hk => hn ⟨hk.1, hk.2.1⟩)]
      simp [h]
def addRs (c : CC) (l : List (List Int)) : CC := l.foldl addR c
theorem addR_le (c : CC) (r : List Int) : (addR c r).sc = c.sc ∧ (addR c r).fa = c.fa ∧ c.p0 ≤ (addR c r).p0 ∧ (addR c r).q0 ≤ c.q0 ∧ c.p1 ≤ (addR c r).p1 ∧ (addR c r).q1 ≤ c.q1 ∧ c.p2 ≤ (addR c r).p2 ∧ (addR c r).q2 ≤ c.q2 := by
  unfold addR addV
  exact ⟨rfl, rfl, by simp only; omega, by simp only; omega, by simp only; omega, by simp only; omega, by simp only; omega, by simp only; omega⟩
theorem addRs_le (l : List (List Int)) : ∀ c : CC, (addRs c l).sc = c.sc ∧ (addRs c l).fa = c.fa ∧ c.p0 ≤ (addRs c l).p0 ∧ (addRs c l).q0 ≤ c.q0 ∧ c.p1 ≤ (addRs c l).p1 ∧ (addRs c l).q1 ≤ c.q1 ∧ c.p2 ≤ (addRs c l).p2 ∧ (addRs c l).q2 ≤ c.q2 := by
  induction l with
  | nil => intro c; exact ⟨rfl, rfl, Int.le_refl _, Int.le_refl _, Int.le_refl _, Int.le_refl _, Int.le_refl _, Int.le_refl _⟩
  | cons r l ih =>
    intro c
    have h1 := addR_le c r
    have h2 := ih (addR c r)
    have e : addRs c (r :: l) = addRs (addR c r) l := rfl
    rw [e]
    exact ⟨h2.1.trans h1.1, h2.2.1.trans h1.2.1, by omega, by omega, by omega, by omega, by omega, by omega⟩
theorem okC_back {c d : CC} (hc : okC c) (h : c.p0 ≤ d.p0 ∧ d.q0 ≤ c.q0 ∧ c.p1 ≤ d.p1 ∧ d.q1 ≤ c.q1 ∧ c.p2 ≤ d.p2 ∧ d.q2 ≤ c.q2) {e : CC} (he : okC e) (h2 : d.p0 ≤ e.p0 ∧ e.q0 ≤ d.q0 ∧ d.p1 ≤ e.p1 ∧ e.q1 ≤ d.q1 ∧ d.p2 ≤ e.p2 ∧ e.q2 ≤ d.q2) : okC d := by
  unfold okC I64 at *
  omega
/-- Do rows fit? -/
def fitR (m : Nat) (c : CC) (l : List (List Int)) : Prop := (∀ r ∈ l, r.length = m) ∧ okC (addRs c l)
theorem crows_val {m : Nat} (hm : m ≤ 3) (l : List (List Int)) : ∀ c : CC, okC c → (fitR m c l → crows m c l = (addRs c l, 0)) ∧ (¬ fitR m c l → (crows m c l).2 ≠ 0) := by
  induction l with
  | nil =>
    intro c hc
    exact ⟨fun _ => rfl, fun h => absurd ⟨fun r hr => (by cases hr), hc⟩ h⟩
  | cons r l ih =>
    intro c hc
    have e : addRs c (r :: l) = addRs (addR c r) l := rfl
    by_cases hr : r.length = m
    · have hv := crow_val (c := c) hc (r := r) (by omega)
      by_cases hk : okC (addR c r)
      · rw [if_pos hk] at hv
        rw [crows_ok hr hv]
        have ih' := ih _ hk
        have hiff : fitR m c (r :: l) ↔ fitR m (addR c r) l := by
          unfold fitR
          rw [e]
          exact ⟨fun h => ⟨fun x hx => h.1 x (List.mem_cons_of_mem _ hx), h.2⟩, fun h => ⟨fun x hx => by rcases List.mem_cons.1 hx with rfl | hx; exact hr; exact h.1 x hx, h.2⟩⟩
        rw [hiff, e]
        exact ih'
      · rw [if_neg hk] at hv
        rw [crows_over hr hv]
        refine ⟨fun h => ?_, fun _ => by decide⟩
        have h1 := (addR_le c r).2.2
        have h2 := (addRs_le l (addR c r)).2.2
        exact absurd (okC_back hc h1 (e ▸ h.2) h2) hk
    · rw [crows_bad hr]
      exact ⟨fun h => absurd (h.1 r List.mem_cons_self) hr, fun _ => by decide⟩
theorem addR_comm (c : CC) (r s : List Int) : addR (addR c r) s = addR (addR c s) r := by
  unfold addR addV
  ext <;> simp only <;> first | rfl | omega
theorem addRs_perm {l l' : List (List Int)} (h : l.Perm l') (c : CC) : addRs c l = addRs c l' := h.foldl_eq' (fun x _ y _ z => addR_comm z x y) c
theorem addRs_app (c : CC) (l l' : List (List Int)) : addRs c (l ++ l') = addRs (addRs c l) l' := List.foldl_append ..
/-- May this catalog grow by these rows? -/
def goodG (c : CC) (l : List (List Int)) : Prop := c.fa + l.length ≤ 4000 ∧ fitR c.sc.ms.length c l
def finG (c : CC) (l : List (List Int)) : CC := ⟨c.sc, c.fa + l.length, (addRs c l).p0, (addRs c l).q0, (addRs c l).p1, (addRs c l).q1, (addRs c l).p2, (addRs c l).q2⟩
theorem catGrow_val {c : CC} (hE : catErr c = 0) (hc : okC c) (l : List (List Int)) : (goodG c l → catGrow c l = (finG c l, 0)) ∧ (¬ goodG c l → (catGrow c l).2 ≠ 0) := by
  have hm := (schErr_zero (catErr_zero hE).1).2.2.2.2.1
  obtain ⟨v1, v2⟩ := crows_val hm l c hc
  unfold catGrow
  rw [if_neg (by simp [hE])]
  by_cases h4 : 4000 < c.fa + l.length
  · rw [if_pos h4]
    exact ⟨fun h => absurd h.1 (by omega), fun _ => by decide⟩
  · rw [if_neg h4]
    refine ⟨fun h => ?_, fun h => ?_⟩
    · rw [v1 h.2]
      have hl := addRs_le l c
      unfold cfin finG
      rw [if_pos rfl]
      simp only [hl.1, hl.2.1]
    · have hn := v2 (fun hf => h ⟨by omega, hf⟩)
      unfold cfin
      rw [if_neg hn]
      exact hn
theorem goodG_perm {l l' : List (List Int)} (h : l.Perm l') (c : CC) : goodG c l ↔ goodG c l' := by
  unfold goodG fitR
  rw [addRs_perm h c, h.length_eq]
  exact ⟨fun ⟨a, b, d⟩ => ⟨a, fun r hr => b r (h.mem_iff.2 hr), d⟩, fun ⟨a, b, d⟩ => ⟨a, fun r hr => b r (h.mem_iff.1 hr), d⟩⟩
theorem finG_perm {l l' : List (List Int)} (h : l.Perm l') (c : CC) : finG c l = finG c l' := by
  unfold finG
  rw [addRs_perm h c, h.length_eq]
theorem catGrow_perm {c : CC} (hE : catErr c = 0) (hc : okC c) {l l' : List (List Int)} (h : l.Perm l') : ((catGrow c l).2 = 0 ↔ (catGrow c l').2 = 0) ∧ ((catGrow c l).2 = 0 → catGrow c l = catGrow c l') := by
  obtain ⟨a1, a2⟩ := catGrow_val hE hc l
  obtain ⟨b1, b2⟩ := catGrow_val hE hc l'
  by_cases hg : goodG c l
  · rw [a1 hg, b1 ((goodG_perm h c).1 hg), finG_perm h c]
    exact ⟨Iff.rfl, fun _ => rfl⟩
  · have n1 := a2 hg
    have n2 := b2 (fun h' => hg ((goodG_perm h c).2 h'))
    exact ⟨⟨fun h => absurd h n1, fun h => absurd h n2⟩, fun h => absurd h n1⟩
/-- A catalog that may be, grown, may be. -/
theorem badTot_false {m i p q : Int} (h : badTot m i p q = false) : 0 ≤ p ∧ q ≤ 0 ∧ (m ≤ i → p = 0 ∧ q = 0) := by
  unfold badTot at h
  simp at h
  refine ⟨h.1.1, h.1.2, fun hm => ?_⟩
  have := h.2 hm
  exact this
theorem badTot_of {m i p q : Int} (h0 : 0 ≤ p) (h1 : q ≤ 0) (h : m ≤ i → p = 0 ∧ q = 0) : badTot m i p q = false := by
  unfold badTot
  by_cases hm : m ≤ i
  · obtain ⟨rfl, rfl⟩ := h hm
    simp
  · simp [h0, h1, hm]
theorem catErr_parts {c : CC} : catErr c = 0 ↔ schErr c.sc = 0 ∧ 0 ≤ c.fa ∧ c.fa ≤ 4000 ∧ badTot c.sc.ms.length 0 c.p0 c.q0 = false ∧ badTot c.sc.ms.length 1 c.p1 c.q1 = false ∧ badTot c.sc.ms.length 2 c.p2 c.q2 = false := by
  constructor
  · intro h
    obtain ⟨a, b, d⟩ := catErr_zero h
    unfold catErr at h
    rw [if_neg (by simp [a]), if_neg (by omega)] at h
    cases h0 : badTot c.sc.ms.length 0 c.p0 c.q0 <;> rw [h0] at h
    · cases h1 : badTot c.sc.ms.length 1 c.p1 c.q1 <;> rw [h1] at h
      · cases h2 : badTot c.sc.ms.length 2 c.p2 c.q2 <;> rw [h2] at h
        · exact ⟨a, b, d, rfl, rfl, rfl⟩
        · simp at h
      · simp at h
    · simp at h
  · rintro ⟨a, b, d, h0, h1, h2⟩
    unfold catErr
    rw [if_neg (by simp [a]), if_neg (by omega), h0, h1, h2]
    rfl
theorem getD_out {r : List Int} {i : Nat} (h : r.length ≤ i) : r.getD i 0 = 0 := by simp [List.getD, List.getElem?_eq_none h]
theorem addRs_out (l : List (List Int)) {m : Nat} : ∀ c : CC, (∀ r ∈ l, r.length = m) → (m ≤ 0 → (addRs c l).p0 = c.p0 ∧ (addRs c l).q0 = c.q0) ∧ (m ≤ 1 → (addRs c l).p1 = c.p1 ∧ (addRs c l).q1 = c.q1) ∧ (m ≤ 2 → (addRs c l).p2 = c.p2 ∧ (addRs c l).q2 = c.q2) := by
  induction l with
  | nil => intro c _; exact ⟨fun _ => ⟨rfl, rfl⟩, fun _ => ⟨rfl, rfl⟩, fun _ => ⟨rfl, rfl⟩⟩
  | cons r l ih =>
    intro c h
    have hr := h r List.mem_cons_self
    obtain ⟨i0, i1, i2⟩ := ih (addR c r) (fun x hx => h x (List.mem_cons_of_mem _ hx))
    have e : addRs c (r :: l) = addRs (addR c r) l := rfl
    rw [e]
    refine ⟨fun hm => ?_, fun hm => ?_, fun hm => ?_⟩
    · rw [(i0 hm).1, (i0 hm).2]
      unfold addR addV
      rw [getD_out (r := r) (i := 0) (by omega)]
      exact ⟨add0 _, add0' _⟩
    · rw [(i1 hm).1, (i1 hm).2]
      unfold addR addV
      rw [getD_out (r := r) (i := 1) (by omega)]
      exact ⟨add0 _, add0' _⟩
    · rw [(i2 hm).1, (i2 hm).2]
      unfold addR addV
      rw [getD_out (r := r) (i := 2) (by omega)]
      exact ⟨add0 _, add0' _⟩
theorem finG_err {c : CC} (hE : catErr c = 0) {l : List (List Int)} (hg : goodG c l) : catErr (finG c l) = 0 := by
  obtain ⟨a, b, d, h0, h1, h2⟩ := catErr_parts.1 hE
  have hl := (addRs_le l c).2.2
  obtain ⟨o0, o1, o2⟩ := addRs_out l c hg.2.1
  have hf := hg.1
  refine catErr_parts.2 ⟨a, ?_, ?_, ?_, ?_, ?_⟩
  · show 0 ≤ c.fa + (l.length : Int); omega
  · show c.fa + (l.length : Int) ≤ 4000; omega
  · obtain ⟨x, y, z⟩ := badTot_false h0
    exact badTot_of (by show 0 ≤ (addRs c l).p0; omega) (by show (addRs c l).q0 ≤ 0; omega) (fun hm => by show (addRs c l).p0 = 0 ∧ (addRs c l).q0 = 0; have := o0 (by simp only [finG] at hm; omega); have := z hm; omega)
  · obtain ⟨x, y, z⟩ := badTot_false h1
    exact badTot_of (by show 0 ≤ (addRs c l).p1; omega) (by show (addRs c l).q1 ≤ 0; omega) (fun hm => by show (addRs c l).p1 = 0 ∧ (addRs c l).q1 = 0; have := o1 (by simp only [finG] at hm; omega); have := z hm; omega)
  · obtain ⟨x, y, z⟩ := badTot_false h2
    exact badTot_of (by show 0 ≤ (addRs c l).p2; omega) (by show (addRs c l).q2 ≤ 0; omega) (fun hm => by show (addRs c l).p2 = 0 ∧ (addRs c l).q2 = 0; have := o2 (by simp only [finG] at hm; omega); have := z hm; omega)
theorem addRs_con {c d : CC} (l : List (List Int)) (h : d.p0 = c.p0 ∧ d.q0 = c.q0 ∧ d.p1 = c.p1 ∧ d.q1 = c.q1 ∧ d.p2 = c.p2 ∧ d.q2 = c.q2) : (addRs d l).p0 = (addRs c l).p0 ∧ (addRs d l).q0 = (addRs c l).q0 ∧ (addRs d l).p1 = (addRs c l).p1 ∧ (addRs d l).q1 = (addRs c l).q1 ∧ (addRs d l).p2 = (addRs c l).p2 ∧ (addRs d l).q2 = (addRs c l).q2 := by
  induction l generalizing c d with
  | nil => exact h
  | cons r l ih =>
    refine ih (c := addR c r) (d := addR d r) ?_
    obtain ⟨a, b, e, f, g, k⟩ := h
    unfold addR addV
    simp only [a, b, e, f, g, k, and_self]
/-- In two groups, in whichever order: the same. -/
theorem catGrow_two {c : CC} (hE : catErr c = 0) (hc : okC c) (l1 l2 : List (List Int)) :
    ((catGrow c (l1 ++ l2)).2 = 0 ↔ (catGrow c l2).2 = 0 ∧ (catGrow (catGrow c l2).1 l1).2 = 0) ∧ ((catGrow c (l1 ++ l2)).2 = 0 → catGrow (catGrow c l2).1 l1 = catGrow c (l1 ++ l2)) := by
  have hp : (l1 ++ l2).Perm (l2 ++ l1) := List.perm_append_comm
  obtain ⟨p1, p2⟩ := catGrow_perm hE hc hp
  obtain ⟨a1, a2⟩ := catGrow_val hE hc (l2 ++ l1)
  obtain ⟨b1, b2⟩ := catGrow_val hE hc l2
  by_cases hg : goodG c l2
  · have hE2 := finG_err hE hg
    have hk2 : okC (finG c l2) := hg.2.2
    obtain ⟨d1, d2⟩ := catGrow_val hE2 hk2 l1
    have hcon : okC (addRs (finG c l2) l1) ↔ okC (addRs c (l2 ++ l1)) := by
      rw [addRs_app]
      obtain ⟨a, b, e, f, g, k⟩ := addRs_con (c := addRs c l2) (d := finG c l2) l1 ⟨rfl, rfl, rfl, rfl, rfl, rfl⟩
      unfold okC
      rw [a, b, e, f, g, k]
    have hiff : goodG (finG c l2) l1 ↔ goodG c (l2 ++ l1) := by
      have hf := hg.1
      constructor
      · rintro ⟨x, y, z⟩
        refine ⟨?_, fun r hr => ?_, hcon.1 z⟩
        · have : (finG c l2).fa = c.fa + l2.length := rfl
          rw [List.length_append]; omega
        · rcases List.mem_append.1 hr with h | h
          · exact hg.2.1 r h
          · exact y r h
      · rintro ⟨x, y, z⟩
        refine ⟨?_, fun r hr => y r (List.mem_append_right _ hr), hcon.2 z⟩
        have : (finG c l2).fa = c.fa + l2.length := rfl
        rw [List.length_append] at x; omega
    rw [b1 hg]
    by_cases hg2 : goodG c (l2 ++ l1)
    · have hfin : finG (finG c l2) l1 = finG c (l2 ++ l1) := by
        obtain ⟨a, b, e, f, g, k⟩ := addRs_con (c := addRs c l2) (d := finG c l2) l1 ⟨rfl, rfl, rfl, rfl, rfl, rfl⟩
        rw [← addRs_app] at a b e f g k
        have hfa : (finG c l2).fa + (l1.length : Int) = c.fa + ((l2 ++ l1).length : Int) := by
          have : (finG c l2).fa = c.fa + l2.length := rfl
          rw [List.length_append]; omega
        unfold finG at hfa a b e f g k ⊢
        rw [hfa, a, b, e, f, g, k]
      have e1 : (catGrow c (l1 ++ l2)).2 = 0 := p1.2 (by rw [a1 hg2])
      rw [p2 e1, a1 hg2, d1 (hiff.2 hg2), hfin]
      exact ⟨⟨fun _ => ⟨rfl, rfl⟩, fun _ => rfl⟩, fun _ => rfl⟩
    · have n1 : ¬ (catGrow c (l1 ++ l2)).2 = 0 := fun h => a2 hg2 (p1.1 h)
      have n2 := d2 (fun h => hg2 (hiff.1 h))
      exact ⟨⟨fun h => absurd h n1, fun h => absurd h.2 n2⟩, fun h => absurd h n1⟩
  · have hng : ¬ goodG c (l2 ++ l1) := by
      rintro ⟨x, y, z⟩
      refine hg ⟨by rw [List.length_append] at x; omega, fun r hr => y r (List.mem_append_left _ hr), ?_⟩
      rw [addRs_app] at z
      exact okC_back hc (addRs_le l2 c).2.2 z (addRs_le l1 _).2.2
    have n1 : ¬ (catGrow c (l1 ++ l2)).2 = 0 := fun h => a2 hng (p1.1 h)
    have n2 := b2 hg
    exact ⟨⟨fun h => absurd h n1, fun h => absurd h.1 n2⟩, fun h => absurd h n1⟩

end Go.Proofs.Ytnekknemjhlgdaa

namespace Go.Proofs.Ytnekknemjhlgdaa
open Go.RowKit
set_option linter.unusedVariables false
set_option linter.unusedSimpArgs false


theorem k_pint {x : Int} (hx : I64 x) (t : List UInt8) : pint (nput (nfold x) ++ t) = .ok (x, t) := by
  unfold pint
  rw [q_pnumber (nfold_lt hx.1 hx.2)]
  simp only
  rw [nunfold_nfold]
theorem k_pint_back {l r : List UInt8} {x : Int} (h : pint l = .ok (x, r)) : l = nput (nfold x) ++ r ∧ I64 x := by
  unfold pint at h
  rcases pnumber_cases (l := l) with ⟨hp, hn⟩ | ⟨n, z, hn, hz, hlt, hp⟩
  · rw [hp] at h; cases h
  · rw [hp] at h
    injection h with h
    injection h with h1 h2
    subst h1
    subst h2
    have := ntake_true (l := l) (by rw [hn])
    rw [hn] at this
    rw [nfold_nunfold, ← this.1, List.take_append_drop]
    exact ⟨rfl, nunfold_in hlt⟩
theorem k_pint_err {l : List UInt8} {k : Int} (h : pint l = .error k) : k = 3 := by
  unfold pint at h
  rcases pnumber_cases (l := l) with ⟨hp, hn⟩ | ⟨n, z, hn, hz, hlt, hp⟩
  · rw [hp] at h; injection h with h; exact h.symm
  · rw [hp] at h; cases h
/-- A total read. -/
def ptot (l : List UInt8) : PR (Int × Int) :=
  match pint l with
  | .error k => .error k
  | .ok (a, l1) => match pint l1 with
    | .error k => .error k
    | .ok (b, l2) => .ok ((a, b), l2)
def mkCC (s : SC) (fa : Nat) (ts : List (Int × Int)) : CC := ⟨s, fa, (ts.getD 0 (0, 0)).1, (ts.getD 0 (0, 0)).2, (ts.getD 1 (0, 0)).1, (ts.getD 1 (0, 0)).2, (ts.getD 2 (0, 0)).1, (ts.getD 2 (0, 0)).2⟩
def pcatC (c : CC) (l : List UInt8) : PR CC := if catErr c = 0 then .ok (c, l) else .error (catErr c)
def pcat2 (s : SC) (fa : Nat) : PR (List (Int × Int)) → PR CC
  | .error k => .error k
  | .ok (ts, l) => pcatC (mkCC s fa ts) l
def pcat1 (s : SC) : PR Nat → PR CC
  | .error k => .error k
  | .ok (fa, l) => pcat2 s fa (pmany ptot s.ms.length [] l)
/-- A catalog read. -/
def pcat (l : List UInt8) : PR CC :=
  match psch l with
  | .error k => .error k
  | .ok (s, l1) => pcat1 s (pnum 4000 l1)
theorem ptot_put {t : Int × Int} (h : I64 t.1 ∧ I64 t.2) (r : List UInt8) : ptot (totPut t ++ r) = .ok (t, r) := by
  unfold ptot totPut
  rw [List.append_assoc, k_pint h.1]
  simp only
  rw [k_pint h.2]
theorem ptot_back {l r : List UInt8} {t : Int × Int} (h : ptot l = .ok (t, r)) : l = totPut t ++ r := by
  unfold ptot at h
  split at h
  · cases h
  · rename_i a l1 h1
    split at h
    · cases h
    · rename_i b l2 h2
      injection h with h
      injection h with e1 e2
      subst e1 e2
      unfold totPut
      rw [(k_pint_back h1).1, (k_pint_back h2).1, List.append_assoc]
theorem tots_mk {c : CC} (hE : catErr c = 0) {n : Nat} (hn : c.fa = n) : mkCC c.sc n ((tots c).take c.sc.ms.length) = c := by
  obtain ⟨g, _, _, h0, h1, h2⟩ := catErr_parts.1 hE
  obtain ⟨_, _, _, m1, m3, _⟩ := schErr_zero g
  obtain ⟨_, _, z1⟩ := badTot_false h1
  obtain ⟨_, _, z2⟩ := badTot_false h2
  obtain ⟨s, fa, p0, q0, p1, q1, p2, q2⟩ := c
  simp only at *
  subst hn
  generalize s.ms.length = m at *
  obtain rfl | rfl | rfl : m = 1 ∨ m = 2 ∨ m = 3 := by omega
  · obtain ⟨rfl, rfl⟩ := z1 (by omega)
    obtain ⟨rfl, rfl⟩ := z2 (by omega)
    rfl
  · obtain ⟨rfl, rfl⟩ := z2 (by omega)
    rfl
  · rfl
theorem pcat_put {c : CC} (hE : catErr c = 0) (hc : okC c) (r : List UInt8) : pcat (catPut c ++ r) = .ok (c, r) := by
  obtain ⟨g, f0, f1, _⟩ := catErr_parts.1 hE
  obtain ⟨_, _, _, m1, m3, _⟩ := schErr_zero g
  obtain ⟨n, hn⟩ : ∃ n : Nat, c.fa = n := ⟨c.fa.toNat, by omega⟩
  have hl : ((tots c).take c.sc.ms.length).length = c.sc.ms.length := by rw [List.length_take]; show min _ 3 = _; omega
  have e : catPut c ++ r = schPut c.sc ++ (nput n ++ (((tots c).take c.sc.ms.length).flatMap totPut ++ r)) := by unfold catPut; rw [hn, Int.toNat_natCast]; simp only [List.append_assoc]
  unfold pcat
  rw [e, psch_put g]
  simp only
  rw [q_pnum (by omega) (by omega)]
  simp only [pcat1]
  have hm := pmany_put (p := ptot) (put := totPut) (xs := (tots c).take c.sc.ms.length) (acc := []) r (fun t ht r => ptot_put (by
    obtain ⟨a, b, d, e, f, k⟩ := hc
    have ht2 := List.mem_of_mem_take ht
    simp [tots] at ht2
    rcases ht2 with rfl | rfl | rfl
    · exact ⟨a, b⟩
    · exact ⟨d, e⟩
    · exact ⟨f, k⟩) r)
  rw [hl] at hm
  rw [hm]
  simp only [pcat2, List.nil_append]
  rw [tots_mk hE hn]
  unfold pcatC
  rw [if_pos hE]
theorem pcat_back {l r : List UInt8} {c : CC} (h : pcat l = .ok (c, r)) : catErr c = 0 ∧ l = catPut c ++ r := by
  unfold pcat at h
  split at h
  · cases h
  · rename_i s l1 h1
    unfold pcat1 at h
    split at h
    · cases h
    · rename_i fa l2 h2
      unfold pcat2 at h
      split at h
      · cases h
      · rename_i ts l3 h3
        unfold pcatC at h
        split at h
        · rename_i hE
          injection h with h
          injection h with e1 e2
          subst e1 e2
          refine ⟨hE, ?_⟩
          obtain ⟨xs, a1, a2, a3⟩ := pmany_back (put := totPut) (fun l x r h => ptot_back h) h3
          rw [List.nil_append] at a1
          subst a1
          obtain ⟨hs, hb⟩ := psch_back h1
          obtain ⟨_, _, _, m1, m3, _⟩ := schErr_zero hs
          have e : (tots (mkCC s fa ts)).take s.ms.length = ts := by
            generalize s.ms.length = m at *
            match ts, a2 with
            | [x], h => subst h; rfl
            | [x, y], h => subst h; rfl
            | [x, y, z], h => subst h; rfl
            | [], h => simp at h; omega
            | x :: y :: z :: u :: v, h => simp at h; omega
          rw [hb, q_pnum_back h2, a3]
          unfold catPut
          rw [show (mkCC s fa ts).sc = s from rfl, e, show (mkCC s fa ts).fa.toNat = fa from Int.toNat_natCast _]
          simp only [List.append_assoc]
        · cases h
/-- What Take answers. -/
def cattake (s : List UInt8) : CC × Int :=
  match pcat s with
  | .error k => (CC.nil, k)
  | .ok (t, l) => if l = [] then (t, 0) else (CC.nil, 3)
theorem cattake_put {c : CC} (hE : catErr c = 0) (hc : okC c) : cattake (catPut c) = (c, 0) := by
  have h := pcat_put hE hc []
  rw [List.append_nil] at h
  unfold cattake
  rw [h]
  rfl

end Go.Proofs.Ytnekknemjhlgdaa
