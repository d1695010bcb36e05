/- The shape of a schema. -/
import Derived.Test.YtelnhhbefdfeoaaPlanC
import Derived.Test.YtelnhhbefdfeoaaBs
import Derived.Test.YtelnhhbefdfeoaaBi
import Derived.Test.YtelnhhbefdfeoaaBq
namespace Go.Proofs.Ytelnhhbefdfeoaa
open Go.RowKit
set_option linter.unusedVariables false
set_option linter.unusedSimpArgs false


theorem E_intssP : ElemInfo Try.prog 69 60 1 24 := ElemInfo.mk' (z := .slice none 0 0) Try.underlying69 (by kernel_rfl) rfl (by omega)
/-- A row of numbers of the call's own. -/
abbrev rIn (x : Row Int) : Res := rRow 3 1 (.slice x.A x.n x.c) x.n (x.l.map (Value.int .i64))
def ShpPost (xs : List (List Int)) (m : Int) (w : World) (e : Ending) (w' : World) : Prop := ∃ X : Shp, e = .returned (.agg X.cs) ∧ X.con = xs ∧ X.ms = m ∧ X.rd w' ∧ Bel w w'
theorem flat_rowsP (l : List (Row Int)) : l.flatMap Cel.cells = l.map Row.v := by
  induction l with
  | nil => rfl
  | cons a l ih => rw [List.flatMap_cons, List.map_cons, ih]; rfl
theorem rows_rd {w0 w : World} {l : List Res} {i j k : Nat} {B : Option Addr} {d : Nat} {L : List (Row Int)} (H : SL No w0 w l) (hi : l[i]? = some (rRow 60 1 (.slice B k d) k (L.map Row.v))) (hj : l[j]? = some (rListD rIn L)) (hI : ∀ x ∈ L, ∀ z ∈ x.l, I64 z) (hk : k ≤ 1000000) (hn : ∀ x ∈ L, x.n ≤ 1000000) : Row.rd w (⟨B, k, d, L⟩ : Row (Row Int)) := by
  refine ⟨by have := Rd.of_own (H.row i hi); rw [← flat_rowsP] at this; exact this, fun x hx => ?_, by show k ≤ _; omega⟩
  have h1 := (H.at_ j hj).1 x hx
  have h2 := h1.now
  refine own_ok (base := 0) (e := 3) ?_ (fun z hz => hI x hx z hz) (by have := hn x hx; show x.n * 8 ≤ _; omega)
  rw [flat_ints]
  exact h2
set_option maxRecDepth 100000 in
set_option maxHeartbeats 4000000 in
theorem rshape_any (s : Sch) (w : World) (hs : s.rd w) (hd : s.dm.n ≤ 16) (hsm : ∀ d ∈ s.dm.l, d.tr.n ≤ 1000000) :
    Calls Try.prog 29 #[.agg s.cs] w (ShpPost (s.con.dims.map (fun d => sizesOf d.trs)) s.ms.n w) := by
  have H := Lib.hid (((SL.start No w).alloc s.cs 25).alloc #[.slice none 0 0, .int .i64 0] 71)
  (try simp only [List.set_cons_zero, List.set_cons_succ, List.cons_append, List.nil_append, List.eraseIdx_cons_zero, List.eraseIdx_cons_succ, List.setIfInBounds_toArray, World.size_alloc, selR, List.getD_cons_zero, List.getD_cons_succ] at H)
  have hlen : Hid (s.dm.l.length = s.dm.n) := hs.dm.len
  have HD := Lib.hid (fun w' (hb : Bel w w') => hs.dm.mono hb)
  have HSM := Lib.hid hsm
  have HDA := Lib.hid (fun (x : Dm) (hx : x ∈ s.dm.l) => hs.dm.all x hx)
  have m63 := hs.ms.n63
  have hma : I64 (s.ms.n : Int) := by unfold I64; omega
  obtain ⟨⟨A, n, c, ds⟩, ⟨MA, mn, mc, ms⟩⟩ := s
  simp only [Sch.cs, Sch.con] at *
  clear hs hsm
  go_enter Try.func29, Try.ntmps29
  go_upto_region 1 with fail
  generalize w.heap.size + 1 = z at *
  generalize w.heap.size = x at *
  generalize World.alloc (World.alloc _ _) _ = w1 at *
  have cm : w1.cell? ⟨x, 1, none⟩ = some (.slice MA mn mc) := (H.out.blk 0 rfl).cell 1
  go_upto_region 2 with (first | ((with_reducible show wpList _ _ _ (⟨some 12, _, _, _, _, _⟩ :: _) _ _); refine wpList_build1 (v := .agg #[.slice none 0 0, .int .i64 mn]) rfl (.tmp 11) rfl rfl (by intro w; kernel_rfl) ?_) | ((with_reducible show wpList _ _ _ (⟨_, .store _ (.tmp 3) _, _, _, _, _⟩ :: _) _ _); (refine wpList_store_new rfl rowShp2 (.tmp 3) (.tmp 12) rfl rfl rfl (#[.slice none 0 0, .int .i64 mn]) rfl rfl (by simp [Value.oneCell']) ?_; replace H := Lib.hid (H.out.alloc (#[.slice none 0 0, .int .i64 mn]) 71); (try simp only [List.set_cons_zero, List.set_cons_succ, List.cons_append, List.nil_append, List.eraseIdx_cons_zero, List.eraseIdx_cons_succ, List.setIfInBounds_toArray, World.size_alloc, selR, List.getD_cons_zero, List.getD_cons_succ] at H))))
  (try simp only [Act.put, List.setIfInBounds_toArray, List.set_cons_zero, List.set_cons_succ])
  clear cm
  generalize w1.heap.size = u at *
  generalize World.alloc w1 _ = w2 at *
  replace H := Lib.hid (H.out.addNil 60 1); (try simp only [List.set_cons_zero, List.set_cons_succ, List.cons_append, List.nil_append, List.eraseIdx_cons_zero, List.eraseIdx_cons_succ, List.setIfInBounds_toArray, World.size_alloc, selR, List.getD_cons_zero, List.getD_cons_succ] at H)
  replace H := Lib.hid (H.out.add (Bel.refl _) (rListD rIn []) (holds_listD_nil _ _) listD_nil_D); (try simp only [List.set_cons_zero, List.set_cons_succ, List.cons_append, List.nil_append, List.eraseIdx_cons_zero, List.eraseIdx_cons_succ, List.setIfInBounds_toArray, World.size_alloc, selR, List.getD_cons_zero, List.getD_cons_succ] at H)
  have cd : w2.cell? ⟨x, 0, none⟩ = some (.slice A n c) := (H.out.blk 0 rfl).cell 0
  have HL : Hid (([] : List (Row Int)).map Row.l = ((ds.map Dm.con).map (fun d => sizesOf d.trs)).take 0) := rfl
  have HLI : Hid (∀ x ∈ ([] : List (Row Int)), (∀ z ∈ x.l, I64 z) ∧ x.n ≤ 1000000) := fun x hx => by cases hx
  go_upto_region 3 with fail
  clear cd
  go_loopg [16] n (fun gg s16 wr => ∃ (k : Nat) (B : Option Addr) (d : Nat) (L : List (Row Int)), gg = n - k ∧ k ≤ n ∧ s16 = .int .i64 k ∧ Hid (L.length = k) ∧ Hid (SL No w wr [rBlk x 25 #[.slice A n c, .slice MA mn mc], rBlk z 71 #[.slice none 0 0, .int .i64 0], rBlk u 71 #[.slice B k d, .int .i64 mn], rRow 60 1 (.slice B k d) k (L.map Row.v), rListD rIn L]) ∧ Hid (L.map Row.l = ((ds.map Dm.con).map (fun d => sizesOf d.trs)).take k) ∧ Hid (∀ x ∈ L, (∀ z ∈ x.l, I64 z) ∧ x.n ≤ 1000000))
  case atStart => exact ⟨0, none, 0, [], rfl, by omega, rfl, rfl, H, HL, HLI⟩
  case round =>
    clear H HL HLI
    obtain ⟨k, B, d, L, hgk, hk, rfl, hLk, H, HL, HLI⟩ := hrel
    have Hgk := Lib.hid hgk
    clear hgk
    by_cases hlt : k < n
    · obtain ⟨bd, od, D, hA, hbb, hDk, hDr, hrg⟩ := (HD.out _ H.out.to).dmAt (k := k) hlt
      simp only at hA
      subst hA
      have hdn := HSM.out D (List.mem_of_getElem? hDk)
      have HTK := Lib.hid (take_snoc_get (l := (ds.map Dm.con).map (fun d => sizesOf d.trs)) (k := k) (x := sizesOf (D.tr.l.map Tir.con)) (by rw [List.getElem?_map, List.getElem?_map, hDk]; rfl))
      have HRg := Lib.hid hrg
      have HTR := Lib.hid ((HDA.out D (List.mem_of_getElem? hDk)).tr)
      have htl : Hid (D.tr.l.length = D.tr.n) := hDr.tr.len
      have i0 : (0 : Int) ≤ k := by omega
      have i1 : (k : Int) < n := by omega
      clear hDk hDr hrg hbb
      obtain ⟨nm, ⟨TA, tn, tc, trs⟩⟩ := D
      simp only at *
      go_upto_region 6 with (first | ((with_reducible show wpList _ _ _ (⟨some 19, _, _, _, _, _⟩ :: _) _ _); (refine wpList_load_row_at rfl rowDm (.tmp 18) rfl bd (od + k * 2) rfl (Dm.mk nm ⟨TA, tn, tc, trs⟩).cs rfl HRg.out ?_)) | ((with_reducible show wpList _ _ _ (⟨_, .store _ (.tmp 5) _, _, _, _, _⟩ :: _) _ _); (refine wpList_store_new rfl rowDm (.tmp 5) (.tmp 19) rfl rfl rfl ((Dm.mk nm ⟨TA, tn, tc, trs⟩).cs) rfl rfl (by simp [Value.oneCell']) ?_; replace H := Lib.hid (H.out.alloc ((Dm.mk nm ⟨TA, tn, tc, trs⟩).cs) 66); (try simp only [List.set_cons_zero, List.set_cons_succ, List.cons_append, List.nil_append, List.eraseIdx_cons_zero, List.eraseIdx_cons_succ, List.setIfInBounds_toArray, World.size_alloc, selR, List.getD_cons_zero, List.getD_cons_succ] at H))))
      (try simp only [Act.put, List.setIfInBounds_toArray, List.set_cons_zero, List.set_cons_succ])
      clear HRg
      generalize wr.heap.size = y at *
      generalize World.alloc wr _ = w5 at *
      replace H := Lib.hid (H.out.addNil 3 1); (try simp only [List.set_cons_zero, List.set_cons_succ, List.cons_append, List.nil_append, List.eraseIdx_cons_zero, List.eraseIdx_cons_succ, List.setIfInBounds_toArray, World.size_alloc, selR, List.getD_cons_zero, List.getD_cons_succ] at H)
      have ct : w5.cell? ⟨y, 1, none⟩ = some (.slice TA tn tc) := (H.out.blk 5 rfl).cell 1
      have HI0 : Hid (((sizesOf (trs.map Tir.con)).take 0).map (Value.int .i64) = []) := rfl
      rw [← HI0.out] at H
      clear HI0
      go_upto_region 7 with fail
      clear ct
      go_loopg [6, 23] tn (fun gg s6 s23 wv => ∃ (j : Nat) (C : Option Addr) (e : Nat), gg = tn - j ∧ j ≤ tn ∧ s6 = .slice C j e ∧ s23 = .int .i64 j ∧ Hid (SL No w wv [rBlk x 25 #[.slice (some ⟨bd, od, none⟩) n c, .slice MA mn mc], rBlk z 71 #[.slice none 0 0, .int .i64 0], rBlk u 71 #[.slice B k d, .int .i64 mn], rRow 60 1 (.slice B k d) k (L.map Row.v), rListD rIn L, rRow 3 1 (.slice C j e) j (((sizesOf (trs.map Tir.con)).take j).map (Value.int .i64))]))
      case atStart => exact ⟨0, none, 0, rfl, by omega, rfl, rfl, by have h := Lib.hid (H.out.less 5); exact h⟩
      case round =>
        clear H
        obtain ⟨j, C, e, hgj, hj, rfl, rfl, H⟩ := hrel
        have Hgj := Lib.hid hgj
        clear hgj
        by_cases hjt : j < tn
        · obtain ⟨bt, ot, T, hA2, hbt, hT, hTr, hrg⟩ := (HTR.out.mono H.out.to).tirAt (k := j) hjt
          simp only at hA2
          subst hA2
          have hTl : T.ts.l.length = T.ts.n := hTr.ts.len
          have hTn := hTr.ts.n63
          have HX : Hid (((sizesOf (trs.map Tir.con)).take (j + 1)).map (Value.int .i64) = ((sizesOf (trs.map Tir.con)).take j).map (Value.int .i64) ++ [.int .i64 T.ts.n]) := by
            show _ = _
            rw [take_snoc_get (x := (T.ts.n : Int)) (by unfold sizesOf; rw [List.getElem?_map, List.getElem?_map, hT]; show some ((T.ts.l.length : Nat) : Int) = _; rw [hTl]), List.map_append]
            rfl
          have HR := Lib.hid hrg
          have j0 : (0 : Int) ≤ j := by omega
          have j1 : (j : Int) < tn := by omega
          clear hT hTr hrg hTl hbt
          go_wp2_with (first | ((with_reducible show wpList _ _ _ (⟨some 26, _, _, _, _, _⟩ :: _) _ _); (refine wpList_load_row_at rfl rowTir (.tmp 25) rfl bt (ot + j * 3) rfl T.cs rfl HR.out ?_)) | ((with_reducible show wpList _ _ _ (⟨_, .store _ (.tmp 8) _, _, _, _, _⟩ :: _) _ _); (refine wpList_store_new rfl rowTir (.tmp 8) (.tmp 26) rfl rfl rfl (T.cs) rfl rfl (tir_one T) ?_; replace H := Lib.hid (H.out.alloc (T.cs) 77); (try simp only [List.set_cons_zero, List.set_cons_succ, List.cons_append, List.nil_append, List.eraseIdx_cons_zero, List.eraseIdx_cons_succ, List.setIfInBounds_toArray, World.size_alloc, selR, List.getD_cons_zero, List.getD_cons_succ] at H); have c1 := (H.out.blk 6 rfl).cell 1; simp only [List.getElem?_toArray, List.getElem?_cons_zero, List.getElem?_cons_succ] at c1)) | ((with_reducible show wpList _ _ _ (⟨some 32, _, _, _, _, _⟩ :: _) _ _); (replace H := Lib.hid (H.out.alloc #[.int .i64 T.ts.n] 3); (try simp only [List.set_cons_zero, List.set_cons_succ, List.cons_append, List.nil_append, List.eraseIdx_cons_zero, List.eraseIdx_cons_succ, List.setIfInBounds_toArray, World.size_alloc, selR, List.getD_cons_zero, List.getD_cons_succ] at H); refine wpList_append0 rfl (.tmp 27) (.tmp 31) _ rfl E_num 0 (Nat.zero_le _) _ j _ rfl (H.out.row 5 rfl) _ 1 1 [.int .i64 T.ts.n] rfl (reads_of_block (H.out.blk 7 rfl) rfl) (by simp [Value.oneCell']) (by unfold maxLen; omega) (by omega) ?_; intro vq wq howq hgq hatq; replace H := Lib.hid (H.out.setRow 5 rfl hgq howq hatq); (try simp only [List.set_cons_zero, List.set_cons_succ, List.cons_append, List.nil_append, List.eraseIdx_cons_zero, List.eraseIdx_cons_succ, List.setIfInBounds_toArray, World.size_alloc, selR, List.getD_cons_zero, List.getD_cons_succ] at H); clear howq hgq hatq; obtain ⟨C2, e2, rfl, _⟩ := own_slice (H.out.row 5 rfl); clear c1)))
          replace H := Lib.hid (H.out.sel [0, 1, 2, 3, 4, 5] (by decide) (by simp)); (try simp only [List.set_cons_zero, List.set_cons_succ, List.cons_append, List.nil_append, List.eraseIdx_cons_zero, List.eraseIdx_cons_succ, List.setIfInBounds_toArray, World.size_alloc, selR, List.getD_cons_zero, List.getD_cons_succ] at H)
          rw [← HX.out] at H
          go_roundg (tn - (j + 1))
          case rel => exact ⟨j + 1, C2, e2, rfl, by omega, rfl, by go_num, H⟩
          case measure => rw [Hgj.out]; omega
        · obtain rfl : j = tn := by omega
          have hfull : Hid ((sizesOf (trs.map Tir.con)).take j = sizesOf (trs.map Tir.con)) := List.take_of_length_le (by unfold sizesOf; rw [List.length_map, List.length_map, htl.out]; exact Nat.le_refl _)
          rw [hfull.out] at H
          have cu : wr.cell? ⟨u, 0, none⟩ = some (.slice B k d) := (H.out.blk 2 rfl).cell 0
          go_upto_region 12 with ((with_reducible show wpList _ _ _ (⟨some 38, _, _, _, _, _⟩ :: _) _ _); (replace H := Lib.hid (H.out.alloc #[.slice C j e] 60); (try simp only [List.set_cons_zero, List.set_cons_succ, List.cons_append, List.nil_append, List.eraseIdx_cons_zero, List.eraseIdx_cons_succ, List.setIfInBounds_toArray, World.size_alloc, selR, List.getD_cons_zero, List.getD_cons_succ] at H); refine wpList_append0 rfl (.tmp 35) (.tmp 37) _ rfl E_intssP 0 (Nat.zero_le _) _ k _ rfl (H.out.row 3 rfl) _ 1 1 _ rfl (reads_of_block (H.out.blk 6 rfl) rfl) (by simp [Value.oneCell']) (by unfold maxLen; omega) (by omega) ?_; intro vq wq howq hgq hatq; replace H := Lib.hid (H.out.setRow 3 rfl hgq howq hatq); (try simp only [List.set_cons_zero, List.set_cons_succ, List.cons_append, List.nil_append, List.eraseIdx_cons_zero, List.eraseIdx_cons_succ, List.setIfInBounds_toArray, World.size_alloc, selR, List.getD_cons_zero, List.getD_cons_succ] at H); clear howq hgq hatq; obtain ⟨B9, d9, rfl, _⟩ := own_slice (H.out.row 3 rfl); have hz := (H.out.blk 2 rfl).cell 0; have hy := (H.out.blk 2 rfl).frozen 0; simp only [List.getElem?_toArray, List.getElem?_cons_zero, List.getElem?_cons_succ] at hz))
          replace H := Lib.hid (H.out.setCell 2 rfl 0 (.slice B9 (k + 1) d9)); (try simp only [List.set_cons_zero, List.set_cons_succ, List.cons_append, List.nil_append, List.eraseIdx_cons_zero, List.eraseIdx_cons_succ, List.setIfInBounds_toArray, World.size_alloc, selR, List.getD_cons_zero, List.getD_cons_succ] at H)
          clear hz hy cu
          replace H := Lib.hid (H.out.snocD 4 5 (a := ⟨C, j, e, sizesOf (trs.map Tir.con)⟩) (by omega) rfl rfl); (try simp only [List.set_cons_zero, List.set_cons_succ, List.cons_append, List.nil_append, List.eraseIdx_cons_zero, List.eraseIdx_cons_succ, List.setIfInBounds_toArray, World.size_alloc, selR, List.getD_cons_zero, List.getD_cons_succ] at H)
          replace H := Lib.hid (H.out.sel [0, 1, 2, 3, 4] (by decide) (by simp)); (try simp only [List.set_cons_zero, List.set_cons_succ, List.cons_append, List.nil_append, List.eraseIdx_cons_zero, List.eraseIdx_cons_succ, List.setIfInBounds_toArray, World.size_alloc, selR, List.getD_cons_zero, List.getD_cons_succ] at H)
          have HL2 : Hid ((L ++ [Row.mk C j e (sizesOf (trs.map Tir.con))]).map Row.l = ((ds.map Dm.con).map (fun d => sizesOf d.trs)).take (k + 1)) := by show _ = _; rw [HTK.out, List.map_append, HL.out]; rfl
          have HLI2 : Hid (∀ x ∈ L ++ [Row.mk C j e (sizesOf (trs.map Tir.con))], (∀ z ∈ x.l, I64 z) ∧ x.n ≤ 1000000) := fun x hx => by
            rcases List.mem_append.1 hx with h | h
            · exact HLI.out x h
            · rw [List.mem_singleton] at h
              subst h
              refine ⟨fun z hz => ?_, hdn⟩
              have hz : z ∈ (trs.map Tir.con).map (fun t => (t.ts.length : Int)) := hz
              obtain ⟨q, hq, rfl⟩ := List.mem_map.1 hz
              obtain ⟨t, ht, rfl⟩ := List.mem_map.1 hq
              have h1 := (HTR.out.all t ht).ts.n63
              have h2 : t.ts.l.length = t.ts.n := (HTR.out.all t ht).ts.len
              have h3 : t.con.ts.length = t.ts.l.length := rfl
              unfold I64
              omega
          clear HL HLI
          go_wp2_with fail
          go_roundg (n - (k + 1))
          case rel => exact ⟨k + 1, B9, d9, L ++ [⟨C, j, e, sizesOf (trs.map Tir.con)⟩], rfl, by omega, by go_num, by show _ = _; rw [List.length_append, hLk.out]; rfl, by rw [List.map_append]; exact H, HL2, HLI2⟩
          case measure => rw [Hgk.out]; omega
    · obtain rfl : k = n := by omega
      have HF : Hid (L.map Row.l = (ds.map Dm.con).map (fun d => sizesOf d.trs)) := by
        show _ = _
        rw [HL.out, List.take_of_length_le (by rw [List.length_map, List.length_map, hlen.out]; exact Nat.le_refl _)]
      go_wp2_with (first | ((with_reducible show wpList _ _ _ (⟨some 41, _, _, _, _, _⟩ :: _) _ _); (refine wpList_load_blk rfl rowShp2 (.tmp 3) rfl _ rfl (H.out.blk 2 rfl) rfl ?_)) | ((with_reducible show wpList _ _ _ (⟨_, .store _ (.tmp 2) _, _, _, _, _⟩ :: _) _ _); (refine wpList_store_blk rfl rowShp2 (.tmp 2) (.tmp 41) rfl _ rfl (H.out.blk 1 rfl) rfl (#[.slice B k d, .int .i64 mn]) rfl rfl (by simp [Value.oneCell']) ?_; intro wq bq hgq; replace H := Lib.hid (H.out.setBlk 1 rfl hgq bq); (try simp only [List.set_cons_zero, List.set_cons_succ, List.cons_append, List.nil_append, List.eraseIdx_cons_zero, List.eraseIdx_cons_succ, List.setIfInBounds_toArray, World.size_alloc, selR, List.getD_cons_zero, List.getD_cons_succ] at H); clear hgq bq)))
      refine bodyPost_ret (results_blk1 rfl rowShp2 rfl (H.out.blk 1 rfl) rfl) rfl ?_
      exact ⟨⟨⟨B, k, d, L⟩, mn⟩, rfl, HF.out, rfl, ⟨rows_rd H.out (i := 3) (j := 4) rfl rfl (fun x hx => (HLI.out x hx).1) (by omega) (fun x hx => (HLI.out x hx).2), hma⟩, H.out.to⟩

end Go.Proofs.Ytelnhhbefdfeoaa
