/- Nodes whose cells lead elsewhere (cellcode.Move, as Write calls it). -/
import Derived.Test.YtlclllkjnhgbjaaMovA
namespace Go.Proofs.Ytlclllkjnhgbjaa
open Go.RowKit
set_option linter.unusedVariables false
set_option linter.unusedSimpArgs false


set_option maxRecDepth 100000 in
set_option maxHeartbeats 4000000 in
theorem cmoveW_any (s : Shp) (n : Nd) (p : Nat) (g : Int → Int) (w : World) (hs : s.rd w) (hn : n.rd w) (hb1 : n.ls.n ≤ 1000000) (hb2 : ∀ x ∈ n.ls.l, x.n ≤ 1000000)
    (hg : n.dim ≠ (s.sz.n : Int) - 1 → ∀ c ∈ eachN n.con, I64 (g c.ch) ∧ ∀ w', Bel w w' → Calls Try.prog 54 #[.int .i64 c.ch, .pointer (some ⟨p, 0, none⟩)] w' fun e w2 => e = .returned (.int .i64 (g c.ch)) ∧ Bel w' w2) :
    Calls Try.prog 55 #[.agg s.cs, .agg n.cs, .func (.func 54) #[] #[.pointer (some ⟨p, 0, none⟩)]] w fun e w' => ∃ D : Nd, e = .returned (.agg D.cs) ∧ D.con = moveC s.sz.n g n.con ∧ D.ls.n = n.ls.n ∧ (∀ x ∈ D.ls.l, x.n ≤ 1000000) ∧ Bel w w' ∧ NewR w w' (rNd D) := by
  have HCL := Lib.hid (fun w' (hb : Bel w w') => nclone_any n w' (hn.mono hb) hb1 hb2)
  have HLA := Lib.hid (fun w' (hb : Bel w w') => last_any s n.dim w' (hs.mono hb) hn.dim)
  have HI64 : Hid (I64 n.dim ∧ n.all.ok) := ⟨hn.dim, hn.all⟩
  have HOKC := Lib.hid (nd_cells hn)
  have HCF := Lib.hid hg
  have HB1 := Lib.hid hb1
  have n63 := hn.ls.n63
  have H := Lib.hid ((((SL.start No w).alloc s.cs 24).alloc n.cs 34).alloc #[.int .i64 0, .slice none 0 0, .int .i64 0, .int .i64 0, .int .i64 0, .int .i64 0, .int .i64 0, .int .i64 0, .int .i64 0, .int .i64 0, .int .i64 0, .int .i64 0, .int .i64 0, .int .i64 0] 34)
  (try simp only [List.set_cons_zero, List.set_cons_succ, List.cons_append, List.nil_append, List.eraseIdx_cons_zero, List.eraseIdx_cons_succ, List.setIfInBounds_toArray, World.size_alloc, selR, List.getD_cons_zero, List.getD_cons_succ] at H)
  have hcs : s.cs = #[.slice s.sz.A s.sz.n s.sz.c, .int .i64 s.ms] := rfl
  have HCS := Lib.hid hcs
  clear hcs hs hn hg
  go_enter Try.func55, Try.ntmps55
  go_upto_region 1 with fail
  (try rw [← HCS.out] at *)
  generalize w.heap.size + 1 + 1 = r at *
  generalize w.heap.size + 1 = y at *
  generalize w.heap.size = x at *
  generalize World.alloc (World.alloc (World.alloc _ _) _) _ = w1 at *
  go_wp2_with ((with_reducible show wpList _ _ _ (⟨some 11, _, _, _, _, _⟩ :: _) _ _); (refine wpList_load_blk rfl rowNd (.tmp 4) rfl _ rfl (H.out.blk 1 rfl) rfl ?_))
  refine (HCL.out _ H.out.to).mono ?_; rintro e w2 ⟨A, c, L0, rfl, hL, hLb, hLn, hS⟩
  replace H := Lib.hid (H.out.join hS); (try simp only [List.set_cons_zero, List.set_cons_succ, List.cons_append, List.nil_append, List.eraseIdx_cons_zero, List.eraseIdx_cons_succ, List.setIfInBounds_toArray, World.size_alloc, selR, List.getD_cons_zero, List.getD_cons_succ] at H)
  have HL := Lib.hid hL
  have HLB := Lib.hid hLb
  have HLN := Lib.hid hLn
  have HLV : Hid (∀ (k : Nat) (v : Row Cl), L0[k]? = some v → n.con.ls[k]? = some v.l) := fun k v hk => by show (n.ls.l.map Row.l)[k]? = _; rw [← hL, List.getElem?_map, hk]; rfl
  clear hL hLb hLn hS HCL
  go_upto_region 2 with ((with_reducible show wpList _ _ _ (⟨_, .store _ (.tmp 7) _, _, _, _, _⟩ :: _) _ _); (refine wpList_store_new rfl rowNd (.tmp 7) (.tmp 12) rfl rfl rfl ((Nd.mk n.dim ⟨A, n.ls.n, c, L0⟩ n.all).cs) rfl rfl (nd_one _) ?_; replace H := Lib.hid (H.out.alloc ((Nd.mk n.dim ⟨A, n.ls.n, c, L0⟩ n.all).cs) 34); (try simp only [List.set_cons_zero, List.set_cons_succ, List.cons_append, List.nil_append, List.eraseIdx_cons_zero, List.eraseIdx_cons_succ, List.setIfInBounds_toArray, World.size_alloc, selR, List.getD_cons_zero, List.getD_cons_succ] at H)))
  (try simp only [Act.put, List.setIfInBounds_toArray, List.set_cons_zero, List.set_cons_succ])
  generalize w2.heap.size = o at *
  generalize World.alloc w2 _ = w3 at *
  replace H := Lib.hid (H.out.sel [0, 1, 2, 5, 3, 4] (by decide) (by simp)); (try simp only [List.set_cons_zero, List.set_cons_succ, List.cons_append, List.nil_append, List.eraseIdx_cons_zero, List.eraseIdx_cons_succ, List.setIfInBounds_toArray, World.size_alloc, selR, List.getD_cons_zero, List.getD_cons_succ] at H)
  have cd : w3.cell? ⟨y, 0, none⟩ = some (.int .i64 n.dim) := (H.out.blk 1 rfl).cell 0
  go_wp2_with ((with_reducible show wpList _ _ _ (⟨some 13, _, _, _, _, _⟩ :: _) _ _); (refine wpList_load_blk rfl rowShp2 (.tmp 3) rfl _ rfl (H.out.blk 0 rfl) rfl ?_))
  refine (HLA.out _ H.out.to).mono ?_; rintro e w4 ⟨rfl, hb4⟩
  replace H := Lib.hid (H.out.bel hb4); (try simp only [List.set_cons_zero, List.set_cons_succ, List.cons_append, List.nil_append, List.eraseIdx_cons_zero, List.eraseIdx_cons_succ, List.setIfInBounds_toArray, World.size_alloc, selR, List.getD_cons_zero, List.getD_cons_succ] at H)
  clear hb4 cd HLA
  cases hl : (n.dim == (s.sz.n : Int) - 1) with
  | true =>
    have hl2 : n.dim = (s.sz.n : Int) - 1 := by simpa using hl
    have HV : Hid (moveC s.sz.n g n.con = n.con) := by show (if _ then _ else _) = _; rw [if_pos hl2]
    clear hl hl2
    go_wp2_with (first | ((with_reducible show wpList _ _ _ (⟨some 17, _, _, _, _, _⟩ :: _) _ _); (refine wpList_load_blk rfl rowNd (.tmp 7) rfl _ rfl (H.out.blk 3 rfl) rfl ?_)) | ((with_reducible show wpList _ _ _ (⟨_, .store _ (.tmp 6) _, _, _, _, _⟩ :: _) _ _); (refine wpList_store_blk rfl rowNd (.tmp 6) (.tmp 17) rfl _ rfl (H.out.blk 2 rfl) rfl ((Nd.mk n.dim ⟨A, n.ls.n, c, L0⟩ n.all).cs) rfl rfl (nd_one _) ?_; intro wq bq hgq; replace H := Lib.hid (H.out.setBlk 2 rfl hgq bq); (try simp only [List.set_cons_zero, List.set_cons_succ, List.cons_append, List.nil_append, List.eraseIdx_cons_zero, List.eraseIdx_cons_succ, List.setIfInBounds_toArray, World.size_alloc, selR, List.getD_cons_zero, List.getD_cons_succ] at H); clear hgq bq)))
    refine bodyPost_ret (results_blk1 rfl rowNd rfl (H.out.blk 2 rfl) rfl) rfl ?_
    replace H := Lib.hid (H.out.mkNd 4 5 (n := Nd.mk n.dim ⟨A, n.ls.n, c, L0⟩ n.all) (by omega) rfl rfl HI64.out HLB.out HB1.out); (try simp only [List.set_cons_zero, List.set_cons_succ, List.cons_append, List.nil_append, List.eraseIdx_cons_zero, List.eraseIdx_cons_succ, List.setIfInBounds_toArray, World.size_alloc, selR, List.getD_cons_zero, List.getD_cons_succ] at H)
    refine ⟨Nd.mk n.dim ⟨A, n.ls.n, c, L0⟩ n.all, rfl, ?_, rfl, fun y hy => (HLB.out y hy).1, H.out.to, H.out.get 4 rfl, H.out.new 4 rfl⟩
    rw [HV.out]
    show NC.mk _ _ _ = NC.mk _ _ _
    rw [HL.out]
  | false =>
  have hl2 : n.dim ≠ (s.sz.n : Int) - 1 := by simpa using hl
  have HF := Lib.hid (HCF.out hl2)
  have HV : Hid (moveC s.sz.n g n.con = ⟨n.dim, L0.map (fun v => v.l.map (mvCl g)), mvCl g n.all⟩) := by
    show (if _ then _ else _) = _
    rw [if_neg hl2]
    show NC.mk n.dim ((n.ls.l.map Row.l).map (List.map (mvCl g))) (mvCl g n.all) = _
    rw [← HL.out, List.map_map]
    rfl
  clear hl2 HCF HL
  replace H := Lib.hid (H.out.ext (rListD rCs []) (holds_listD_nil _ _) (fun j q hj g hg hg2 => listD_nil_D (P := fun _ => False) g hg2) (fun g hg => (listD_nil_D (P := fun _ => False) g hg).elim)); (try simp only [List.set_cons_zero, List.set_cons_succ, List.cons_append, List.nil_append, List.eraseIdx_cons_zero, List.eraseIdx_cons_succ, List.setIfInBounds_toArray, World.size_alloc, selR, List.getD_cons_zero, List.getD_cons_succ] at H)
  replace H := Lib.hid (H.out.sel [0, 1, 2, 3, 4, 6, 5] (by decide) (by simp)); (try simp only [List.set_cons_zero, List.set_cons_succ, List.cons_append, List.nil_append, List.eraseIdx_cons_zero, List.eraseIdx_cons_succ, List.setIfInBounds_toArray, World.size_alloc, selR, List.getD_cons_zero, List.getD_cons_succ] at H)
  have cl : w4.cell? ⟨o, 1, none⟩ = some (.slice A n.ls.n c) := (H.out.blk 3 rfl).cell 1
  go_upto_region 5 with fail
  clear cl hl
  go_loopg [9, 10, 21] n.ls.n (fun gg s9 s10 s21 wr => ∃ (k : Nat) (L1 L2 : List (Row Cl)), gg = n.ls.n - k ∧ k ≤ n.ls.n ∧ s21 = .int .i64 k ∧ Hid (L1.length = k ∧ L2 = L0.drop k ∧ L1.map Row.v = (L0.take k).map Row.v ∧ L1.map Row.l = (L0.take k).map (fun v => v.l.map (mvCl g)) ∧ ∀ y ∈ L1, y.n ≤ 1000000 ∧ ∀ q ∈ y.l, q.ok) ∧ Hid (SL No w wr [rBlk x 24 s.cs, rBlk y 34 n.cs, rBlk r 34 #[.int .i64 0, .slice none 0 0, .int .i64 0, .int .i64 0, .int .i64 0, .int .i64 0, .int .i64 0, .int .i64 0, .int .i64 0, .int .i64 0, .int .i64 0, .int .i64 0, .int .i64 0, .int .i64 0], rBlk o 34 (Nd.mk n.dim ⟨A, n.ls.n, c, L0⟩ n.all).cs, rRow 44 1 (.slice A n.ls.n c) n.ls.n (L0.map Row.v), rListD rCs L1, rListD rCs L2]))
  case atStart => exact ⟨0, [], L0, rfl, by omega, rfl, ⟨rfl, rfl, rfl, rfl, fun y hy => by cases hy⟩, H⟩
  case round =>
    clear H
    obtain ⟨k, L1, L2, hgk, hk, rfl, HK, H⟩ := hrel
    obtain ⟨W0, hW0⟩ : ∃ W0, W0 = wr := ⟨_, rfl⟩
    subst hW0
    have Hgk := Lib.hid hgk
    clear hgk
    by_cases hlt : k < n.ls.n
    · obtain ⟨v, hv⟩ : ∃ v, L0[k]? = some v := ⟨_, List.getElem?_eq_getElem (by rw [HLN.out]; exact hlt)⟩
      have hL2 : L2 = v :: L0.drop (k + 1) := by rw [HK.out.2.1]; obtain ⟨h1, rfl⟩ := List.getElem?_eq_some_iff.1 hv; exact List.drop_eq_getElem_cons h1
      subst hL2
      obtain ⟨ga, rfl⟩ := own_block0 (H.out.row 4 rfl) (by omega)
      have cv := (own_cellN (H.out.row 4 rfl) (j := k) (v := .slice v.A v.n v.c) (by rw [List.getElem?_map, hv]; rfl)).1
      have HVB := Lib.hid (HLB.out v (List.mem_of_getElem? hv))
      have hvn := HVB.out.1
      have HLS := Lib.hid (HLV.out k v hv)
      have HV0 := Lib.hid hv
      replace H := Lib.hid (H.out.splitD 6 rfl); (try simp only [List.set_cons_zero, List.set_cons_succ, List.cons_append, List.nil_append, List.eraseIdx_cons_zero, List.eraseIdx_cons_succ, List.setIfInBounds_toArray, World.size_alloc, selR, List.getD_cons_zero, List.getD_cons_succ] at H)
      have hvl : v.l.length = v.n := by
        have h := (H.out.row 6 rfl).1
        have : ∀ (l : List Cl), (l.flatMap Cel.cells).length = l.length * 12 := fun l => by
          induction l with
          | nil => rfl
          | cons a l ih => rw [List.flatMap_cons, List.length_append, ih, List.length_cons]; show 12 + _ = _; omega
        rw [this] at h
        omega
      have HVL := Lib.hid hvl
      have k0 : (0 : Int) ≤ k := by omega
      have k1 : (k : Int) < n.ls.n := by omega
      have HJ : Hid (∀ W, SL No w W [rBlk x 24 s.cs, rBlk y 34 n.cs, rBlk r 34 #[.int .i64 0, .slice none 0 0, .int .i64 0, .int .i64 0, .int .i64 0, .int .i64 0, .int .i64 0, .int .i64 0, .int .i64 0, .int .i64 0, .int .i64 0, .int .i64 0, .int .i64 0, .int .i64 0], rBlk o 34 (Nd.mk n.dim ⟨some ⟨ga, 0, none⟩, n.ls.n, c, L0⟩ n.all).cs, rRow 44 1 (.slice (some ⟨ga, 0, none⟩) n.ls.n c) n.ls.n (L0.map Row.v), rListD rCs L1, rCs v, rListD rCs (L0.drop (k + 1))] → SL No w W [rBlk x 24 s.cs, rBlk y 34 n.cs, rBlk r 34 #[.int .i64 0, .slice none 0 0, .int .i64 0, .int .i64 0, .int .i64 0, .int .i64 0, .int .i64 0, .int .i64 0, .int .i64 0, .int .i64 0, .int .i64 0, .int .i64 0, .int .i64 0, .int .i64 0], rBlk o 34 (Nd.mk n.dim ⟨some ⟨ga, 0, none⟩, n.ls.n, c, L0⟩ n.all).cs, rRow 44 1 (.slice (some ⟨ga, 0, none⟩) n.ls.n c) n.ls.n (L0.map Row.v), rListD rCs L1, rRow 32 12 (.slice v.A v.n v.c) v.n (((v.l.take 0).map (mvCl g) ++ v.l.drop 0).flatMap Cel.cells), rListD rCs (L0.drop (k + 1))]) := fun W h => by simpa using h
      replace H := Lib.hid (HJ.out _ H.out)
      clear hv hvl HJ
      go_upto_region 8 with fail
      clear cv
      go_loopg [10, 27] v.n (fun gg s10 s27 wx => ∃ (j : Nat), gg = v.n - j ∧ j ≤ v.n ∧ s27 = .int .i64 j ∧ Hid (SL No w wx [rBlk x 24 s.cs, rBlk y 34 n.cs, rBlk r 34 #[.int .i64 0, .slice none 0 0, .int .i64 0, .int .i64 0, .int .i64 0, .int .i64 0, .int .i64 0, .int .i64 0, .int .i64 0, .int .i64 0, .int .i64 0, .int .i64 0, .int .i64 0, .int .i64 0], rBlk o 34 (Nd.mk n.dim ⟨some ⟨ga, 0, none⟩, n.ls.n, c, L0⟩ n.all).cs, rRow 44 1 (.slice (some ⟨ga, 0, none⟩) n.ls.n c) n.ls.n (L0.map Row.v), rListD rCs L1, rRow 32 12 (.slice v.A v.n v.c) v.n (((v.l.take j).map (mvCl g) ++ v.l.drop j).flatMap Cel.cells), rListD rCs (L0.drop (k + 1))]))
      case atStart => exact ⟨0, rfl, by omega, rfl, H⟩
      case round =>
        clear H
        obtain ⟨j, hgj, hj, rfl, H⟩ := hrel
        have Hgj := Lib.hid hgj
        clear hgj
        by_cases hjlt : j < v.n
        · obtain ⟨q, hq⟩ : ∃ q, v.l[j]? = some q := ⟨_, List.getElem?_eq_getElem (by rw [HVL.out]; exact hjlt)⟩
          obtain ⟨gb, hgb⟩ := own_block0 (H.out.row 6 rfl) (by omega)
          have HGB := Lib.hid hgb
          obtain ⟨hs1, hs2⟩ := setList_step (g := g) hq
          have hqm : q ∈ eachN n.con := List.mem_append_left _ (List.mem_flatten.2 ⟨v.l, List.mem_of_getElem? HLS.out, List.mem_of_getElem? hq⟩)
          have HQF := Lib.hid (HF.out q hqm)
          have hqc := (HOKC.out q hqm).ch
          unfold I64 at hqc
          rw [hgb] at H
          have hxv : (((v.l.take j).map (mvCl g) ++ v.l.drop j).flatMap Cel.cells)[j * 12 + 1]? = some (.int .i64 q.ch) := by
            have h := flat_set ((v.l.take j).map (mvCl g) ++ v.l.drop j) j q (List.getElem?_eq_some_iff.1 hs1).1 (j * 12 + 1)
            rw [set_self hs1] at h
            rw [h]
            show (if j * 12 ≤ j * 12 + 1 ∧ j * 12 + 1 < j * 12 + 12 then (Cel.cells q)[j * 12 + 1 - j * 12]? else _) = _
            rw [if_pos ⟨by omega, by omega⟩, show j * 12 + 1 - j * 12 = 1 by omega]
            rfl
          have HXV := Lib.hid hxv
          have cq := (own_cellN (H.out.row 6 rfl) hxv).1
          clear hxv
          have HS1 := Lib.hid (flat_setC _ _ _ hs1 (g q.ch))
          have HS2 : Hid (((v.l.take j).map (mvCl g) ++ v.l.drop j).set j ⟨q.key, g q.ch, q.ag⟩ = (v.l.take (j + 1)).map (mvCl g) ++ v.l.drop (j + 1)) := hs2
          have j0 : (0 : Int) ≤ j := by omega
          have j1 : (j : Int) < v.n := by omega
          have hj12 : j * 12 + 1 < v.n * 12 := by omega
          clear hq hs1 hs2 hqm
          (try rw [hgb])
          go_wp2_with fail
          refine (HQF.out.2 _ H.out.to).mono ?_; rintro e w6 ⟨rfl, hb6⟩
          replace H := Lib.hid (H.out.bel hb6); (try simp only [List.set_cons_zero, List.set_cons_succ, List.cons_append, List.nil_append, List.eraseIdx_cons_zero, List.eraseIdx_cons_succ, List.setIfInBounds_toArray, World.size_alloc, selR, List.getD_cons_zero, List.getD_cons_succ] at H)
          clear cq hb6
          obtain ⟨cq, fq⟩ := own_cellN (H.out.row 6 rfl) HXV.out
          go_upto_region 11 with fail
          replace H := Lib.hid (H.out.setCellN 6 rfl hj12 (.int .i64 (g q.ch))); (try simp only [List.set_cons_zero, List.set_cons_succ, List.cons_append, List.nil_append, List.eraseIdx_cons_zero, List.eraseIdx_cons_succ, List.setIfInBounds_toArray, World.size_alloc, selR, List.getD_cons_zero, List.getD_cons_succ] at H)
          rw [HS1.out, HS2.out] at H
          clear cq fq
          go_wp2_with fail
          (try rw [← HGB.out] at H)
          (try rw [← HGB.out])
          go_roundg (v.n - (j + 1))
          case rel => exact ⟨j + 1, rfl, by omega, by go_num, H⟩
          case measure => rw [Hgj.out]; omega
        · obtain rfl : j = v.n := by omega
          have HE : Hid ((v.l.take v.n).map (mvCl g) ++ v.l.drop v.n = v.l.map (mvCl g)) := by show _ = _; rw [List.take_of_length_le (by rw [HVL.out]; exact Nat.le_refl _), List.drop_of_length_le (by rw [HVL.out]; exact Nat.le_refl _), List.append_nil]
          rw [HE.out] at H
          replace H := Lib.hid (H.out.snocD 5 6 (r := rCs) (a := (⟨v.A, v.n, v.c, v.l.map (mvCl g)⟩ : Row Cl)) (by omega) rfl rfl); (try simp only [List.set_cons_zero, List.set_cons_succ, List.cons_append, List.nil_append, List.eraseIdx_cons_zero, List.eraseIdx_cons_succ, List.setIfInBounds_toArray, World.size_alloc, selR, List.getD_cons_zero, List.getD_cons_succ] at H)
          have HK2 : Hid ((L1 ++ [(⟨v.A, v.n, v.c, v.l.map (mvCl g)⟩ : Row Cl)]).length = k + 1 ∧ L0.drop (k + 1) = L0.drop (k + 1) ∧ (L1 ++ [(⟨v.A, v.n, v.c, v.l.map (mvCl g)⟩ : Row Cl)]).map Row.v = (L0.take (k + 1)).map Row.v ∧ (L1 ++ [(⟨v.A, v.n, v.c, v.l.map (mvCl g)⟩ : Row Cl)]).map Row.l = (L0.take (k + 1)).map (fun v => v.l.map (mvCl g)) ∧ ∀ y ∈ L1 ++ [(⟨v.A, v.n, v.c, v.l.map (mvCl g)⟩ : Row Cl)], y.n ≤ 1000000 ∧ ∀ q ∈ y.l, q.ok) := by
            obtain ⟨a1, a2, a3, a4, a5⟩ := HK.out
            have ht : L0.take (k + 1) = L0.take k ++ [v] := by rw [List.take_add_one, HV0.out]; rfl
            refine ⟨by rw [List.length_append, a1]; rfl, rfl, by rw [ht, List.map_append, List.map_append, a3]; rfl, by rw [ht, List.map_append, List.map_append, a4]; rfl, fun y hy => ?_⟩
            rcases List.mem_append.1 hy with hy | hy
            · exact a5 y hy
            · rw [List.mem_singleton] at hy
              subst hy
              refine ⟨hvn, fun z hz => ?_⟩
              obtain ⟨z0, hz0, rfl⟩ := List.mem_map.1 hz
              have h0 := HVB.out.2 z0 hz0
              exact ⟨h0.key, (HF.out z0 (List.mem_append_left _ (List.mem_flatten.2 ⟨v.l, List.mem_of_getElem? HLS.out, hz0⟩))).1, h0.ag⟩
          go_wp2_with fail
          go_roundg (n.ls.n - (k + 1))
          case rel => exact ⟨k + 1, _, L0.drop (k + 1), rfl, by omega, by go_num, ⟨HK2.out.1, rfl, HK2.out.2.2⟩, H⟩
          case measure => rw [Hgk.out]; omega
    · obtain rfl : k = n.ls.n := by omega
      have HQF := Lib.hid (HF.out n.all (List.mem_append_right _ (List.mem_singleton.2 rfl)))
      have ca : W0.cell? ⟨o, 3, none⟩ = some (.int .i64 n.all.ch) := (H.out.blk 3 rfl).cell 3
      have hac := HI64.out.2.ch
      unfold I64 at hac
      go_wp2_with fail
      refine (HQF.out.2 _ H.out.to).mono ?_; rintro e w6 ⟨rfl, hb6⟩
      replace H := Lib.hid (H.out.bel hb6); (try simp only [List.set_cons_zero, List.set_cons_succ, List.cons_append, List.nil_append, List.eraseIdx_cons_zero, List.eraseIdx_cons_succ, List.setIfInBounds_toArray, World.size_alloc, selR, List.getD_cons_zero, List.getD_cons_succ] at H)
      clear ca hb6
      have c7 := (H.out.blk 3 rfl).cell 3; simp only [List.getElem?_toArray, List.getElem?_cons_zero, List.getElem?_cons_succ] at c7; have f7 := (H.out.blk 3 rfl).frozen 3
      go_upto_region 14 with fail
      (try simp only [Act.put, List.setIfInBounds_toArray, List.set_cons_zero, List.set_cons_succ])
      replace H := Lib.hid (H.out.setCell 3 rfl 3 (.int .i64 (g n.all.ch))); (try simp only [List.set_cons_zero, List.set_cons_succ, List.cons_append, List.nil_append, List.eraseIdx_cons_zero, List.eraseIdx_cons_succ, List.setIfInBounds_toArray, World.size_alloc, selR, List.getD_cons_zero, List.getD_cons_succ] at H)
      clear c7 f7
      generalize World.setCell _ _ _ = w7 at *
      have HDC : Hid ((Nd.mk n.dim ⟨A, n.ls.n, c, L1⟩ (mvCl g n.all)).con = ⟨n.dim, L0.map (fun v => v.l.map (mvCl g)), mvCl g n.all⟩) := by
        show NC.mk _ _ _ = _
        rw [HK.out.2.2.2.1, List.take_of_length_le (by rw [HLN.out]; exact Nat.le_refl _)]
      have HRV : Hid (L0.map Row.v = L1.map Row.v) := by show _ = _; rw [HK.out.2.2.1, List.take_of_length_le (by rw [HLN.out]; exact Nat.le_refl _)]
      go_wp2_with (first | ((with_reducible show wpList _ _ _ (⟨some 50, _, _, _, _, _⟩ :: _) _ _); (refine wpList_load_blk rfl rowNd (.tmp 7) rfl _ rfl (H.out.blk 3 rfl) rfl ?_)) | ((with_reducible show wpList _ _ _ (⟨_, .store _ (.tmp 6) _, _, _, _, _⟩ :: _) _ _); (refine wpList_store_blk rfl rowNd (.tmp 6) (.tmp 50) rfl _ rfl (H.out.blk 2 rfl) rfl ((Nd.mk n.dim ⟨A, n.ls.n, c, L1⟩ (mvCl g n.all)).cs) rfl rfl (nd_one _) ?_; intro wq bq hgq; replace H := Lib.hid (H.out.setBlk 2 rfl hgq bq); (try simp only [List.set_cons_zero, List.set_cons_succ, List.cons_append, List.nil_append, List.eraseIdx_cons_zero, List.eraseIdx_cons_succ, List.setIfInBounds_toArray, World.size_alloc, selR, List.getD_cons_zero, List.getD_cons_succ] at H); clear hgq bq)))
      refine bodyPost_ret (results_blk1 rfl rowNd rfl (H.out.blk 2 rfl) rfl) rfl ?_
      rw [HRV.out] at H
      replace H := Lib.hid (H.out.mkNd 4 5 (n := Nd.mk n.dim ⟨A, n.ls.n, c, L1⟩ (mvCl g n.all)) (by omega) rfl rfl ⟨HI64.out.1, HI64.out.2.key, HQF.out.1, HI64.out.2.ag⟩ HK.out.2.2.2.2 HB1.out); (try simp only [List.set_cons_zero, List.set_cons_succ, List.cons_append, List.nil_append, List.eraseIdx_cons_zero, List.eraseIdx_cons_succ, List.setIfInBounds_toArray, World.size_alloc, selR, List.getD_cons_zero, List.getD_cons_succ] at H)
      exact ⟨Nd.mk n.dim ⟨A, n.ls.n, c, L1⟩ (mvCl g n.all), rfl, by rw [HDC.out, HV.out], rfl, fun y hy => (HK.out.2.2.2.2 y hy).1, H.out.to, H.out.get 4 rfl, H.out.new 4 rfl⟩

end Go.Proofs.Ytlclllkjnhgbjaa
