/- The document's nodes whose cells lead elsewhere. -/
import Derived.Test.YtlclllkjnhgbjaaRmvP
import Derived.Test.YtlclllkjnhgbjaaBv
import Derived.Test.YtlclllkjnhgbjaaBu
namespace Go.Proofs.Ytlclllkjnhgbjaa
open Go.RowKit
set_option linter.unusedVariables false
set_option linter.unusedSimpArgs false


set_option maxRecDepth 100000 in
set_option maxHeartbeats 4000000 in
theorem rmove_any (s : Shp) (n : Nd) (pl : Row Int) (w : World) (hs : s.rd w) (hn : n.rd w) (hp : pl.rd w) (hb1 : n.ls.n ≤ 1000000) (hb2 : ∀ x ∈ n.ls.l, x.n ≤ 1000000) :
    Calls Try.prog 60 #[.agg s.cs, .agg n.cs, .slice pl.A pl.n pl.c] w fun e w' => ∃ D : Nd, e = .returned (.agg D.cs) ∧ D.con = moveC s.sz.n (plc pl.l) n.con ∧ D.ls.n = n.ls.n ∧ (∀ x ∈ D.ls.l, x.n ≤ 1000000) ∧ Bel w w' ∧ NewR w w' (rNd D) := by
  have H := Lib.hid ((((SL.start No w).alloc s.cs 24).alloc n.cs 34).alloc #[.int .i64 0, .slice none 0 0, .int .i64 0, .int .i64 0, .int .i64 0, .int .i64 0, .int .i64 0, .int .i64 0, .int .i64 0, .int .i64 0, .int .i64 0, .int .i64 0, .int .i64 0, .int .i64 0] 34)
  (try simp only [List.set_cons_zero, List.set_cons_succ, List.cons_append, List.nil_append, List.eraseIdx_cons_zero, List.eraseIdx_cons_succ, List.setIfInBounds_toArray, World.size_alloc, selR, List.getD_cons_zero, List.getD_cons_succ] at H)
  have HN := Lib.hid (fun w' (hb : Bel w w') => hn.ls.mono hb)
  have HP := Lib.hid (fun w' (hb : Bel w w') => hp.mono hb)
  have HPI : Hid (∀ z ∈ pl.l, I64 z) := hp.all
  have hll : Hid (n.ls.l.length = n.ls.n) := hn.ls.len
  have hpl : Hid (pl.l.length = pl.n) := hp.len
  have HB2 := Lib.hid hb2
  have HI64 : Hid (I64 n.dim ∧ n.all.ok) := ⟨hn.dim, hn.all⟩
  have n63 := hs.sz.n63
  have p63 := hp.n63
  have ha64 := hn.all.ch
  unfold I64 at ha64
  obtain ⟨inner, hin⟩ : ∃ b, b = (n.dim != (s.sz.n : Int) - 1) := ⟨_, rfl⟩
  have HIN := Lib.hid hin
  have HMV : Hid (moveC s.sz.n (plc pl.l) n.con = ⟨n.dim, n.ls.l.map (fun v => v.l.map (gcl inner (plc pl.l))), (gcl inner (plc pl.l)) n.all⟩) := by
    show _ = _
    rw [moveC_gcl, hin]
    show NC.mk n.dim ((n.ls.l.map Row.l).map _) _ = _
    rw [List.map_map]
    rfl
  have hcs : s.cs = #[.slice s.sz.A s.sz.n s.sz.c, .int .i64 s.ms] := rfl
  have HCS := Lib.hid hcs
  clear hcs hs hn hp hb2 hin
  go_enter Try.func60, Try.ntmps60
  go_upto_region 1 with fail
  (try rw [← HCS.out] at *)
  generalize w.heap.size + 1 + 1 = r at *
  generalize w.heap.size + 1 = y at *
  generalize w.heap.size = x at *
  generalize World.alloc (World.alloc (World.alloc _ _) _) _ = w1 at *
  have cd : w1.cell? ⟨y, 0, none⟩ = some (.int .i64 n.dim) := (H.out.blk 1 rfl).cell 0
  have HAL : Hid (w1.rangeAt y 2 n.all.cs.toList) := fun j v hv => by
    have := (H.out.blk 1 rfl).range (j + 2) v (by rw [nd_all]; exact hv)
    rw [show 0 + (j + 2) = 2 + j by omega] at this
    exact this
  have hbd : ∀ w : World, (Instr.build 34 #[(0, .int .i64 n.dim), (2, .agg n.all.cs)]).run Try.prog w = .ok (.agg (Nd.mk n.dim ⟨none, 0, 0, []⟩ n.all).cs) w := fun _ => by kernel_rfl
  go_upto_region 2 with (first | ((with_reducible show wpList _ _ _ (⟨some 17, _, _, _, _, _⟩ :: _) _ _); (refine wpList_load_row_at rfl rowCl (.tmp 16) rfl y (2) rfl n.all.cs rfl HAL.out ?_)) | ((with_reducible show wpList _ _ _ (⟨some 18, _, _, _, _, _⟩ :: _) _ _); refine wpList_build2N rfl (.tmp 15) (.tmp 17) rfl rfl rfl hbd ?_) | ((with_reducible show wpList _ _ _ (⟨_, .store _ (.tmp 7) _, _, _, _, _⟩ :: _) _ _); (refine wpList_store_new rfl rowNd (.tmp 7) (.tmp 18) rfl rfl rfl ((Nd.mk n.dim ⟨none, 0, 0, []⟩ n.all).cs) rfl rfl (nd_one _) ?_; replace H := Lib.hid (H.out.alloc ((Nd.mk n.dim ⟨none, 0, 0, []⟩ n.all).cs) 34); (try simp only [List.set_cons_zero, List.set_cons_succ, List.cons_append, List.nil_append, List.eraseIdx_cons_zero, List.eraseIdx_cons_succ, List.setIfInBounds_toArray, World.size_alloc, selR, List.getD_cons_zero, List.getD_cons_succ] at H))))
  (try simp only [Act.put, List.setIfInBounds_toArray, List.set_cons_zero, List.set_cons_succ])
  clear cd HAL hbd
  generalize w1.heap.size = o at *
  generalize World.alloc w1 _ = w2 at *
  replace H := Lib.hid (H.out.addNil 44 1); (try simp only [List.set_cons_zero, List.set_cons_succ, List.cons_append, List.nil_append, List.eraseIdx_cons_zero, List.eraseIdx_cons_succ, List.setIfInBounds_toArray, World.size_alloc, selR, List.getD_cons_zero, List.getD_cons_succ] at H)
  replace H := Lib.hid (H.out.add (Bel.refl _) (rListD rCs []) (holds_listD_nil _ _) listD_nil_D); (try simp only [List.set_cons_zero, List.set_cons_succ, List.cons_append, List.nil_append, List.eraseIdx_cons_zero, List.eraseIdx_cons_succ, List.setIfInBounds_toArray, World.size_alloc, selR, List.getD_cons_zero, List.getD_cons_succ] at H)
  have cd : w2.cell? ⟨y, 0, none⟩ = some (.int .i64 n.dim) := (H.out.blk 1 rfl).cell 0
  have cz : w2.cell? ⟨x, 0, none⟩ = some (.slice s.sz.A s.sz.n s.sz.c) := (H.out.blk 0 rfl).cell 0
  have ca : w2.cell? ⟨y, 3, none⟩ = some (.int .i64 n.all.ch) := (H.out.blk 1 rfl).cell 3
  have hd64 := HI64.out.1
  unfold I64 at hd64
  go_upto_region 3 with fail
  rw [← HIN.out]
  clear cd cz
  cases inner with
  | false =>
    have HIA : Hid (n.all = gcl false (plc pl.l) n.all) := rfl
    rw [HIA.out] at H
    clear ca
    have cl : w2.cell? ⟨y, 1, none⟩ = some (.slice n.ls.A n.ls.n n.ls.c) := (H.out.blk 1 rfl).cell 1
    have HL : Hid (([] : List (Row Cl)).map Row.l = (n.ls.l.take 0).map (fun v => v.l.map (gcl false (plc pl.l)))) := rfl
    have HLB : Hid (∀ x ∈ ([] : List (Row Cl)), x.n ≤ 1000000 ∧ ∀ c ∈ x.l, c.ok) := fun x hx => by cases hx
    go_upto_region 6 with fail
    clear cl
    go_loopg [10, 11, 52] n.ls.n (fun gg s10 s11 s52 wr => ∃ (k : Nat) (B : Option Addr) (d : Nat) (L : List (Row Cl)), gg = n.ls.n - k ∧ k ≤ n.ls.n ∧ s52 = .int .i64 k ∧ Hid (L.length = k) ∧ Hid (SL No w wr [rBlk x 24 s.cs, rBlk y 34 n.cs, rBlk r 34 #[.int .i64 0, .slice none 0 0, .int .i64 0, .int .i64 0, .int .i64 0, .int .i64 0, .int .i64 0, .int .i64 0, .int .i64 0, .int .i64 0, .int .i64 0, .int .i64 0, .int .i64 0, .int .i64 0], rBlk o 34 (Nd.mk n.dim ⟨B, k, d, L⟩ (gcl false (plc pl.l) n.all)).cs, rRow 44 1 (.slice B k d) k (L.map Row.v), rListD rCs L]) ∧ Hid (L.map Row.l = (n.ls.l.take k).map (fun v => v.l.map (gcl false (plc pl.l)))) ∧ Hid (∀ x ∈ L, x.n ≤ 1000000 ∧ ∀ c ∈ x.l, c.ok))
    case atStart => exact ⟨0, none, 0, [], rfl, by omega, rfl, rfl, H, HL, HLB⟩
    case round =>
      clear H HL HLB
      obtain ⟨k, B, d, L, hgk, hk, rfl, hLk, H, HL, HLB⟩ := hrel
      have Hgk := Lib.hid hgk
      clear hgk
      obtain ⟨W0, hW0⟩ : ∃ W0, W0 = wr := ⟨_, rfl⟩
      subst hW0
      by_cases hlt : k < n.ls.n
      · obtain ⟨bl, ol, v, hAl, hvk, hvok, hvc⟩ := (HN.out _ H.out.to).clsAt (k := k) hlt
        have hvn := HB2.out v (List.mem_of_getElem? hvk)
        have hvm := List.mem_of_getElem? hvk
        have HVK := Lib.hid hvk
        have HVR := Lib.hid (fun w' (hb : Bel w w') => Row.ok.rds ((HN.out w' hb).all v hvm))
        have hvl : Hid (v.l.length = v.n) := hvok.len
        have HAL := Lib.hid hAl
        have HVO := Lib.hid hvok.all
        have k0 : (0 : Int) ≤ k := by omega
        have k1 : (k : Int) < n.ls.n := by omega
        rw [hAl]
        clear hvk hvok hvm hAl
        replace H := Lib.hid (H.out.addNil 32 12); (try simp only [List.set_cons_zero, List.set_cons_succ, List.cons_append, List.nil_append, List.eraseIdx_cons_zero, List.eraseIdx_cons_succ, List.setIfInBounds_toArray, World.size_alloc, selR, List.getD_cons_zero, List.getD_cons_succ] at H)
        go_upto_region 10 with fail
        clear hvc
        go_loopg [11, 58] v.n (fun gg s11 s58 wx => ∃ (j : Nat) (A : Option Addr) (c : Nat), gg = v.n - j ∧ j ≤ v.n ∧ s11 = .slice A j c ∧ s58 = .int .i64 j ∧ Hid (SL No w wx [rBlk x 24 s.cs, rBlk y 34 n.cs, rBlk r 34 #[.int .i64 0, .slice none 0 0, .int .i64 0, .int .i64 0, .int .i64 0, .int .i64 0, .int .i64 0, .int .i64 0, .int .i64 0, .int .i64 0, .int .i64 0, .int .i64 0, .int .i64 0, .int .i64 0], rBlk o 34 (Nd.mk n.dim ⟨B, k, d, L⟩ (gcl false (plc pl.l) n.all)).cs, rRow 44 1 (.slice B k d) k (L.map Row.v), rListD rCs L, rRow 32 12 (.slice A j c) j (((v.l.take j).map (gcl false (plc pl.l))).flatMap Cel.cells)]))
        case atStart => exact ⟨0, none, 0, rfl, by omega, rfl, rfl, H⟩
        case round =>
          clear H
          obtain ⟨j, A, c, hgj, hj, rfl, rfl, H⟩ := hrel
          have Hgj := Lib.hid hgj
          clear hgj
          by_cases hjlt : j < v.n
          · obtain ⟨bv, ov, q, hAv, hbv, hqk, hqok, hrg⟩ := (HVR.out _ H.out.to).clAt (k := j) hjlt
            have hq64 := hqok.ch
            unfold I64 at hq64
            have HQK := Lib.hid hqk
            have HAV := Lib.hid hAv
            have HRG := Lib.hid hrg
            have j0 : (0 : Int) ≤ j := by omega
            have j1 : (j : Int) < v.n := by omega
            rw [hAv]
            clear hqk hAv hrg hqok
            go_upto_region 12 with (first | ((with_reducible show wpList _ _ _ (⟨some 61, _, _, _, _, _⟩ :: _) _ _); (refine wpList_load_row_at rfl rowCl (.tmp 60) rfl bv (ov + j * 12) rfl q.cs rfl HRG.out ?_)) | ((with_reducible show wpList _ _ _ (⟨_, .store _ (.tmp 13) _, _, _, _, _⟩ :: _) _ _); (refine wpList_store_new rfl rowCl (.tmp 13) (.tmp 61) rfl rfl rfl (q.cs) rfl rfl (cl_one q) ?_; replace H := Lib.hid (H.out.alloc (q.cs) 32); (try simp only [List.set_cons_zero, List.set_cons_succ, List.cons_append, List.nil_append, List.eraseIdx_cons_zero, List.eraseIdx_cons_succ, List.setIfInBounds_toArray, World.size_alloc, selR, List.getD_cons_zero, List.getD_cons_succ] at H))))
            (try simp only [Act.put, List.setIfInBounds_toArray, List.set_cons_zero, List.set_cons_succ])
            clear HRG hbv
            generalize wr.heap.size = u at *
            generalize World.alloc wr _ = w5 at *
            have cq : w5.cell? ⟨u, 1, none⟩ = some (.int .i64 q.ch) := (H.out.blk 7 rfl).cell 1
            have HGQ : Hid ((gcl false (plc pl.l)) q = q) := rfl
            go_upto_region 14 with fail
            clear cq
            go_wp2_with (first | ((with_reducible show wpList _ _ _ (⟨some 82, _, _, _, _, _⟩ :: _) _ _); (refine wpList_load_blk rfl rowCl (.tmp 13) rfl _ rfl (H.out.blk 7 rfl) rfl ?_)) | ((with_reducible show wpList _ _ _ (⟨some 83, _, _, _, _, _⟩ :: _) _ _); (refine wpList_buildSlice1 rfl E_cl (.tmp 82) rfl ((q).cs) rfl rfl (by omega) ?_; replace H := Lib.hid (H.out.addRow ((Bel.refl _).alloc _) (own_made _ 32 ((q).cs) _ rfl)); (try simp only [List.set_cons_zero, List.set_cons_succ, List.cons_append, List.nil_append, List.eraseIdx_cons_zero, List.eraseIdx_cons_succ, List.setIfInBounds_toArray, World.size_alloc, selR, List.getD_cons_zero, List.getD_cons_succ] at H))) | ((with_reducible show wpList _ _ _ (⟨some 84, _, _, _, _, _⟩ :: _) _ _); (refine wpList_append0 rfl (.tmp 81) (.tmp 83) _ rfl E_cl 0 (Nat.zero_le _) _ j _ rfl (H.out.row 6 rfl) _ 1 1 _ rfl (Rd.of_own (H.out.row 8 rfl)) (cl1_one (q)) (by unfold maxLen; omega) (by omega) ?_; intro vq wq howq hgq hatq; replace H := Lib.hid (H.out.setRow 6 rfl hgq howq hatq); (try simp only [List.set_cons_zero, List.set_cons_succ, List.cons_append, List.nil_append, List.eraseIdx_cons_zero, List.eraseIdx_cons_succ, List.setIfInBounds_toArray, World.size_alloc, selR, List.getD_cons_zero, List.getD_cons_succ] at H); clear howq hgq hatq; obtain ⟨A3, c3, rfl, _⟩ := own_slice (H.out.row 6 rfl))))
            replace H := Lib.hid (H.out.sel [0, 1, 2, 3, 4, 5, 6] (by decide) (by simp)); (try simp only [List.set_cons_zero, List.set_cons_succ, List.cons_append, List.nil_append, List.eraseIdx_cons_zero, List.eraseIdx_cons_succ, List.setIfInBounds_toArray, World.size_alloc, selR, List.getD_cons_zero, List.getD_cons_succ] at H)
            have HAC2 : Hid ((v.l.take j).map (gcl false (plc pl.l)) ++ [q] = (v.l.take (j + 1)).map (gcl false (plc pl.l))) := by show _ = _; rw [take_snoc' HQK.out, List.map_append]; show _ = _ ++ [(gcl false (plc pl.l)) q]; rw [HGQ.out]
            have HAF : Hid (((v.l.take j).map (gcl false (plc pl.l))).flatMap Cel.cells ++ (q).cs.toList = ((v.l.take (j + 1)).map (gcl false (plc pl.l))).flatMap Cel.cells) := by show _ = _; rw [← HAC2.out, List.flatMap_append, List.flatMap_cons, List.flatMap_nil, List.append_nil]; rfl
            rw [HAF.out] at H
            go_wp2_with fail
            rw [← HAV.out]
            go_roundg (v.n - (j + 1))
            case rel => exact ⟨j + 1, A3, c3, rfl, by omega, rfl, by go_num, H⟩
            case measure => rw [Hgj.out]; omega
          · obtain rfl : j = v.n := by omega
            have HTL : Hid ((v.l.take v.n).map (gcl false (plc pl.l)) = v.l.map (gcl false (plc pl.l))) := by show _ = _; rw [List.take_of_length_le (by rw [hvl.out]; exact Nat.le_refl _)]
            rw [HTL.out] at H
            have c1 := (H.out.blk 3 rfl).cell 1; simp only [List.getElem?_toArray, List.getElem?_cons_zero, List.getElem?_cons_succ] at c1
            go_wp2_with ((with_reducible show wpList _ _ _ (⟨some 90, _, _, _, _, _⟩ :: _) _ _); (replace H := Lib.hid (H.out.alloc #[.slice A v.n c] 44); (try simp only [List.set_cons_zero, List.set_cons_succ, List.cons_append, List.nil_append, List.eraseIdx_cons_zero, List.eraseIdx_cons_succ, List.setIfInBounds_toArray, World.size_alloc, selR, List.getD_cons_zero, List.getD_cons_succ] at H); refine wpList_append0 rfl (.tmp 87) (.tmp 89) _ rfl E_cls 0 (Nat.zero_le _) _ k _ rfl (H.out.row 4 rfl) _ 1 1 [.slice A v.n c] rfl (reads_of_block (H.out.blk 7 rfl) rfl) (by simp [Value.oneCell']) (by unfold maxLen; omega) (by omega) ?_; intro vq wq howq hgq hatq; replace H := Lib.hid (H.out.setRow 4 rfl hgq howq hatq); (try simp only [List.set_cons_zero, List.set_cons_succ, List.cons_append, List.nil_append, List.eraseIdx_cons_zero, List.eraseIdx_cons_succ, List.setIfInBounds_toArray, World.size_alloc, selR, List.getD_cons_zero, List.getD_cons_succ] at H); clear howq hgq hatq; obtain ⟨B2, e2, rfl, _⟩ := own_slice (H.out.row 4 rfl); clear c1; have c1 := (H.out.blk 3 rfl).cell 1; simp only [List.getElem?_toArray, List.getElem?_cons_zero, List.getElem?_cons_succ] at c1; have f1 := (H.out.blk 3 rfl).frozen 1))
            replace H := Lib.hid (H.out.setCell 3 rfl 1 (.slice B2 (k + 1) e2)); (try simp only [List.set_cons_zero, List.set_cons_succ, List.cons_append, List.nil_append, List.eraseIdx_cons_zero, List.eraseIdx_cons_succ, List.setIfInBounds_toArray, World.size_alloc, selR, List.getD_cons_zero, List.getD_cons_succ] at H)
            clear c1 f1
            replace H := Lib.hid (H.out.snocD 5 6 (r := rCs) (a := (⟨A, v.n, c, v.l.map (gcl false (plc pl.l))⟩ : Row Cl)) (by omega) rfl rfl); (try simp only [List.set_cons_zero, List.set_cons_succ, List.cons_append, List.nil_append, List.eraseIdx_cons_zero, List.eraseIdx_cons_succ, List.setIfInBounds_toArray, World.size_alloc, selR, List.getD_cons_zero, List.getD_cons_succ] at H)
            replace H := Lib.hid (H.out.sel [0, 1, 2, 3, 4, 5] (by decide) (by simp)); (try simp only [List.set_cons_zero, List.set_cons_succ, List.cons_append, List.nil_append, List.eraseIdx_cons_zero, List.eraseIdx_cons_succ, List.setIfInBounds_toArray, World.size_alloc, selR, List.getD_cons_zero, List.getD_cons_succ] at H)
            have HLB2 : Hid (∀ y ∈ L ++ [(⟨A, v.n, c, v.l.map (gcl false (plc pl.l))⟩ : Row Cl)], y.n ≤ 1000000 ∧ ∀ c ∈ y.l, c.ok) := fun y hy => by
              rcases List.mem_append.1 hy with h | h
              · exact HLB.out y h
              · rw [List.mem_singleton] at h
                subst h
                refine ⟨hvn, fun z hz => ?_⟩
                obtain ⟨z0, hz0, rfl⟩ := List.mem_map.1 hz
                have h0 := HVO.out z0 hz0
                cases hib : (false : Bool) with
                | false => exact h0
                | true => exact ⟨h0.key, i64_plc HPI.out h0.ch, h0.ag⟩
            have HL2 : Hid ((L ++ [(⟨A, v.n, c, v.l.map (gcl false (plc pl.l))⟩ : Row Cl)]).map Row.l = (n.ls.l.take (k + 1)).map (fun v => v.l.map (gcl false (plc pl.l)))) := by show _ = _; rw [List.map_append, HL.out, take_snoc' HVK.out, List.map_append]; rfl
            clear HLB HL
            rw [← HAL.out]
            go_roundg (n.ls.n - (k + 1))
            case rel => exact ⟨k + 1, B2, e2, L ++ [(⟨A, v.n, c, v.l.map (gcl false (plc pl.l))⟩ : Row Cl)], rfl, by omega, by go_num, by show _ = _; rw [List.length_append, hLk.out]; rfl, by rw [List.map_append]; exact H, HL2, HLB2⟩
            case measure => rw [Hgk.out]; omega
      · obtain rfl : k = n.ls.n := by omega
        have HF : Hid (L.map Row.l = n.ls.l.map (fun v => v.l.map (gcl false (plc pl.l)))) := by show _ = _; rw [HL.out, List.take_of_length_le (by rw [hll.out]; exact Nat.le_refl _)]
        go_wp2_with (first | ((with_reducible show wpList _ _ _ (⟨some 93, _, _, _, _, _⟩ :: _) _ _); (refine wpList_load_blk rfl rowNd (.tmp 7) rfl _ rfl (H.out.blk 3 rfl) rfl ?_)) | ((with_reducible show wpList _ _ _ (⟨_, .store _ (.tmp 6) _, _, _, _, _⟩ :: _) _ _); (refine wpList_store_blk rfl rowNd (.tmp 6) (.tmp 93) rfl _ rfl (H.out.blk 2 rfl) rfl ((Nd.mk n.dim ⟨B, n.ls.n, d, L⟩ ((gcl false (plc pl.l)) n.all)).cs) rfl rfl (nd_one _) ?_; intro wq bq hgq; replace H := Lib.hid (H.out.setBlk 2 rfl hgq bq); (try simp only [List.set_cons_zero, List.set_cons_succ, List.cons_append, List.nil_append, List.eraseIdx_cons_zero, List.eraseIdx_cons_succ, List.setIfInBounds_toArray, World.size_alloc, selR, List.getD_cons_zero, List.getD_cons_succ] at H); clear hgq bq)))
        refine bodyPost_ret (results_blk1 rfl rowNd rfl (H.out.blk 2 rfl) rfl) rfl ?_
        have HOA : Hid (Cl.ok ((gcl false (plc pl.l)) n.all)) := by
          have h0 := HI64.out.2
          cases hib : (false : Bool) with
          | false => exact h0
          | true => exact ⟨h0.key, i64_plc HPI.out h0.ch, h0.ag⟩
        replace H := Lib.hid (H.out.mkNd 4 5 (n := Nd.mk n.dim ⟨B, n.ls.n, d, L⟩ ((gcl false (plc pl.l)) n.all)) (by omega) rfl rfl ⟨HI64.out.1, HOA.out⟩ HLB.out hb1); (try simp only [List.set_cons_zero, List.set_cons_succ, List.cons_append, List.nil_append, List.eraseIdx_cons_zero, List.eraseIdx_cons_succ, List.setIfInBounds_toArray, World.size_alloc, selR, List.getD_cons_zero, List.getD_cons_succ] at H)
        refine ⟨Nd.mk n.dim ⟨B, n.ls.n, d, L⟩ ((gcl false (plc pl.l)) n.all), rfl, ?_, rfl, fun y hy => (HLB.out y hy).1, H.out.to, H.out.get 4 rfl, H.out.new 4 rfl⟩
        rw [HMV.out]
        show NC.mk n.dim (L.map Row.l) _ = _
        rw [HF.out]
  | true =>
    by_cases h1 : 0 ≤ n.all.ch
    · obtain ⟨i, hi⟩ : ∃ i : Nat, n.all.ch = i := ⟨n.all.ch.toNat, by omega⟩
      rw [hi] at ca
      by_cases h2 : i < pl.n
      · obtain ⟨bp, op, z, hAp, hzk, hz64, hzc⟩ := (HP.out _ H.out.to).intAt (k := i) h2
        have HAP := Lib.hid hAp
        have HGA : Hid ((Cl.mk n.all.key z n.all.ag) = gcl true (plc pl.l) n.all) := by
          show _ = mvCl _ _
          unfold mvCl plc
          rw [hi, if_pos ⟨by omega, by rw [hpl.out]; omega⟩, Int.toNat_natCast, hzk]
          rfl
        have e1 : decide ((0 : Int) ≤ (i : Int)) = true := by simp
        have e2 : decide ((i : Int) < (pl.n : Int)) = true := by simp <;> omega
        have e2n : decide (i < pl.n) = true := by simp <;> omega
        have i0 : (0 : Int) ≤ i := by omega
        have i1 : (i : Int) < pl.n := by omega
        clear hi h1 h2 hzk hz64
        go_upto_region 4 with fail
        rw [hAp]
        have c7 := (H.out.blk 3 rfl).cell 3; simp only [List.getElem?_toArray, List.getElem?_cons_zero, List.getElem?_cons_succ] at c7; have f7 := (H.out.blk 3 rfl).frozen 3
        go_upto_region 5 with fail
        (try simp only [Act.put, List.setIfInBounds_toArray, List.set_cons_zero, List.set_cons_succ])
        replace H := Lib.hid (H.out.setCell 3 rfl 3 (.int .i64 z)); (try simp only [List.set_cons_zero, List.set_cons_succ, List.cons_append, List.nil_append, List.eraseIdx_cons_zero, List.eraseIdx_cons_succ, List.setIfInBounds_toArray, World.size_alloc, selR, List.getD_cons_zero, List.getD_cons_succ] at H)
        clear e1 e2 e2n ca c7 f7 hzc hAp i0 i1
        rw [← HAP.out]
        generalize World.setCell _ _ _ = w3 at *
        have HGB : Hid (SL No w w3 [rBlk x 24 s.cs, rBlk y 34 n.cs, rBlk r 34 #[.int .i64 0, .slice none 0 0, .int .i64 0, .int .i64 0, .int .i64 0, .int .i64 0, .int .i64 0, .int .i64 0, .int .i64 0, .int .i64 0, .int .i64 0, .int .i64 0, .int .i64 0, .int .i64 0], rBlk o 34 (Nd.mk n.dim ⟨none, 0, 0, []⟩ (Cl.mk n.all.key z n.all.ag)).cs, rRow 44 1 (.slice none 0 0) 0 [], rListD rCs []]) := H
        replace H := HGB
        clear HGB
        rw [HGA.out] at H
        have cl : w3.cell? ⟨y, 1, none⟩ = some (.slice n.ls.A n.ls.n n.ls.c) := (H.out.blk 1 rfl).cell 1
        have HL : Hid (([] : List (Row Cl)).map Row.l = (n.ls.l.take 0).map (fun v => v.l.map (gcl true (plc pl.l)))) := rfl
        have HLB : Hid (∀ x ∈ ([] : List (Row Cl)), x.n ≤ 1000000 ∧ ∀ c ∈ x.l, c.ok) := fun x hx => by cases hx
        go_upto_region 6 with fail
        clear cl
        go_loopg [10, 11, 52] n.ls.n (fun gg s10 s11 s52 wr => ∃ (k : Nat) (B : Option Addr) (d : Nat) (L : List (Row Cl)), gg = n.ls.n - k ∧ k ≤ n.ls.n ∧ s52 = .int .i64 k ∧ Hid (L.length = k) ∧ Hid (SL No w wr [rBlk x 24 s.cs, rBlk y 34 n.cs, rBlk r 34 #[.int .i64 0, .slice none 0 0, .int .i64 0, .int .i64 0, .int .i64 0, .int .i64 0, .int .i64 0, .int .i64 0, .int .i64 0, .int .i64 0, .int .i64 0, .int .i64 0, .int .i64 0, .int .i64 0], rBlk o 34 (Nd.mk n.dim ⟨B, k, d, L⟩ (gcl true (plc pl.l) n.all)).cs, rRow 44 1 (.slice B k d) k (L.map Row.v), rListD rCs L]) ∧ Hid (L.map Row.l = (n.ls.l.take k).map (fun v => v.l.map (gcl true (plc pl.l)))) ∧ Hid (∀ x ∈ L, x.n ≤ 1000000 ∧ ∀ c ∈ x.l, c.ok))
        case atStart => exact ⟨0, none, 0, [], rfl, by omega, rfl, rfl, H, HL, HLB⟩
        case round =>
          clear H HL HLB
          obtain ⟨k, B, d, L, hgk, hk, rfl, hLk, H, HL, HLB⟩ := hrel
          have Hgk := Lib.hid hgk
          clear hgk
          obtain ⟨W0, hW0⟩ : ∃ W0, W0 = wr := ⟨_, rfl⟩
          subst hW0
          by_cases hlt : k < n.ls.n
          · obtain ⟨bl, ol, v, hAl, hvk, hvok, hvc⟩ := (HN.out _ H.out.to).clsAt (k := k) hlt
            have hvn := HB2.out v (List.mem_of_getElem? hvk)
            have hvm := List.mem_of_getElem? hvk
            have HVK := Lib.hid hvk
            have HVR := Lib.hid (fun w' (hb : Bel w w') => Row.ok.rds ((HN.out w' hb).all v hvm))
            have hvl : Hid (v.l.length = v.n) := hvok.len
            have HAL := Lib.hid hAl
            have HVO := Lib.hid hvok.all
            have k0 : (0 : Int) ≤ k := by omega
            have k1 : (k : Int) < n.ls.n := by omega
            rw [hAl]
            clear hvk hvok hvm hAl
            replace H := Lib.hid (H.out.addNil 32 12); (try simp only [List.set_cons_zero, List.set_cons_succ, List.cons_append, List.nil_append, List.eraseIdx_cons_zero, List.eraseIdx_cons_succ, List.setIfInBounds_toArray, World.size_alloc, selR, List.getD_cons_zero, List.getD_cons_succ] at H)
            go_upto_region 10 with fail
            clear hvc
            go_loopg [11, 58] v.n (fun gg s11 s58 wx => ∃ (j : Nat) (A : Option Addr) (c : Nat), gg = v.n - j ∧ j ≤ v.n ∧ s11 = .slice A j c ∧ s58 = .int .i64 j ∧ Hid (SL No w wx [rBlk x 24 s.cs, rBlk y 34 n.cs, rBlk r 34 #[.int .i64 0, .slice none 0 0, .int .i64 0, .int .i64 0, .int .i64 0, .int .i64 0, .int .i64 0, .int .i64 0, .int .i64 0, .int .i64 0, .int .i64 0, .int .i64 0, .int .i64 0, .int .i64 0], rBlk o 34 (Nd.mk n.dim ⟨B, k, d, L⟩ (gcl true (plc pl.l) n.all)).cs, rRow 44 1 (.slice B k d) k (L.map Row.v), rListD rCs L, rRow 32 12 (.slice A j c) j (((v.l.take j).map (gcl true (plc pl.l))).flatMap Cel.cells)]))
            case atStart => exact ⟨0, none, 0, rfl, by omega, rfl, rfl, H⟩
            case round =>
              clear H
              obtain ⟨j, A, c, hgj, hj, rfl, rfl, H⟩ := hrel
              have Hgj := Lib.hid hgj
              clear hgj
              by_cases hjlt : j < v.n
              · obtain ⟨bv, ov, q, hAv, hbv, hqk, hqok, hrg⟩ := (HVR.out _ H.out.to).clAt (k := j) hjlt
                have hq64 := hqok.ch
                unfold I64 at hq64
                have HQK := Lib.hid hqk
                have HAV := Lib.hid hAv
                have HRG := Lib.hid hrg
                have j0 : (0 : Int) ≤ j := by omega
                have j1 : (j : Int) < v.n := by omega
                rw [hAv]
                clear hqk hAv hrg hqok
                go_upto_region 12 with (first | ((with_reducible show wpList _ _ _ (⟨some 61, _, _, _, _, _⟩ :: _) _ _); (refine wpList_load_row_at rfl rowCl (.tmp 60) rfl bv (ov + j * 12) rfl q.cs rfl HRG.out ?_)) | ((with_reducible show wpList _ _ _ (⟨_, .store _ (.tmp 13) _, _, _, _, _⟩ :: _) _ _); (refine wpList_store_new rfl rowCl (.tmp 13) (.tmp 61) rfl rfl rfl (q.cs) rfl rfl (cl_one q) ?_; replace H := Lib.hid (H.out.alloc (q.cs) 32); (try simp only [List.set_cons_zero, List.set_cons_succ, List.cons_append, List.nil_append, List.eraseIdx_cons_zero, List.eraseIdx_cons_succ, List.setIfInBounds_toArray, World.size_alloc, selR, List.getD_cons_zero, List.getD_cons_succ] at H))))
                (try simp only [Act.put, List.setIfInBounds_toArray, List.set_cons_zero, List.set_cons_succ])
                clear HRG hbv
                generalize wr.heap.size = u at *
                generalize World.alloc wr _ = w5 at *
                have cq : w5.cell? ⟨u, 1, none⟩ = some (.int .i64 q.ch) := (H.out.blk 7 rfl).cell 1
                by_cases h1 : 0 ≤ q.ch
                · obtain ⟨i, hi⟩ : ∃ i : Nat, q.ch = i := ⟨q.ch.toNat, by omega⟩
                  rw [hi] at cq
                  by_cases h2 : i < pl.n
                  · obtain ⟨bp, op, z, hAp, hzk, hz64, hzc⟩ := (HP.out _ H.out.to).intAt (k := i) h2
                    have HAP := Lib.hid hAp
                    have HGQ : Hid ((gcl true (plc pl.l)) q = ⟨q.key, z, q.ag⟩) := by
                      show mvCl _ _ = _
                      unfold mvCl plc
                      rw [hi, if_pos ⟨by omega, by rw [hpl.out]; omega⟩, Int.toNat_natCast, hzk]
                      rfl
                    have e1 : decide ((0 : Int) ≤ (i : Int)) = true := by simp
                    have e2 : decide ((i : Int) < (pl.n : Int)) = true := by simp <;> omega
                    have e2n : decide (i < pl.n) = true := by simp <;> omega
                    have i0 : (0 : Int) ≤ i := by omega
                    have i1 : (i : Int) < pl.n := by omega
                    clear hi h1 h2 hzk hz64
                    go_upto_region 13 with fail
                    rw [hAp]
                    have fq := (H.out.blk 7 rfl).frozen 1
                    go_upto_region 14 with fail
                    (try simp only [Act.put, List.setIfInBounds_toArray, List.set_cons_zero, List.set_cons_succ])
                    replace H := Lib.hid (H.out.setCell 7 rfl 1 (.int .i64 z)); (try simp only [List.set_cons_zero, List.set_cons_succ, List.cons_append, List.nil_append, List.eraseIdx_cons_zero, List.eraseIdx_cons_succ, List.setIfInBounds_toArray, World.size_alloc, selR, List.getD_cons_zero, List.getD_cons_succ] at H)
                    clear e1 e2 e2n cq fq hzc hAp
                    rw [← HAP.out]
                    generalize World.setCell _ _ _ = w6 at *
                    go_wp2_with (first | ((with_reducible show wpList _ _ _ (⟨some 82, _, _, _, _, _⟩ :: _) _ _); (refine wpList_load_blk rfl rowCl (.tmp 13) rfl _ rfl (H.out.blk 7 rfl) rfl ?_)) | ((with_reducible show wpList _ _ _ (⟨some 83, _, _, _, _, _⟩ :: _) _ _); (refine wpList_buildSlice1 rfl E_cl (.tmp 82) rfl ((Cl.mk q.key z q.ag).cs) rfl rfl (by omega) ?_; replace H := Lib.hid (H.out.addRow ((Bel.refl _).alloc _) (own_made _ 32 ((Cl.mk q.key z q.ag).cs) _ rfl)); (try simp only [List.set_cons_zero, List.set_cons_succ, List.cons_append, List.nil_append, List.eraseIdx_cons_zero, List.eraseIdx_cons_succ, List.setIfInBounds_toArray, World.size_alloc, selR, List.getD_cons_zero, List.getD_cons_succ] at H))) | ((with_reducible show wpList _ _ _ (⟨some 84, _, _, _, _, _⟩ :: _) _ _); (refine wpList_append0 rfl (.tmp 81) (.tmp 83) _ rfl E_cl 0 (Nat.zero_le _) _ j _ rfl (H.out.row 6 rfl) _ 1 1 _ rfl (Rd.of_own (H.out.row 8 rfl)) (cl1_one (Cl.mk q.key z q.ag)) (by unfold maxLen; omega) (by omega) ?_; intro vq wq howq hgq hatq; replace H := Lib.hid (H.out.setRow 6 rfl hgq howq hatq); (try simp only [List.set_cons_zero, List.set_cons_succ, List.cons_append, List.nil_append, List.eraseIdx_cons_zero, List.eraseIdx_cons_succ, List.setIfInBounds_toArray, World.size_alloc, selR, List.getD_cons_zero, List.getD_cons_succ] at H); clear howq hgq hatq; obtain ⟨A3, c3, rfl, _⟩ := own_slice (H.out.row 6 rfl))))
                    replace H := Lib.hid (H.out.sel [0, 1, 2, 3, 4, 5, 6] (by decide) (by simp)); (try simp only [List.set_cons_zero, List.set_cons_succ, List.cons_append, List.nil_append, List.eraseIdx_cons_zero, List.eraseIdx_cons_succ, List.setIfInBounds_toArray, World.size_alloc, selR, List.getD_cons_zero, List.getD_cons_succ] at H)
                    have HAC2 : Hid ((v.l.take j).map (gcl true (plc pl.l)) ++ [Cl.mk q.key z q.ag] = (v.l.take (j + 1)).map (gcl true (plc pl.l))) := by show _ = _; rw [take_snoc' HQK.out, List.map_append]; show _ = _ ++ [(gcl true (plc pl.l)) q]; rw [HGQ.out]
                    have HAF : Hid (((v.l.take j).map (gcl true (plc pl.l))).flatMap Cel.cells ++ (Cl.mk q.key z q.ag).cs.toList = ((v.l.take (j + 1)).map (gcl true (plc pl.l))).flatMap Cel.cells) := by show _ = _; rw [← HAC2.out, List.flatMap_append, List.flatMap_cons, List.flatMap_nil, List.append_nil]; rfl
                    rw [HAF.out] at H
                    go_wp2_with fail
                    rw [← HAV.out]
                    go_roundg (v.n - (j + 1))
                    case rel => exact ⟨j + 1, A3, c3, rfl, by omega, rfl, by go_num, H⟩
                    case measure => rw [Hgj.out]; omega
                  · have HGQ : Hid ((gcl true (plc pl.l)) q = q) := by
                      show mvCl _ _ = _
                      unfold mvCl plc
                      rw [if_neg (by rw [hpl.out, hi]; omega)]
                    have e1 : decide ((0 : Int) ≤ (i : Int)) = true := by simp
                    have e2 : decide ((i : Int) < (pl.n : Int)) = false := by simp <;> omega
                    have e2n : decide (i < pl.n) = false := by simp <;> omega
                    clear hi h1 h2
                    go_upto_region 14 with fail
                    clear e1 e2 e2n cq
                    go_wp2_with (first | ((with_reducible show wpList _ _ _ (⟨some 82, _, _, _, _, _⟩ :: _) _ _); (refine wpList_load_blk rfl rowCl (.tmp 13) rfl _ rfl (H.out.blk 7 rfl) rfl ?_)) | ((with_reducible show wpList _ _ _ (⟨some 83, _, _, _, _, _⟩ :: _) _ _); (refine wpList_buildSlice1 rfl E_cl (.tmp 82) rfl ((q).cs) rfl rfl (by omega) ?_; replace H := Lib.hid (H.out.addRow ((Bel.refl _).alloc _) (own_made _ 32 ((q).cs) _ rfl)); (try simp only [List.set_cons_zero, List.set_cons_succ, List.cons_append, List.nil_append, List.eraseIdx_cons_zero, List.eraseIdx_cons_succ, List.setIfInBounds_toArray, World.size_alloc, selR, List.getD_cons_zero, List.getD_cons_succ] at H))) | ((with_reducible show wpList _ _ _ (⟨some 84, _, _, _, _, _⟩ :: _) _ _); (refine wpList_append0 rfl (.tmp 81) (.tmp 83) _ rfl E_cl 0 (Nat.zero_le _) _ j _ rfl (H.out.row 6 rfl) _ 1 1 _ rfl (Rd.of_own (H.out.row 8 rfl)) (cl1_one (q)) (by unfold maxLen; omega) (by omega) ?_; intro vq wq howq hgq hatq; replace H := Lib.hid (H.out.setRow 6 rfl hgq howq hatq); (try simp only [List.set_cons_zero, List.set_cons_succ, List.cons_append, List.nil_append, List.eraseIdx_cons_zero, List.eraseIdx_cons_succ, List.setIfInBounds_toArray, World.size_alloc, selR, List.getD_cons_zero, List.getD_cons_succ] at H); clear howq hgq hatq; obtain ⟨A3, c3, rfl, _⟩ := own_slice (H.out.row 6 rfl))))
                    replace H := Lib.hid (H.out.sel [0, 1, 2, 3, 4, 5, 6] (by decide) (by simp)); (try simp only [List.set_cons_zero, List.set_cons_succ, List.cons_append, List.nil_append, List.eraseIdx_cons_zero, List.eraseIdx_cons_succ, List.setIfInBounds_toArray, World.size_alloc, selR, List.getD_cons_zero, List.getD_cons_succ] at H)
                    have HAC2 : Hid ((v.l.take j).map (gcl true (plc pl.l)) ++ [q] = (v.l.take (j + 1)).map (gcl true (plc pl.l))) := by show _ = _; rw [take_snoc' HQK.out, List.map_append]; show _ = _ ++ [(gcl true (plc pl.l)) q]; rw [HGQ.out]
                    have HAF : Hid (((v.l.take j).map (gcl true (plc pl.l))).flatMap Cel.cells ++ (q).cs.toList = ((v.l.take (j + 1)).map (gcl true (plc pl.l))).flatMap Cel.cells) := by show _ = _; rw [← HAC2.out, List.flatMap_append, List.flatMap_cons, List.flatMap_nil, List.append_nil]; rfl
                    rw [HAF.out] at H
                    go_wp2_with fail
                    rw [← HAV.out]
                    go_roundg (v.n - (j + 1))
                    case rel => exact ⟨j + 1, A3, c3, rfl, by omega, rfl, by go_num, H⟩
                    case measure => rw [Hgj.out]; omega
                · have HGQ : Hid ((gcl true (plc pl.l)) q = q) := by
                    show mvCl _ _ = _
                    unfold mvCl plc
                    rw [if_neg (by omega)]
                  have e1 : decide ((0 : Int) ≤ q.ch) = false := by simpa using h1
                  clear h1
                  go_upto_region 14 with fail
                  clear e1 cq
                  go_wp2_with (first | ((with_reducible show wpList _ _ _ (⟨some 82, _, _, _, _, _⟩ :: _) _ _); (refine wpList_load_blk rfl rowCl (.tmp 13) rfl _ rfl (H.out.blk 7 rfl) rfl ?_)) | ((with_reducible show wpList _ _ _ (⟨some 83, _, _, _, _, _⟩ :: _) _ _); (refine wpList_buildSlice1 rfl E_cl (.tmp 82) rfl ((q).cs) rfl rfl (by omega) ?_; replace H := Lib.hid (H.out.addRow ((Bel.refl _).alloc _) (own_made _ 32 ((q).cs) _ rfl)); (try simp only [List.set_cons_zero, List.set_cons_succ, List.cons_append, List.nil_append, List.eraseIdx_cons_zero, List.eraseIdx_cons_succ, List.setIfInBounds_toArray, World.size_alloc, selR, List.getD_cons_zero, List.getD_cons_succ] at H))) | ((with_reducible show wpList _ _ _ (⟨some 84, _, _, _, _, _⟩ :: _) _ _); (refine wpList_append0 rfl (.tmp 81) (.tmp 83) _ rfl E_cl 0 (Nat.zero_le _) _ j _ rfl (H.out.row 6 rfl) _ 1 1 _ rfl (Rd.of_own (H.out.row 8 rfl)) (cl1_one (q)) (by unfold maxLen; omega) (by omega) ?_; intro vq wq howq hgq hatq; replace H := Lib.hid (H.out.setRow 6 rfl hgq howq hatq); (try simp only [List.set_cons_zero, List.set_cons_succ, List.cons_append, List.nil_append, List.eraseIdx_cons_zero, List.eraseIdx_cons_succ, List.setIfInBounds_toArray, World.size_alloc, selR, List.getD_cons_zero, List.getD_cons_succ] at H); clear howq hgq hatq; obtain ⟨A3, c3, rfl, _⟩ := own_slice (H.out.row 6 rfl))))
                  replace H := Lib.hid (H.out.sel [0, 1, 2, 3, 4, 5, 6] (by decide) (by simp)); (try simp only [List.set_cons_zero, List.set_cons_succ, List.cons_append, List.nil_append, List.eraseIdx_cons_zero, List.eraseIdx_cons_succ, List.setIfInBounds_toArray, World.size_alloc, selR, List.getD_cons_zero, List.getD_cons_succ] at H)
                  have HAC2 : Hid ((v.l.take j).map (gcl true (plc pl.l)) ++ [q] = (v.l.take (j + 1)).map (gcl true (plc pl.l))) := by show _ = _; rw [take_snoc' HQK.out, List.map_append]; show _ = _ ++ [(gcl true (plc pl.l)) q]; rw [HGQ.out]
                  have HAF : Hid (((v.l.take j).map (gcl true (plc pl.l))).flatMap Cel.cells ++ (q).cs.toList = ((v.l.take (j + 1)).map (gcl true (plc pl.l))).flatMap Cel.cells) := by show _ = _; rw [← HAC2.out, List.flatMap_append, List.flatMap_cons, List.flatMap_nil, List.append_nil]; rfl
                  rw [HAF.out] at H
                  go_wp2_with fail
                  rw [← HAV.out]
                  go_roundg (v.n - (j + 1))
                  case rel => exact ⟨j + 1, A3, c3, rfl, by omega, rfl, by go_num, H⟩
                  case measure => rw [Hgj.out]; omega
              · obtain rfl : j = v.n := by omega
                have HTL : Hid ((v.l.take v.n).map (gcl true (plc pl.l)) = v.l.map (gcl true (plc pl.l))) := by show _ = _; rw [List.take_of_length_le (by rw [hvl.out]; exact Nat.le_refl _)]
                rw [HTL.out] at H
                have c1 := (H.out.blk 3 rfl).cell 1; simp only [List.getElem?_toArray, List.getElem?_cons_zero, List.getElem?_cons_succ] at c1
                go_wp2_with ((with_reducible show wpList _ _ _ (⟨some 90, _, _, _, _, _⟩ :: _) _ _); (replace H := Lib.hid (H.out.alloc #[.slice A v.n c] 44); (try simp only [List.set_cons_zero, List.set_cons_succ, List.cons_append, List.nil_append, List.eraseIdx_cons_zero, List.eraseIdx_cons_succ, List.setIfInBounds_toArray, World.size_alloc, selR, List.getD_cons_zero, List.getD_cons_succ] at H); refine wpList_append0 rfl (.tmp 87) (.tmp 89) _ rfl E_cls 0 (Nat.zero_le _) _ k _ rfl (H.out.row 4 rfl) _ 1 1 [.slice A v.n c] rfl (reads_of_block (H.out.blk 7 rfl) rfl) (by simp [Value.oneCell']) (by unfold maxLen; omega) (by omega) ?_; intro vq wq howq hgq hatq; replace H := Lib.hid (H.out.setRow 4 rfl hgq howq hatq); (try simp only [List.set_cons_zero, List.set_cons_succ, List.cons_append, List.nil_append, List.eraseIdx_cons_zero, List.eraseIdx_cons_succ, List.setIfInBounds_toArray, World.size_alloc, selR, List.getD_cons_zero, List.getD_cons_succ] at H); clear howq hgq hatq; obtain ⟨B2, e2, rfl, _⟩ := own_slice (H.out.row 4 rfl); clear c1; have c1 := (H.out.blk 3 rfl).cell 1; simp only [List.getElem?_toArray, List.getElem?_cons_zero, List.getElem?_cons_succ] at c1; have f1 := (H.out.blk 3 rfl).frozen 1))
                replace H := Lib.hid (H.out.setCell 3 rfl 1 (.slice B2 (k + 1) e2)); (try simp only [List.set_cons_zero, List.set_cons_succ, List.cons_append, List.nil_append, List.eraseIdx_cons_zero, List.eraseIdx_cons_succ, List.setIfInBounds_toArray, World.size_alloc, selR, List.getD_cons_zero, List.getD_cons_succ] at H)
                clear c1 f1
                replace H := Lib.hid (H.out.snocD 5 6 (r := rCs) (a := (⟨A, v.n, c, v.l.map (gcl true (plc pl.l))⟩ : Row Cl)) (by omega) rfl rfl); (try simp only [List.set_cons_zero, List.set_cons_succ, List.cons_append, List.nil_append, List.eraseIdx_cons_zero, List.eraseIdx_cons_succ, List.setIfInBounds_toArray, World.size_alloc, selR, List.getD_cons_zero, List.getD_cons_succ] at H)
                replace H := Lib.hid (H.out.sel [0, 1, 2, 3, 4, 5] (by decide) (by simp)); (try simp only [List.set_cons_zero, List.set_cons_succ, List.cons_append, List.nil_append, List.eraseIdx_cons_zero, List.eraseIdx_cons_succ, List.setIfInBounds_toArray, World.size_alloc, selR, List.getD_cons_zero, List.getD_cons_succ] at H)
                have HLB2 : Hid (∀ y ∈ L ++ [(⟨A, v.n, c, v.l.map (gcl true (plc pl.l))⟩ : Row Cl)], y.n ≤ 1000000 ∧ ∀ c ∈ y.l, c.ok) := fun y hy => by
                  rcases List.mem_append.1 hy with h | h
                  · exact HLB.out y h
                  · rw [List.mem_singleton] at h
                    subst h
                    refine ⟨hvn, fun z hz => ?_⟩
                    obtain ⟨z0, hz0, rfl⟩ := List.mem_map.1 hz
                    have h0 := HVO.out z0 hz0
                    cases hib : (true : Bool) with
                    | false => exact h0
                    | true => exact ⟨h0.key, i64_plc HPI.out h0.ch, h0.ag⟩
                have HL2 : Hid ((L ++ [(⟨A, v.n, c, v.l.map (gcl true (plc pl.l))⟩ : Row Cl)]).map Row.l = (n.ls.l.take (k + 1)).map (fun v => v.l.map (gcl true (plc pl.l)))) := by show _ = _; rw [List.map_append, HL.out, take_snoc' HVK.out, List.map_append]; rfl
                clear HLB HL
                rw [← HAL.out]
                go_roundg (n.ls.n - (k + 1))
                case rel => exact ⟨k + 1, B2, e2, L ++ [(⟨A, v.n, c, v.l.map (gcl true (plc pl.l))⟩ : Row Cl)], rfl, by omega, by go_num, by show _ = _; rw [List.length_append, hLk.out]; rfl, by rw [List.map_append]; exact H, HL2, HLB2⟩
                case measure => rw [Hgk.out]; omega
          · obtain rfl : k = n.ls.n := by omega
            have HF : Hid (L.map Row.l = n.ls.l.map (fun v => v.l.map (gcl true (plc pl.l)))) := by show _ = _; rw [HL.out, List.take_of_length_le (by rw [hll.out]; exact Nat.le_refl _)]
            go_wp2_with (first | ((with_reducible show wpList _ _ _ (⟨some 93, _, _, _, _, _⟩ :: _) _ _); (refine wpList_load_blk rfl rowNd (.tmp 7) rfl _ rfl (H.out.blk 3 rfl) rfl ?_)) | ((with_reducible show wpList _ _ _ (⟨_, .store _ (.tmp 6) _, _, _, _, _⟩ :: _) _ _); (refine wpList_store_blk rfl rowNd (.tmp 6) (.tmp 93) rfl _ rfl (H.out.blk 2 rfl) rfl ((Nd.mk n.dim ⟨B, n.ls.n, d, L⟩ ((gcl true (plc pl.l)) n.all)).cs) rfl rfl (nd_one _) ?_; intro wq bq hgq; replace H := Lib.hid (H.out.setBlk 2 rfl hgq bq); (try simp only [List.set_cons_zero, List.set_cons_succ, List.cons_append, List.nil_append, List.eraseIdx_cons_zero, List.eraseIdx_cons_succ, List.setIfInBounds_toArray, World.size_alloc, selR, List.getD_cons_zero, List.getD_cons_succ] at H); clear hgq bq)))
            refine bodyPost_ret (results_blk1 rfl rowNd rfl (H.out.blk 2 rfl) rfl) rfl ?_
            have HOA : Hid (Cl.ok ((gcl true (plc pl.l)) n.all)) := by
              have h0 := HI64.out.2
              cases hib : (true : Bool) with
              | false => exact h0
              | true => exact ⟨h0.key, i64_plc HPI.out h0.ch, h0.ag⟩
            replace H := Lib.hid (H.out.mkNd 4 5 (n := Nd.mk n.dim ⟨B, n.ls.n, d, L⟩ ((gcl true (plc pl.l)) n.all)) (by omega) rfl rfl ⟨HI64.out.1, HOA.out⟩ HLB.out hb1); (try simp only [List.set_cons_zero, List.set_cons_succ, List.cons_append, List.nil_append, List.eraseIdx_cons_zero, List.eraseIdx_cons_succ, List.setIfInBounds_toArray, World.size_alloc, selR, List.getD_cons_zero, List.getD_cons_succ] at H)
            refine ⟨Nd.mk n.dim ⟨B, n.ls.n, d, L⟩ ((gcl true (plc pl.l)) n.all), rfl, ?_, rfl, fun y hy => (HLB.out y hy).1, H.out.to, H.out.get 4 rfl, H.out.new 4 rfl⟩
            rw [HMV.out]
            show NC.mk n.dim (L.map Row.l) _ = _
            rw [HF.out]
      · have HGA : Hid (n.all = gcl true (plc pl.l) n.all) := by
          show _ = mvCl _ _
          unfold mvCl plc
          rw [if_neg (by rw [hpl.out, hi]; omega)]
        have e1 : decide ((0 : Int) ≤ (i : Int)) = true := by simp
        have e2 : decide ((i : Int) < (pl.n : Int)) = false := by simp <;> omega
        have e2n : decide (i < pl.n) = false := by simp <;> omega
        clear hi h1 h2
        go_upto_region 5 with fail
        clear e1 e2 e2n ca
        have HGB : Hid (∀ W, SL No w W [rBlk x 24 s.cs, rBlk y 34 n.cs, rBlk r 34 #[.int .i64 0, .slice none 0 0, .int .i64 0, .int .i64 0, .int .i64 0, .int .i64 0, .int .i64 0, .int .i64 0, .int .i64 0, .int .i64 0, .int .i64 0, .int .i64 0, .int .i64 0, .int .i64 0], rBlk o 34 (Nd.mk n.dim ⟨none, 0, 0, []⟩ n.all).cs, rRow 44 1 (.slice none 0 0) 0 [], rListD rCs []] → SL No w W [rBlk x 24 s.cs, rBlk y 34 n.cs, rBlk r 34 #[.int .i64 0, .slice none 0 0, .int .i64 0, .int .i64 0, .int .i64 0, .int .i64 0, .int .i64 0, .int .i64 0, .int .i64 0, .int .i64 0, .int .i64 0, .int .i64 0, .int .i64 0, .int .i64 0], rBlk o 34 (Nd.mk n.dim ⟨none, 0, 0, []⟩ (gcl true (plc pl.l) n.all)).cs, rRow 44 1 (.slice none 0 0) 0 [], rListD rCs []]) := fun W h => by rw [← HGA.out]; exact h
        replace H := Lib.hid (HGB.out _ H.out)
        clear HGB HGA
        have cl : w2.cell? ⟨y, 1, none⟩ = some (.slice n.ls.A n.ls.n n.ls.c) := (H.out.blk 1 rfl).cell 1
        have HL : Hid (([] : List (Row Cl)).map Row.l = (n.ls.l.take 0).map (fun v => v.l.map (gcl true (plc pl.l)))) := rfl
        have HLB : Hid (∀ x ∈ ([] : List (Row Cl)), x.n ≤ 1000000 ∧ ∀ c ∈ x.l, c.ok) := fun x hx => by cases hx
        go_upto_region 6 with fail
        clear cl
        go_loopg [10, 11, 52] n.ls.n (fun gg s10 s11 s52 wr => ∃ (k : Nat) (B : Option Addr) (d : Nat) (L : List (Row Cl)), gg = n.ls.n - k ∧ k ≤ n.ls.n ∧ s52 = .int .i64 k ∧ Hid (L.length = k) ∧ Hid (SL No w wr [rBlk x 24 s.cs, rBlk y 34 n.cs, rBlk r 34 #[.int .i64 0, .slice none 0 0, .int .i64 0, .int .i64 0, .int .i64 0, .int .i64 0, .int .i64 0, .int .i64 0, .int .i64 0, .int .i64 0, .int .i64 0, .int .i64 0, .int .i64 0, .int .i64 0], rBlk o 34 (Nd.mk n.dim ⟨B, k, d, L⟩ (gcl true (plc pl.l) n.all)).cs, rRow 44 1 (.slice B k d) k (L.map Row.v), rListD rCs L]) ∧ Hid (L.map Row.l = (n.ls.l.take k).map (fun v => v.l.map (gcl true (plc pl.l)))) ∧ Hid (∀ x ∈ L, x.n ≤ 1000000 ∧ ∀ c ∈ x.l, c.ok))
        case atStart => exact ⟨0, none, 0, [], rfl, by omega, rfl, rfl, H, HL, HLB⟩
        case round =>
          clear H HL HLB
          obtain ⟨k, B, d, L, hgk, hk, rfl, hLk, H, HL, HLB⟩ := hrel
          have Hgk := Lib.hid hgk
          clear hgk
          obtain ⟨W0, hW0⟩ : ∃ W0, W0 = wr := ⟨_, rfl⟩
          subst hW0
          by_cases hlt : k < n.ls.n
          · obtain ⟨bl, ol, v, hAl, hvk, hvok, hvc⟩ := (HN.out _ H.out.to).clsAt (k := k) hlt
            have hvn := HB2.out v (List.mem_of_getElem? hvk)
            have hvm := List.mem_of_getElem? hvk
            have HVK := Lib.hid hvk
            have HVR := Lib.hid (fun w' (hb : Bel w w') => Row.ok.rds ((HN.out w' hb).all v hvm))
            have hvl : Hid (v.l.length = v.n) := hvok.len
            have HAL := Lib.hid hAl
            have HVO := Lib.hid hvok.all
            have k0 : (0 : Int) ≤ k := by omega
            have k1 : (k : Int) < n.ls.n := by omega
            rw [hAl]
            clear hvk hvok hvm hAl
            replace H := Lib.hid (H.out.addNil 32 12); (try simp only [List.set_cons_zero, List.set_cons_succ, List.cons_append, List.nil_append, List.eraseIdx_cons_zero, List.eraseIdx_cons_succ, List.setIfInBounds_toArray, World.size_alloc, selR, List.getD_cons_zero, List.getD_cons_succ] at H)
            go_upto_region 10 with fail
            clear hvc
            go_loopg [11, 58] v.n (fun gg s11 s58 wx => ∃ (j : Nat) (A : Option Addr) (c : Nat), gg = v.n - j ∧ j ≤ v.n ∧ s11 = .slice A j c ∧ s58 = .int .i64 j ∧ Hid (SL No w wx [rBlk x 24 s.cs, rBlk y 34 n.cs, rBlk r 34 #[.int .i64 0, .slice none 0 0, .int .i64 0, .int .i64 0, .int .i64 0, .int .i64 0, .int .i64 0, .int .i64 0, .int .i64 0, .int .i64 0, .int .i64 0, .int .i64 0, .int .i64 0, .int .i64 0], rBlk o 34 (Nd.mk n.dim ⟨B, k, d, L⟩ (gcl true (plc pl.l) n.all)).cs, rRow 44 1 (.slice B k d) k (L.map Row.v), rListD rCs L, rRow 32 12 (.slice A j c) j (((v.l.take j).map (gcl true (plc pl.l))).flatMap Cel.cells)]))
            case atStart => exact ⟨0, none, 0, rfl, by omega, rfl, rfl, H⟩
            case round =>
              clear H
              obtain ⟨j, A, c, hgj, hj, rfl, rfl, H⟩ := hrel
              have Hgj := Lib.hid hgj
              clear hgj
              by_cases hjlt : j < v.n
              · obtain ⟨bv, ov, q, hAv, hbv, hqk, hqok, hrg⟩ := (HVR.out _ H.out.to).clAt (k := j) hjlt
                have hq64 := hqok.ch
                unfold I64 at hq64
                have HQK := Lib.hid hqk
                have HAV := Lib.hid hAv
                have HRG := Lib.hid hrg
                have j0 : (0 : Int) ≤ j := by omega
                have j1 : (j : Int) < v.n := by omega
                rw [hAv]
                clear hqk hAv hrg hqok
                go_upto_region 12 with (first | ((with_reducible show wpList _ _ _ (⟨some 61, _, _, _, _, _⟩ :: _) _ _); (refine wpList_load_row_at rfl rowCl (.tmp 60) rfl bv (ov + j * 12) rfl q.cs rfl HRG.out ?_)) | ((with_reducible show wpList _ _ _ (⟨_, .store _ (.tmp 13) _, _, _, _, _⟩ :: _) _ _); (refine wpList_store_new rfl rowCl (.tmp 13) (.tmp 61) rfl rfl rfl (q.cs) rfl rfl (cl_one q) ?_; replace H := Lib.hid (H.out.alloc (q.cs) 32); (try simp only [List.set_cons_zero, List.set_cons_succ, List.cons_append, List.nil_append, List.eraseIdx_cons_zero, List.eraseIdx_cons_succ, List.setIfInBounds_toArray, World.size_alloc, selR, List.getD_cons_zero, List.getD_cons_succ] at H))))
                (try simp only [Act.put, List.setIfInBounds_toArray, List.set_cons_zero, List.set_cons_succ])
                clear HRG hbv
                generalize wr.heap.size = u at *
                generalize World.alloc wr _ = w5 at *
                have cq : w5.cell? ⟨u, 1, none⟩ = some (.int .i64 q.ch) := (H.out.blk 7 rfl).cell 1
                by_cases h1 : 0 ≤ q.ch
                · obtain ⟨i, hi⟩ : ∃ i : Nat, q.ch = i := ⟨q.ch.toNat, by omega⟩
                  rw [hi] at cq
                  by_cases h2 : i < pl.n
                  · obtain ⟨bp, op, z, hAp, hzk, hz64, hzc⟩ := (HP.out _ H.out.to).intAt (k := i) h2
                    have HAP := Lib.hid hAp
                    have HGQ : Hid ((gcl true (plc pl.l)) q = ⟨q.key, z, q.ag⟩) := by
                      show mvCl _ _ = _
                      unfold mvCl plc
                      rw [hi, if_pos ⟨by omega, by rw [hpl.out]; omega⟩, Int.toNat_natCast, hzk]
                      rfl
                    have e1 : decide ((0 : Int) ≤ (i : Int)) = true := by simp
                    have e2 : decide ((i : Int) < (pl.n : Int)) = true := by simp <;> omega
                    have e2n : decide (i < pl.n) = true := by simp <;> omega
                    have i0 : (0 : Int) ≤ i := by omega
                    have i1 : (i : Int) < pl.n := by omega
                    clear hi h1 h2 hzk hz64
                    go_upto_region 13 with fail
                    rw [hAp]
                    have fq := (H.out.blk 7 rfl).frozen 1
                    go_upto_region 14 with fail
                    (try simp only [Act.put, List.setIfInBounds_toArray, List.set_cons_zero, List.set_cons_succ])
                    replace H := Lib.hid (H.out.setCell 7 rfl 1 (.int .i64 z)); (try simp only [List.set_cons_zero, List.set_cons_succ, List.cons_append, List.nil_append, List.eraseIdx_cons_zero, List.eraseIdx_cons_succ, List.setIfInBounds_toArray, World.size_alloc, selR, List.getD_cons_zero, List.getD_cons_succ] at H)
                    clear e1 e2 e2n cq fq hzc hAp
                    rw [← HAP.out]
                    generalize World.setCell _ _ _ = w6 at *
                    go_wp2_with (first | ((with_reducible show wpList _ _ _ (⟨some 82, _, _, _, _, _⟩ :: _) _ _); (refine wpList_load_blk rfl rowCl (.tmp 13) rfl _ rfl (H.out.blk 7 rfl) rfl ?_)) | ((with_reducible show wpList _ _ _ (⟨some 83, _, _, _, _, _⟩ :: _) _ _); (refine wpList_buildSlice1 rfl E_cl (.tmp 82) rfl ((Cl.mk q.key z q.ag).cs) rfl rfl (by omega) ?_; replace H := Lib.hid (H.out.addRow ((Bel.refl _).alloc _) (own_made _ 32 ((Cl.mk q.key z q.ag).cs) _ rfl)); (try simp only [List.set_cons_zero, List.set_cons_succ, List.cons_append, List.nil_append, List.eraseIdx_cons_zero, List.eraseIdx_cons_succ, List.setIfInBounds_toArray, World.size_alloc, selR, List.getD_cons_zero, List.getD_cons_succ] at H))) | ((with_reducible show wpList _ _ _ (⟨some 84, _, _, _, _, _⟩ :: _) _ _); (refine wpList_append0 rfl (.tmp 81) (.tmp 83) _ rfl E_cl 0 (Nat.zero_le _) _ j _ rfl (H.out.row 6 rfl) _ 1 1 _ rfl (Rd.of_own (H.out.row 8 rfl)) (cl1_one (Cl.mk q.key z q.ag)) (by unfold maxLen; omega) (by omega) ?_; intro vq wq howq hgq hatq; replace H := Lib.hid (H.out.setRow 6 rfl hgq howq hatq); (try simp only [List.set_cons_zero, List.set_cons_succ, List.cons_append, List.nil_append, List.eraseIdx_cons_zero, List.eraseIdx_cons_succ, List.setIfInBounds_toArray, World.size_alloc, selR, List.getD_cons_zero, List.getD_cons_succ] at H); clear howq hgq hatq; obtain ⟨A3, c3, rfl, _⟩ := own_slice (H.out.row 6 rfl))))
                    replace H := Lib.hid (H.out.sel [0, 1, 2, 3, 4, 5, 6] (by decide) (by simp)); (try simp only [List.set_cons_zero, List.set_cons_succ, List.cons_append, List.nil_append, List.eraseIdx_cons_zero, List.eraseIdx_cons_succ, List.setIfInBounds_toArray, World.size_alloc, selR, List.getD_cons_zero, List.getD_cons_succ] at H)
                    have HAC2 : Hid ((v.l.take j).map (gcl true (plc pl.l)) ++ [Cl.mk q.key z q.ag] = (v.l.take (j + 1)).map (gcl true (plc pl.l))) := by show _ = _; rw [take_snoc' HQK.out, List.map_append]; show _ = _ ++ [(gcl true (plc pl.l)) q]; rw [HGQ.out]
                    have HAF : Hid (((v.l.take j).map (gcl true (plc pl.l))).flatMap Cel.cells ++ (Cl.mk q.key z q.ag).cs.toList = ((v.l.take (j + 1)).map (gcl true (plc pl.l))).flatMap Cel.cells) := by show _ = _; rw [← HAC2.out, List.flatMap_append, List.flatMap_cons, List.flatMap_nil, List.append_nil]; rfl
                    rw [HAF.out] at H
                    go_wp2_with fail
                    rw [← HAV.out]
                    go_roundg (v.n - (j + 1))
                    case rel => exact ⟨j + 1, A3, c3, rfl, by omega, rfl, by go_num, H⟩
                    case measure => rw [Hgj.out]; omega
                  · have HGQ : Hid ((gcl true (plc pl.l)) q = q) := by
                      show mvCl _ _ = _
                      unfold mvCl plc
                      rw [if_neg (by rw [hpl.out, hi]; omega)]
                    have e1 : decide ((0 : Int) ≤ (i : Int)) = true := by simp
                    have e2 : decide ((i : Int) < (pl.n : Int)) = false := by simp <;> omega
                    have e2n : decide (i < pl.n) = false := by simp <;> omega
                    clear hi h1 h2
                    go_upto_region 14 with fail
                    clear e1 e2 e2n cq
                    go_wp2_with (first | ((with_reducible show wpList _ _ _ (⟨some 82, _, _, _, _, _⟩ :: _) _ _); (refine wpList_load_blk rfl rowCl (.tmp 13) rfl _ rfl (H.out.blk 7 rfl) rfl ?_)) | ((with_reducible show wpList _ _ _ (⟨some 83, _, _, _, _, _⟩ :: _) _ _); (refine wpList_buildSlice1 rfl E_cl (.tmp 82) rfl ((q).cs) rfl rfl (by omega) ?_; replace H := Lib.hid (H.out.addRow ((Bel.refl _).alloc _) (own_made _ 32 ((q).cs) _ rfl)); (try simp only [List.set_cons_zero, List.set_cons_succ, List.cons_append, List.nil_append, List.eraseIdx_cons_zero, List.eraseIdx_cons_succ, List.setIfInBounds_toArray, World.size_alloc, selR, List.getD_cons_zero, List.getD_cons_succ] at H))) | ((with_reducible show wpList _ _ _ (⟨some 84, _, _, _, _, _⟩ :: _) _ _); (refine wpList_append0 rfl (.tmp 81) (.tmp 83) _ rfl E_cl 0 (Nat.zero_le _) _ j _ rfl (H.out.row 6 rfl) _ 1 1 _ rfl (Rd.of_own (H.out.row 8 rfl)) (cl1_one (q)) (by unfold maxLen; omega) (by omega) ?_; intro vq wq howq hgq hatq; replace H := Lib.hid (H.out.setRow 6 rfl hgq howq hatq); (try simp only [List.set_cons_zero, List.set_cons_succ, List.cons_append, List.nil_append, List.eraseIdx_cons_zero, List.eraseIdx_cons_succ, List.setIfInBounds_toArray, World.size_alloc, selR, List.getD_cons_zero, List.getD_cons_succ] at H); clear howq hgq hatq; obtain ⟨A3, c3, rfl, _⟩ := own_slice (H.out.row 6 rfl))))
                    replace H := Lib.hid (H.out.sel [0, 1, 2, 3, 4, 5, 6] (by decide) (by simp)); (try simp only [List.set_cons_zero, List.set_cons_succ, List.cons_append, List.nil_append, List.eraseIdx_cons_zero, List.eraseIdx_cons_succ, List.setIfInBounds_toArray, World.size_alloc, selR, List.getD_cons_zero, List.getD_cons_succ] at H)
                    have HAC2 : Hid ((v.l.take j).map (gcl true (plc pl.l)) ++ [q] = (v.l.take (j + 1)).map (gcl true (plc pl.l))) := by show _ = _; rw [take_snoc' HQK.out, List.map_append]; show _ = _ ++ [(gcl true (plc pl.l)) q]; rw [HGQ.out]
                    have HAF : Hid (((v.l.take j).map (gcl true (plc pl.l))).flatMap Cel.cells ++ (q).cs.toList = ((v.l.take (j + 1)).map (gcl true (plc pl.l))).flatMap Cel.cells) := by show _ = _; rw [← HAC2.out, List.flatMap_append, List.flatMap_cons, List.flatMap_nil, List.append_nil]; rfl
                    rw [HAF.out] at H
                    go_wp2_with fail
                    rw [← HAV.out]
                    go_roundg (v.n - (j + 1))
                    case rel => exact ⟨j + 1, A3, c3, rfl, by omega, rfl, by go_num, H⟩
                    case measure => rw [Hgj.out]; omega
                · have HGQ : Hid ((gcl true (plc pl.l)) q = q) := by
                    show mvCl _ _ = _
                    unfold mvCl plc
                    rw [if_neg (by omega)]
                  have e1 : decide ((0 : Int) ≤ q.ch) = false := by simpa using h1
                  clear h1
                  go_upto_region 14 with fail
                  clear e1 cq
                  go_wp2_with (first | ((with_reducible show wpList _ _ _ (⟨some 82, _, _, _, _, _⟩ :: _) _ _); (refine wpList_load_blk rfl rowCl (.tmp 13) rfl _ rfl (H.out.blk 7 rfl) rfl ?_)) | ((with_reducible show wpList _ _ _ (⟨some 83, _, _, _, _, _⟩ :: _) _ _); (refine wpList_buildSlice1 rfl E_cl (.tmp 82) rfl ((q).cs) rfl rfl (by omega) ?_; replace H := Lib.hid (H.out.addRow ((Bel.refl _).alloc _) (own_made _ 32 ((q).cs) _ rfl)); (try simp only [List.set_cons_zero, List.set_cons_succ, List.cons_append, List.nil_append, List.eraseIdx_cons_zero, List.eraseIdx_cons_succ, List.setIfInBounds_toArray, World.size_alloc, selR, List.getD_cons_zero, List.getD_cons_succ] at H))) | ((with_reducible show wpList _ _ _ (⟨some 84, _, _, _, _, _⟩ :: _) _ _); (refine wpList_append0 rfl (.tmp 81) (.tmp 83) _ rfl E_cl 0 (Nat.zero_le _) _ j _ rfl (H.out.row 6 rfl) _ 1 1 _ rfl (Rd.of_own (H.out.row 8 rfl)) (cl1_one (q)) (by unfold maxLen; omega) (by omega) ?_; intro vq wq howq hgq hatq; replace H := Lib.hid (H.out.setRow 6 rfl hgq howq hatq); (try simp only [List.set_cons_zero, List.set_cons_succ, List.cons_append, List.nil_append, List.eraseIdx_cons_zero, List.eraseIdx_cons_succ, List.setIfInBounds_toArray, World.size_alloc, selR, List.getD_cons_zero, List.getD_cons_succ] at H); clear howq hgq hatq; obtain ⟨A3, c3, rfl, _⟩ := own_slice (H.out.row 6 rfl))))
                  replace H := Lib.hid (H.out.sel [0, 1, 2, 3, 4, 5, 6] (by decide) (by simp)); (try simp only [List.set_cons_zero, List.set_cons_succ, List.cons_append, List.nil_append, List.eraseIdx_cons_zero, List.eraseIdx_cons_succ, List.setIfInBounds_toArray, World.size_alloc, selR, List.getD_cons_zero, List.getD_cons_succ] at H)
                  have HAC2 : Hid ((v.l.take j).map (gcl true (plc pl.l)) ++ [q] = (v.l.take (j + 1)).map (gcl true (plc pl.l))) := by show _ = _; rw [take_snoc' HQK.out, List.map_append]; show _ = _ ++ [(gcl true (plc pl.l)) q]; rw [HGQ.out]
                  have HAF : Hid (((v.l.take j).map (gcl true (plc pl.l))).flatMap Cel.cells ++ (q).cs.toList = ((v.l.take (j + 1)).map (gcl true (plc pl.l))).flatMap Cel.cells) := by show _ = _; rw [← HAC2.out, List.flatMap_append, List.flatMap_cons, List.flatMap_nil, List.append_nil]; rfl
                  rw [HAF.out] at H
                  go_wp2_with fail
                  rw [← HAV.out]
                  go_roundg (v.n - (j + 1))
                  case rel => exact ⟨j + 1, A3, c3, rfl, by omega, rfl, by go_num, H⟩
                  case measure => rw [Hgj.out]; omega
              · obtain rfl : j = v.n := by omega
                have HTL : Hid ((v.l.take v.n).map (gcl true (plc pl.l)) = v.l.map (gcl true (plc pl.l))) := by show _ = _; rw [List.take_of_length_le (by rw [hvl.out]; exact Nat.le_refl _)]
                rw [HTL.out] at H
                have c1 := (H.out.blk 3 rfl).cell 1; simp only [List.getElem?_toArray, List.getElem?_cons_zero, List.getElem?_cons_succ] at c1
                go_wp2_with ((with_reducible show wpList _ _ _ (⟨some 90, _, _, _, _, _⟩ :: _) _ _); (replace H := Lib.hid (H.out.alloc #[.slice A v.n c] 44); (try simp only [List.set_cons_zero, List.set_cons_succ, List.cons_append, List.nil_append, List.eraseIdx_cons_zero, List.eraseIdx_cons_succ, List.setIfInBounds_toArray, World.size_alloc, selR, List.getD_cons_zero, List.getD_cons_succ] at H); refine wpList_append0 rfl (.tmp 87) (.tmp 89) _ rfl E_cls 0 (Nat.zero_le _) _ k _ rfl (H.out.row 4 rfl) _ 1 1 [.slice A v.n c] rfl (reads_of_block (H.out.blk 7 rfl) rfl) (by simp [Value.oneCell']) (by unfold maxLen; omega) (by omega) ?_; intro vq wq howq hgq hatq; replace H := Lib.hid (H.out.setRow 4 rfl hgq howq hatq); (try simp only [List.set_cons_zero, List.set_cons_succ, List.cons_append, List.nil_append, List.eraseIdx_cons_zero, List.eraseIdx_cons_succ, List.setIfInBounds_toArray, World.size_alloc, selR, List.getD_cons_zero, List.getD_cons_succ] at H); clear howq hgq hatq; obtain ⟨B2, e2, rfl, _⟩ := own_slice (H.out.row 4 rfl); clear c1; have c1 := (H.out.blk 3 rfl).cell 1; simp only [List.getElem?_toArray, List.getElem?_cons_zero, List.getElem?_cons_succ] at c1; have f1 := (H.out.blk 3 rfl).frozen 1))
                replace H := Lib.hid (H.out.setCell 3 rfl 1 (.slice B2 (k + 1) e2)); (try simp only [List.set_cons_zero, List.set_cons_succ, List.cons_append, List.nil_append, List.eraseIdx_cons_zero, List.eraseIdx_cons_succ, List.setIfInBounds_toArray, World.size_alloc, selR, List.getD_cons_zero, List.getD_cons_succ] at H)
                clear c1 f1
                replace H := Lib.hid (H.out.snocD 5 6 (r := rCs) (a := (⟨A, v.n, c, v.l.map (gcl true (plc pl.l))⟩ : Row Cl)) (by omega) rfl rfl); (try simp only [List.set_cons_zero, List.set_cons_succ, List.cons_append, List.nil_append, List.eraseIdx_cons_zero, List.eraseIdx_cons_succ, List.setIfInBounds_toArray, World.size_alloc, selR, List.getD_cons_zero, List.getD_cons_succ] at H)
                replace H := Lib.hid (H.out.sel [0, 1, 2, 3, 4, 5] (by decide) (by simp)); (try simp only [List.set_cons_zero, List.set_cons_succ, List.cons_append, List.nil_append, List.eraseIdx_cons_zero, List.eraseIdx_cons_succ, List.setIfInBounds_toArray, World.size_alloc, selR, List.getD_cons_zero, List.getD_cons_succ] at H)
                have HLB2 : Hid (∀ y ∈ L ++ [(⟨A, v.n, c, v.l.map (gcl true (plc pl.l))⟩ : Row Cl)], y.n ≤ 1000000 ∧ ∀ c ∈ y.l, c.ok) := fun y hy => by
                  rcases List.mem_append.1 hy with h | h
                  · exact HLB.out y h
                  · rw [List.mem_singleton] at h
                    subst h
                    refine ⟨hvn, fun z hz => ?_⟩
                    obtain ⟨z0, hz0, rfl⟩ := List.mem_map.1 hz
                    have h0 := HVO.out z0 hz0
                    cases hib : (true : Bool) with
                    | false => exact h0
                    | true => exact ⟨h0.key, i64_plc HPI.out h0.ch, h0.ag⟩
                have HL2 : Hid ((L ++ [(⟨A, v.n, c, v.l.map (gcl true (plc pl.l))⟩ : Row Cl)]).map Row.l = (n.ls.l.take (k + 1)).map (fun v => v.l.map (gcl true (plc pl.l)))) := by show _ = _; rw [List.map_append, HL.out, take_snoc' HVK.out, List.map_append]; rfl
                clear HLB HL
                rw [← HAL.out]
                go_roundg (n.ls.n - (k + 1))
                case rel => exact ⟨k + 1, B2, e2, L ++ [(⟨A, v.n, c, v.l.map (gcl true (plc pl.l))⟩ : Row Cl)], rfl, by omega, by go_num, by show _ = _; rw [List.length_append, hLk.out]; rfl, by rw [List.map_append]; exact H, HL2, HLB2⟩
                case measure => rw [Hgk.out]; omega
          · obtain rfl : k = n.ls.n := by omega
            have HF : Hid (L.map Row.l = n.ls.l.map (fun v => v.l.map (gcl true (plc pl.l)))) := by show _ = _; rw [HL.out, List.take_of_length_le (by rw [hll.out]; exact Nat.le_refl _)]
            go_wp2_with (first | ((with_reducible show wpList _ _ _ (⟨some 93, _, _, _, _, _⟩ :: _) _ _); (refine wpList_load_blk rfl rowNd (.tmp 7) rfl _ rfl (H.out.blk 3 rfl) rfl ?_)) | ((with_reducible show wpList _ _ _ (⟨_, .store _ (.tmp 6) _, _, _, _, _⟩ :: _) _ _); (refine wpList_store_blk rfl rowNd (.tmp 6) (.tmp 93) rfl _ rfl (H.out.blk 2 rfl) rfl ((Nd.mk n.dim ⟨B, n.ls.n, d, L⟩ ((gcl true (plc pl.l)) n.all)).cs) rfl rfl (nd_one _) ?_; intro wq bq hgq; replace H := Lib.hid (H.out.setBlk 2 rfl hgq bq); (try simp only [List.set_cons_zero, List.set_cons_succ, List.cons_append, List.nil_append, List.eraseIdx_cons_zero, List.eraseIdx_cons_succ, List.setIfInBounds_toArray, World.size_alloc, selR, List.getD_cons_zero, List.getD_cons_succ] at H); clear hgq bq)))
            refine bodyPost_ret (results_blk1 rfl rowNd rfl (H.out.blk 2 rfl) rfl) rfl ?_
            have HOA : Hid (Cl.ok ((gcl true (plc pl.l)) n.all)) := by
              have h0 := HI64.out.2
              cases hib : (true : Bool) with
              | false => exact h0
              | true => exact ⟨h0.key, i64_plc HPI.out h0.ch, h0.ag⟩
            replace H := Lib.hid (H.out.mkNd 4 5 (n := Nd.mk n.dim ⟨B, n.ls.n, d, L⟩ ((gcl true (plc pl.l)) n.all)) (by omega) rfl rfl ⟨HI64.out.1, HOA.out⟩ HLB.out hb1); (try simp only [List.set_cons_zero, List.set_cons_succ, List.cons_append, List.nil_append, List.eraseIdx_cons_zero, List.eraseIdx_cons_succ, List.setIfInBounds_toArray, World.size_alloc, selR, List.getD_cons_zero, List.getD_cons_succ] at H)
            refine ⟨Nd.mk n.dim ⟨B, n.ls.n, d, L⟩ ((gcl true (plc pl.l)) n.all), rfl, ?_, rfl, fun y hy => (HLB.out y hy).1, H.out.to, H.out.get 4 rfl, H.out.new 4 rfl⟩
            rw [HMV.out]
            show NC.mk n.dim (L.map Row.l) _ = _
            rw [HF.out]
    · have HGA : Hid (n.all = gcl true (plc pl.l) n.all) := by
        show _ = mvCl _ _
        unfold mvCl plc
        rw [if_neg (by omega)]
      have e1 : decide ((0 : Int) ≤ n.all.ch) = false := by simpa using h1
      clear h1
      go_upto_region 5 with fail
      clear e1 ca
      have HGB : Hid (∀ W, SL No w W [rBlk x 24 s.cs, rBlk y 34 n.cs, rBlk r 34 #[.int .i64 0, .slice none 0 0, .int .i64 0, .int .i64 0, .int .i64 0, .int .i64 0, .int .i64 0, .int .i64 0, .int .i64 0, .int .i64 0, .int .i64 0, .int .i64 0, .int .i64 0, .int .i64 0], rBlk o 34 (Nd.mk n.dim ⟨none, 0, 0, []⟩ n.all).cs, rRow 44 1 (.slice none 0 0) 0 [], rListD rCs []] → SL No w W [rBlk x 24 s.cs, rBlk y 34 n.cs, rBlk r 34 #[.int .i64 0, .slice none 0 0, .int .i64 0, .int .i64 0, .int .i64 0, .int .i64 0, .int .i64 0, .int .i64 0, .int .i64 0, .int .i64 0, .int .i64 0, .int .i64 0, .int .i64 0, .int .i64 0], rBlk o 34 (Nd.mk n.dim ⟨none, 0, 0, []⟩ (gcl true (plc pl.l) n.all)).cs, rRow 44 1 (.slice none 0 0) 0 [], rListD rCs []]) := fun W h => by rw [← HGA.out]; exact h
      replace H := Lib.hid (HGB.out _ H.out)
      clear HGB HGA
      have cl : w2.cell? ⟨y, 1, none⟩ = some (.slice n.ls.A n.ls.n n.ls.c) := (H.out.blk 1 rfl).cell 1
      have HL : Hid (([] : List (Row Cl)).map Row.l = (n.ls.l.take 0).map (fun v => v.l.map (gcl true (plc pl.l)))) := rfl
      have HLB : Hid (∀ x ∈ ([] : List (Row Cl)), x.n ≤ 1000000 ∧ ∀ c ∈ x.l, c.ok) := fun x hx => by cases hx
      go_upto_region 6 with fail
      clear cl
      go_loopg [10, 11, 52] n.ls.n (fun gg s10 s11 s52 wr => ∃ (k : Nat) (B : Option Addr) (d : Nat) (L : List (Row Cl)), gg = n.ls.n - k ∧ k ≤ n.ls.n ∧ s52 = .int .i64 k ∧ Hid (L.length = k) ∧ Hid (SL No w wr [rBlk x 24 s.cs, rBlk y 34 n.cs, rBlk r 34 #[.int .i64 0, .slice none 0 0, .int .i64 0, .int .i64 0, .int .i64 0, .int .i64 0, .int .i64 0, .int .i64 0, .int .i64 0, .int .i64 0, .int .i64 0, .int .i64 0, .int .i64 0, .int .i64 0], rBlk o 34 (Nd.mk n.dim ⟨B, k, d, L⟩ (gcl true (plc pl.l) n.all)).cs, rRow 44 1 (.slice B k d) k (L.map Row.v), rListD rCs L]) ∧ Hid (L.map Row.l = (n.ls.l.take k).map (fun v => v.l.map (gcl true (plc pl.l)))) ∧ Hid (∀ x ∈ L, x.n ≤ 1000000 ∧ ∀ c ∈ x.l, c.ok))
      case atStart => exact ⟨0, none, 0, [], rfl, by omega, rfl, rfl, H, HL, HLB⟩
      case round =>
        clear H HL HLB
        obtain ⟨k, B, d, L, hgk, hk, rfl, hLk, H, HL, HLB⟩ := hrel
        have Hgk := Lib.hid hgk
        clear hgk
        obtain ⟨W0, hW0⟩ : ∃ W0, W0 = wr := ⟨_, rfl⟩
        subst hW0
        by_cases hlt : k < n.ls.n
        · obtain ⟨bl, ol, v, hAl, hvk, hvok, hvc⟩ := (HN.out _ H.out.to).clsAt (k := k) hlt
          have hvn := HB2.out v (List.mem_of_getElem? hvk)
          have hvm := List.mem_of_getElem? hvk
          have HVK := Lib.hid hvk
          have HVR := Lib.hid (fun w' (hb : Bel w w') => Row.ok.rds ((HN.out w' hb).all v hvm))
          have hvl : Hid (v.l.length = v.n) := hvok.len
          have HAL := Lib.hid hAl
          have HVO := Lib.hid hvok.all
          have k0 : (0 : Int) ≤ k := by omega
          have k1 : (k : Int) < n.ls.n := by omega
          rw [hAl]
          clear hvk hvok hvm hAl
          replace H := Lib.hid (H.out.addNil 32 12); (try simp only [List.set_cons_zero, List.set_cons_succ, List.cons_append, List.nil_append, List.eraseIdx_cons_zero, List.eraseIdx_cons_succ, List.setIfInBounds_toArray, World.size_alloc, selR, List.getD_cons_zero, List.getD_cons_succ] at H)
          go_upto_region 10 with fail
          clear hvc
          go_loopg [11, 58] v.n (fun gg s11 s58 wx => ∃ (j : Nat) (A : Option Addr) (c : Nat), gg = v.n - j ∧ j ≤ v.n ∧ s11 = .slice A j c ∧ s58 = .int .i64 j ∧ Hid (SL No w wx [rBlk x 24 s.cs, rBlk y 34 n.cs, rBlk r 34 #[.int .i64 0, .slice none 0 0, .int .i64 0, .int .i64 0, .int .i64 0, .int .i64 0, .int .i64 0, .int .i64 0, .int .i64 0, .int .i64 0, .int .i64 0, .int .i64 0, .int .i64 0, .int .i64 0], rBlk o 34 (Nd.mk n.dim ⟨B, k, d, L⟩ (gcl true (plc pl.l) n.all)).cs, rRow 44 1 (.slice B k d) k (L.map Row.v), rListD rCs L, rRow 32 12 (.slice A j c) j (((v.l.take j).map (gcl true (plc pl.l))).flatMap Cel.cells)]))
          case atStart => exact ⟨0, none, 0, rfl, by omega, rfl, rfl, H⟩
          case round =>
            clear H
            obtain ⟨j, A, c, hgj, hj, rfl, rfl, H⟩ := hrel
            have Hgj := Lib.hid hgj
            clear hgj
            by_cases hjlt : j < v.n
            · obtain ⟨bv, ov, q, hAv, hbv, hqk, hqok, hrg⟩ := (HVR.out _ H.out.to).clAt (k := j) hjlt
              have hq64 := hqok.ch
              unfold I64 at hq64
              have HQK := Lib.hid hqk
              have HAV := Lib.hid hAv
              have HRG := Lib.hid hrg
              have j0 : (0 : Int) ≤ j := by omega
              have j1 : (j : Int) < v.n := by omega
              rw [hAv]
              clear hqk hAv hrg hqok
              go_upto_region 12 with (first | ((with_reducible show wpList _ _ _ (⟨some 61, _, _, _, _, _⟩ :: _) _ _); (refine wpList_load_row_at rfl rowCl (.tmp 60) rfl bv (ov + j * 12) rfl q.cs rfl HRG.out ?_)) | ((with_reducible show wpList _ _ _ (⟨_, .store _ (.tmp 13) _, _, _, _, _⟩ :: _) _ _); (refine wpList_store_new rfl rowCl (.tmp 13) (.tmp 61) rfl rfl rfl (q.cs) rfl rfl (cl_one q) ?_; replace H := Lib.hid (H.out.alloc (q.cs) 32); (try simp only [List.set_cons_zero, List.set_cons_succ, List.cons_append, List.nil_append, List.eraseIdx_cons_zero, List.eraseIdx_cons_succ, List.setIfInBounds_toArray, World.size_alloc, selR, List.getD_cons_zero, List.getD_cons_succ] at H))))
              (try simp only [Act.put, List.setIfInBounds_toArray, List.set_cons_zero, List.set_cons_succ])
              clear HRG hbv
              generalize wr.heap.size = u at *
              generalize World.alloc wr _ = w5 at *
              have cq : w5.cell? ⟨u, 1, none⟩ = some (.int .i64 q.ch) := (H.out.blk 7 rfl).cell 1
              by_cases h1 : 0 ≤ q.ch
              · obtain ⟨i, hi⟩ : ∃ i : Nat, q.ch = i := ⟨q.ch.toNat, by omega⟩
                rw [hi] at cq
                by_cases h2 : i < pl.n
                · obtain ⟨bp, op, z, hAp, hzk, hz64, hzc⟩ := (HP.out _ H.out.to).intAt (k := i) h2
                  have HAP := Lib.hid hAp
                  have HGQ : Hid ((gcl true (plc pl.l)) q = ⟨q.key, z, q.ag⟩) := by
                    show mvCl _ _ = _
                    unfold mvCl plc
                    rw [hi, if_pos ⟨by omega, by rw [hpl.out]; omega⟩, Int.toNat_natCast, hzk]
                    rfl
                  have e1 : decide ((0 : Int) ≤ (i : Int)) = true := by simp
                  have e2 : decide ((i : Int) < (pl.n : Int)) = true := by simp <;> omega
                  have e2n : decide (i < pl.n) = true := by simp <;> omega
                  have i0 : (0 : Int) ≤ i := by omega
                  have i1 : (i : Int) < pl.n := by omega
                  clear hi h1 h2 hzk hz64
                  go_upto_region 13 with fail
                  rw [hAp]
                  have fq := (H.out.blk 7 rfl).frozen 1
                  go_upto_region 14 with fail
                  (try simp only [Act.put, List.setIfInBounds_toArray, List.set_cons_zero, List.set_cons_succ])
                  replace H := Lib.hid (H.out.setCell 7 rfl 1 (.int .i64 z)); (try simp only [List.set_cons_zero, List.set_cons_succ, List.cons_append, List.nil_append, List.eraseIdx_cons_zero, List.eraseIdx_cons_succ, List.setIfInBounds_toArray, World.size_alloc, selR, List.getD_cons_zero, List.getD_cons_succ] at H)
                  clear e1 e2 e2n cq fq hzc hAp
                  rw [← HAP.out]
                  generalize World.setCell _ _ _ = w6 at *
                  go_wp2_with (first | ((with_reducible show wpList _ _ _ (⟨some 82, _, _, _, _, _⟩ :: _) _ _); (refine wpList_load_blk rfl rowCl (.tmp 13) rfl _ rfl (H.out.blk 7 rfl) rfl ?_)) | ((with_reducible show wpList _ _ _ (⟨some 83, _, _, _, _, _⟩ :: _) _ _); (refine wpList_buildSlice1 rfl E_cl (.tmp 82) rfl ((Cl.mk q.key z q.ag).cs) rfl rfl (by omega) ?_; replace H := Lib.hid (H.out.addRow ((Bel.refl _).alloc _) (own_made _ 32 ((Cl.mk q.key z q.ag).cs) _ rfl)); (try simp only [List.set_cons_zero, List.set_cons_succ, List.cons_append, List.nil_append, List.eraseIdx_cons_zero, List.eraseIdx_cons_succ, List.setIfInBounds_toArray, World.size_alloc, selR, List.getD_cons_zero, List.getD_cons_succ] at H))) | ((with_reducible show wpList _ _ _ (⟨some 84, _, _, _, _, _⟩ :: _) _ _); (refine wpList_append0 rfl (.tmp 81) (.tmp 83) _ rfl E_cl 0 (Nat.zero_le _) _ j _ rfl (H.out.row 6 rfl) _ 1 1 _ rfl (Rd.of_own (H.out.row 8 rfl)) (cl1_one (Cl.mk q.key z q.ag)) (by unfold maxLen; omega) (by omega) ?_; intro vq wq howq hgq hatq; replace H := Lib.hid (H.out.setRow 6 rfl hgq howq hatq); (try simp only [List.set_cons_zero, List.set_cons_succ, List.cons_append, List.nil_append, List.eraseIdx_cons_zero, List.eraseIdx_cons_succ, List.setIfInBounds_toArray, World.size_alloc, selR, List.getD_cons_zero, List.getD_cons_succ] at H); clear howq hgq hatq; obtain ⟨A3, c3, rfl, _⟩ := own_slice (H.out.row 6 rfl))))
                  replace H := Lib.hid (H.out.sel [0, 1, 2, 3, 4, 5, 6] (by decide) (by simp)); (try simp only [List.set_cons_zero, List.set_cons_succ, List.cons_append, List.nil_append, List.eraseIdx_cons_zero, List.eraseIdx_cons_succ, List.setIfInBounds_toArray, World.size_alloc, selR, List.getD_cons_zero, List.getD_cons_succ] at H)
                  have HAC2 : Hid ((v.l.take j).map (gcl true (plc pl.l)) ++ [Cl.mk q.key z q.ag] = (v.l.take (j + 1)).map (gcl true (plc pl.l))) := by show _ = _; rw [take_snoc' HQK.out, List.map_append]; show _ = _ ++ [(gcl true (plc pl.l)) q]; rw [HGQ.out]
                  have HAF : Hid (((v.l.take j).map (gcl true (plc pl.l))).flatMap Cel.cells ++ (Cl.mk q.key z q.ag).cs.toList = ((v.l.take (j + 1)).map (gcl true (plc pl.l))).flatMap Cel.cells) := by show _ = _; rw [← HAC2.out, List.flatMap_append, List.flatMap_cons, List.flatMap_nil, List.append_nil]; rfl
                  rw [HAF.out] at H
                  go_wp2_with fail
                  rw [← HAV.out]
                  go_roundg (v.n - (j + 1))
                  case rel => exact ⟨j + 1, A3, c3, rfl, by omega, rfl, by go_num, H⟩
                  case measure => rw [Hgj.out]; omega
                · have HGQ : Hid ((gcl true (plc pl.l)) q = q) := by
                    show mvCl _ _ = _
                    unfold mvCl plc
                    rw [if_neg (by rw [hpl.out, hi]; omega)]
                  have e1 : decide ((0 : Int) ≤ (i : Int)) = true := by simp
                  have e2 : decide ((i : Int) < (pl.n : Int)) = false := by simp <;> omega
                  have e2n : decide (i < pl.n) = false := by simp <;> omega
                  clear hi h1 h2
                  go_upto_region 14 with fail
                  clear e1 e2 e2n cq
                  go_wp2_with (first | ((with_reducible show wpList _ _ _ (⟨some 82, _, _, _, _, _⟩ :: _) _ _); (refine wpList_load_blk rfl rowCl (.tmp 13) rfl _ rfl (H.out.blk 7 rfl) rfl ?_)) | ((with_reducible show wpList _ _ _ (⟨some 83, _, _, _, _, _⟩ :: _) _ _); (refine wpList_buildSlice1 rfl E_cl (.tmp 82) rfl ((q).cs) rfl rfl (by omega) ?_; replace H := Lib.hid (H.out.addRow ((Bel.refl _).alloc _) (own_made _ 32 ((q).cs) _ rfl)); (try simp only [List.set_cons_zero, List.set_cons_succ, List.cons_append, List.nil_append, List.eraseIdx_cons_zero, List.eraseIdx_cons_succ, List.setIfInBounds_toArray, World.size_alloc, selR, List.getD_cons_zero, List.getD_cons_succ] at H))) | ((with_reducible show wpList _ _ _ (⟨some 84, _, _, _, _, _⟩ :: _) _ _); (refine wpList_append0 rfl (.tmp 81) (.tmp 83) _ rfl E_cl 0 (Nat.zero_le _) _ j _ rfl (H.out.row 6 rfl) _ 1 1 _ rfl (Rd.of_own (H.out.row 8 rfl)) (cl1_one (q)) (by unfold maxLen; omega) (by omega) ?_; intro vq wq howq hgq hatq; replace H := Lib.hid (H.out.setRow 6 rfl hgq howq hatq); (try simp only [List.set_cons_zero, List.set_cons_succ, List.cons_append, List.nil_append, List.eraseIdx_cons_zero, List.eraseIdx_cons_succ, List.setIfInBounds_toArray, World.size_alloc, selR, List.getD_cons_zero, List.getD_cons_succ] at H); clear howq hgq hatq; obtain ⟨A3, c3, rfl, _⟩ := own_slice (H.out.row 6 rfl))))
                  replace H := Lib.hid (H.out.sel [0, 1, 2, 3, 4, 5, 6] (by decide) (by simp)); (try simp only [List.set_cons_zero, List.set_cons_succ, List.cons_append, List.nil_append, List.eraseIdx_cons_zero, List.eraseIdx_cons_succ, List.setIfInBounds_toArray, World.size_alloc, selR, List.getD_cons_zero, List.getD_cons_succ] at H)
                  have HAC2 : Hid ((v.l.take j).map (gcl true (plc pl.l)) ++ [q] = (v.l.take (j + 1)).map (gcl true (plc pl.l))) := by show _ = _; rw [take_snoc' HQK.out, List.map_append]; show _ = _ ++ [(gcl true (plc pl.l)) q]; rw [HGQ.out]
                  have HAF : Hid (((v.l.take j).map (gcl true (plc pl.l))).flatMap Cel.cells ++ (q).cs.toList = ((v.l.take (j + 1)).map (gcl true (plc pl.l))).flatMap Cel.cells) := by show _ = _; rw [← HAC2.out, List.flatMap_append, List.flatMap_cons, List.flatMap_nil, List.append_nil]; rfl
                  rw [HAF.out] at H
                  go_wp2_with fail
                  rw [← HAV.out]
                  go_roundg (v.n - (j + 1))
                  case rel => exact ⟨j + 1, A3, c3, rfl, by omega, rfl, by go_num, H⟩
                  case measure => rw [Hgj.out]; omega
              · have HGQ : Hid ((gcl true (plc pl.l)) q = q) := by
                  show mvCl _ _ = _
                  unfold mvCl plc
                  rw [if_neg (by omega)]
                have e1 : decide ((0 : Int) ≤ q.ch) = false := by simpa using h1
                clear h1
                go_upto_region 14 with fail
                clear e1 cq
                go_wp2_with (first | ((with_reducible show wpList _ _ _ (⟨some 82, _, _, _, _, _⟩ :: _) _ _); (refine wpList_load_blk rfl rowCl (.tmp 13) rfl _ rfl (H.out.blk 7 rfl) rfl ?_)) | ((with_reducible show wpList _ _ _ (⟨some 83, _, _, _, _, _⟩ :: _) _ _); (refine wpList_buildSlice1 rfl E_cl (.tmp 82) rfl ((q).cs) rfl rfl (by omega) ?_; replace H := Lib.hid (H.out.addRow ((Bel.refl _).alloc _) (own_made _ 32 ((q).cs) _ rfl)); (try simp only [List.set_cons_zero, List.set_cons_succ, List.cons_append, List.nil_append, List.eraseIdx_cons_zero, List.eraseIdx_cons_succ, List.setIfInBounds_toArray, World.size_alloc, selR, List.getD_cons_zero, List.getD_cons_succ] at H))) | ((with_reducible show wpList _ _ _ (⟨some 84, _, _, _, _, _⟩ :: _) _ _); (refine wpList_append0 rfl (.tmp 81) (.tmp 83) _ rfl E_cl 0 (Nat.zero_le _) _ j _ rfl (H.out.row 6 rfl) _ 1 1 _ rfl (Rd.of_own (H.out.row 8 rfl)) (cl1_one (q)) (by unfold maxLen; omega) (by omega) ?_; intro vq wq howq hgq hatq; replace H := Lib.hid (H.out.setRow 6 rfl hgq howq hatq); (try simp only [List.set_cons_zero, List.set_cons_succ, List.cons_append, List.nil_append, List.eraseIdx_cons_zero, List.eraseIdx_cons_succ, List.setIfInBounds_toArray, World.size_alloc, selR, List.getD_cons_zero, List.getD_cons_succ] at H); clear howq hgq hatq; obtain ⟨A3, c3, rfl, _⟩ := own_slice (H.out.row 6 rfl))))
                replace H := Lib.hid (H.out.sel [0, 1, 2, 3, 4, 5, 6] (by decide) (by simp)); (try simp only [List.set_cons_zero, List.set_cons_succ, List.cons_append, List.nil_append, List.eraseIdx_cons_zero, List.eraseIdx_cons_succ, List.setIfInBounds_toArray, World.size_alloc, selR, List.getD_cons_zero, List.getD_cons_succ] at H)
                have HAC2 : Hid ((v.l.take j).map (gcl true (plc pl.l)) ++ [q] = (v.l.take (j + 1)).map (gcl true (plc pl.l))) := by show _ = _; rw [take_snoc' HQK.out, List.map_append]; show _ = _ ++ [(gcl true (plc pl.l)) q]; rw [HGQ.out]
                have HAF : Hid (((v.l.take j).map (gcl true (plc pl.l))).flatMap Cel.cells ++ (q).cs.toList = ((v.l.take (j + 1)).map (gcl true (plc pl.l))).flatMap Cel.cells) := by show _ = _; rw [← HAC2.out, List.flatMap_append, List.flatMap_cons, List.flatMap_nil, List.append_nil]; rfl
                rw [HAF.out] at H
                go_wp2_with fail
                rw [← HAV.out]
                go_roundg (v.n - (j + 1))
                case rel => exact ⟨j + 1, A3, c3, rfl, by omega, rfl, by go_num, H⟩
                case measure => rw [Hgj.out]; omega
            · obtain rfl : j = v.n := by omega
              have HTL : Hid ((v.l.take v.n).map (gcl true (plc pl.l)) = v.l.map (gcl true (plc pl.l))) := by show _ = _; rw [List.take_of_length_le (by rw [hvl.out]; exact Nat.le_refl _)]
              rw [HTL.out] at H
              have c1 := (H.out.blk 3 rfl).cell 1; simp only [List.getElem?_toArray, List.getElem?_cons_zero, List.getElem?_cons_succ] at c1
              go_wp2_with ((with_reducible show wpList _ _ _ (⟨some 90, _, _, _, _, _⟩ :: _) _ _); (replace H := Lib.hid (H.out.alloc #[.slice A v.n c] 44); (try simp only [List.set_cons_zero, List.set_cons_succ, List.cons_append, List.nil_append, List.eraseIdx_cons_zero, List.eraseIdx_cons_succ, List.setIfInBounds_toArray, World.size_alloc, selR, List.getD_cons_zero, List.getD_cons_succ] at H); refine wpList_append0 rfl (.tmp 87) (.tmp 89) _ rfl E_cls 0 (Nat.zero_le _) _ k _ rfl (H.out.row 4 rfl) _ 1 1 [.slice A v.n c] rfl (reads_of_block (H.out.blk 7 rfl) rfl) (by simp [Value.oneCell']) (by unfold maxLen; omega) (by omega) ?_; intro vq wq howq hgq hatq; replace H := Lib.hid (H.out.setRow 4 rfl hgq howq hatq); (try simp only [List.set_cons_zero, List.set_cons_succ, List.cons_append, List.nil_append, List.eraseIdx_cons_zero, List.eraseIdx_cons_succ, List.setIfInBounds_toArray, World.size_alloc, selR, List.getD_cons_zero, List.getD_cons_succ] at H); clear howq hgq hatq; obtain ⟨B2, e2, rfl, _⟩ := own_slice (H.out.row 4 rfl); clear c1; have c1 := (H.out.blk 3 rfl).cell 1; simp only [List.getElem?_toArray, List.getElem?_cons_zero, List.getElem?_cons_succ] at c1; have f1 := (H.out.blk 3 rfl).frozen 1))
              replace H := Lib.hid (H.out.setCell 3 rfl 1 (.slice B2 (k + 1) e2)); (try simp only [List.set_cons_zero, List.set_cons_succ, List.cons_append, List.nil_append, List.eraseIdx_cons_zero, List.eraseIdx_cons_succ, List.setIfInBounds_toArray, World.size_alloc, selR, List.getD_cons_zero, List.getD_cons_succ] at H)
              clear c1 f1
              replace H := Lib.hid (H.out.snocD 5 6 (r := rCs) (a := (⟨A, v.n, c, v.l.map (gcl true (plc pl.l))⟩ : Row Cl)) (by omega) rfl rfl); (try simp only [List.set_cons_zero, List.set_cons_succ, List.cons_append, List.nil_append, List.eraseIdx_cons_zero, List.eraseIdx_cons_succ, List.setIfInBounds_toArray, World.size_alloc, selR, List.getD_cons_zero, List.getD_cons_succ] at H)
              replace H := Lib.hid (H.out.sel [0, 1, 2, 3, 4, 5] (by decide) (by simp)); (try simp only [List.set_cons_zero, List.set_cons_succ, List.cons_append, List.nil_append, List.eraseIdx_cons_zero, List.eraseIdx_cons_succ, List.setIfInBounds_toArray, World.size_alloc, selR, List.getD_cons_zero, List.getD_cons_succ] at H)
              have HLB2 : Hid (∀ y ∈ L ++ [(⟨A, v.n, c, v.l.map (gcl true (plc pl.l))⟩ : Row Cl)], y.n ≤ 1000000 ∧ ∀ c ∈ y.l, c.ok) := fun y hy => by
                rcases List.mem_append.1 hy with h | h
                · exact HLB.out y h
                · rw [List.mem_singleton] at h
                  subst h
                  refine ⟨hvn, fun z hz => ?_⟩
                  obtain ⟨z0, hz0, rfl⟩ := List.mem_map.1 hz
                  have h0 := HVO.out z0 hz0
                  cases hib : (true : Bool) with
                  | false => exact h0
                  | true => exact ⟨h0.key, i64_plc HPI.out h0.ch, h0.ag⟩
              have HL2 : Hid ((L ++ [(⟨A, v.n, c, v.l.map (gcl true (plc pl.l))⟩ : Row Cl)]).map Row.l = (n.ls.l.take (k + 1)).map (fun v => v.l.map (gcl true (plc pl.l)))) := by show _ = _; rw [List.map_append, HL.out, take_snoc' HVK.out, List.map_append]; rfl
              clear HLB HL
              rw [← HAL.out]
              go_roundg (n.ls.n - (k + 1))
              case rel => exact ⟨k + 1, B2, e2, L ++ [(⟨A, v.n, c, v.l.map (gcl true (plc pl.l))⟩ : Row Cl)], rfl, by omega, by go_num, by show _ = _; rw [List.length_append, hLk.out]; rfl, by rw [List.map_append]; exact H, HL2, HLB2⟩
              case measure => rw [Hgk.out]; omega
        · obtain rfl : k = n.ls.n := by omega
          have HF : Hid (L.map Row.l = n.ls.l.map (fun v => v.l.map (gcl true (plc pl.l)))) := by show _ = _; rw [HL.out, List.take_of_length_le (by rw [hll.out]; exact Nat.le_refl _)]
          go_wp2_with (first | ((with_reducible show wpList _ _ _ (⟨some 93, _, _, _, _, _⟩ :: _) _ _); (refine wpList_load_blk rfl rowNd (.tmp 7) rfl _ rfl (H.out.blk 3 rfl) rfl ?_)) | ((with_reducible show wpList _ _ _ (⟨_, .store _ (.tmp 6) _, _, _, _, _⟩ :: _) _ _); (refine wpList_store_blk rfl rowNd (.tmp 6) (.tmp 93) rfl _ rfl (H.out.blk 2 rfl) rfl ((Nd.mk n.dim ⟨B, n.ls.n, d, L⟩ ((gcl true (plc pl.l)) n.all)).cs) rfl rfl (nd_one _) ?_; intro wq bq hgq; replace H := Lib.hid (H.out.setBlk 2 rfl hgq bq); (try simp only [List.set_cons_zero, List.set_cons_succ, List.cons_append, List.nil_append, List.eraseIdx_cons_zero, List.eraseIdx_cons_succ, List.setIfInBounds_toArray, World.size_alloc, selR, List.getD_cons_zero, List.getD_cons_succ] at H); clear hgq bq)))
          refine bodyPost_ret (results_blk1 rfl rowNd rfl (H.out.blk 2 rfl) rfl) rfl ?_
          have HOA : Hid (Cl.ok ((gcl true (plc pl.l)) n.all)) := by
            have h0 := HI64.out.2
            cases hib : (true : Bool) with
            | false => exact h0
            | true => exact ⟨h0.key, i64_plc HPI.out h0.ch, h0.ag⟩
          replace H := Lib.hid (H.out.mkNd 4 5 (n := Nd.mk n.dim ⟨B, n.ls.n, d, L⟩ ((gcl true (plc pl.l)) n.all)) (by omega) rfl rfl ⟨HI64.out.1, HOA.out⟩ HLB.out hb1); (try simp only [List.set_cons_zero, List.set_cons_succ, List.cons_append, List.nil_append, List.eraseIdx_cons_zero, List.eraseIdx_cons_succ, List.setIfInBounds_toArray, World.size_alloc, selR, List.getD_cons_zero, List.getD_cons_succ] at H)
          refine ⟨Nd.mk n.dim ⟨B, n.ls.n, d, L⟩ ((gcl true (plc pl.l)) n.all), rfl, ?_, rfl, fun y hy => (HLB.out y hy).1, H.out.to, H.out.get 4 rfl, H.out.new 4 rfl⟩
          rw [HMV.out]
          show NC.mk n.dim (L.map Row.l) _ = _
          rw [HF.out]

end Go.Proofs.Ytlclllkjnhgbjaa
