/- cellcode.Put. -/
import Derived.Test.YtlclllkjnhgbjaaCelA
import Derived.Test.YtlclllkjnhgbjaaLokC
namespace Go.Proofs.Ytlclllkjnhgbjaa
open Go.RowKit
set_option linter.unusedVariables false
set_option linter.unusedSimpArgs false


theorem wpQuiet_cat {P : Program} {ops : Array Oper} {w : World} {Q : Act → Prop} {a : Act} {o : Oper} {rest : List Oper} (hw : Region.wanted o (yielded ops a.tmps) = true) (t t2 : TypeId) (x y : Operand) (ho : o.op = .binOp .add t x y t2) {l m : List UInt8} (hx : a.eval x = .string ⟨l.toArray⟩) (hy : a.eval y = .string ⟨m.toArray⟩) (hl : l.length + m.length ≤ 1000000000)
    (h : wpQuiet P ops (fun w' => ∃ u : Over w, w' = u.wd) Q rest (a.put o.dst (.string ⟨(l ++ m).toArray⟩))) : wpQuiet P ops (fun w' => ∃ u : Over w, w' = u.wd) Q (o :: rest) a := by
  refine wpQuiet_run hw (.string ⟨(l ++ m).toArray⟩) (fun u => ?_) h
  have h1 : ¬ (9223372036854775807 < l.length + m.length) := by omega
  have h2 : (⟨l.toArray⟩ : ByteArray).size = l.length := rfl
  have h3 : (⟨m.toArray⟩ : ByteArray).size = m.length := rfl
  unfold execOp
  simp only [ho, hx, hy]
  simp [go_sem, h2, h3, h1, str_append]

set_option maxRecDepth 100000 in
set_option maxHeartbeats 4000000 in
theorem cput_any (s : Shp) (n : Nd) (w : World) (hs : s.rd w) (hn : n.rd w) (hE : nodeErr s.con s.ms n.con = 0) (hb : (bodyPut s.sz.n s.ms n.con).length ≤ 1000000) :
    Calls Try.prog 12 #[.agg s.cs, .agg n.cs] w fun e w' => e = .returned (.tuple #[.string ⟨(nodePut s.sz.n s.ms n.con).toArray⟩, .int .i64 0]) ∧ Bel w w' := by
  have hxn : s.con.length = s.sz.n := by rw [List.length_map]; exact hs.sz.len
  have hcl := nodeErr_cells hE
  have hin := nodeErr_inv hE
  rw [hxn] at hcl hin
  have HC := Lib.hid (fun w' (hb : Bel w w') => ncheck_any s n w' (hs.mono hb) (hn.mono hb))
  rw [hE] at HC
  have HOK := Lib.hid (nd_cells hn)
  have HCO := Lib.hid (fun (c : Cl) w' (hb : Bel w w') (hc : c ∈ eachN n.con) => celput_any s n.dim c w' (hs.mono hb) hn.dim (HOK.out c hc) (hcl.2 c hc))
  have HRI : Hid (∀ (k : Nat) (v : Row Cl), n.ls.l[k]? = some v → ∃ z : Int, z ≤ 9223372036854775807 ∧ RiseC z (-1) v.l) := fun k v hk => by
    obtain ⟨_, sz, hsz, _, _, h4, _⟩ := hin
    obtain ⟨z, hzz, hz⟩ := h4 k v.l (by show (n.ls.l.map Row.l)[k]? = _; rw [List.getElem?_map, hk]; rfl)
    have e1 : (s.sz.l.map Row.l)[n.dim.toNat]? = some sz := hsz
    rw [List.getElem?_map] at e1
    cases e2 : s.sz.l[n.dim.toNat]? with
    | none => rw [e2] at e1; cases e1
    | some row =>
      rw [e2] at e1
      injection e1 with e1
      have e3 : I64 z := (hs.sz.all row (List.mem_of_getElem? e2)).all z (by rw [show row.l = sz from e1]; exact List.mem_of_getElem? hzz)
      exact ⟨z, e3.2, (listErr_rise hz).1⟩
  have HMEM : Hid (∀ (k j : Nat) (v : Row Cl) (q : Cl), n.ls.l[k]? = some v → v.l[j]? = some q → q ∈ eachN n.con) := fun k j v q hk hj => List.mem_append_left _ (List.mem_flatten.2 ⟨v.l, List.mem_map.2 ⟨v, List.mem_of_getElem? hk, rfl⟩, List.mem_of_getElem? hj⟩)
  have HLS := Lib.hid (fun w' (hb : Bel w w') => hn.ls.mono hb)
  have hll : Hid (n.ls.l.length = n.ls.n) := hn.ls.len
  have n63 := hn.ls.n63
  have d0 := hn.dim
  unfold I64 at d0
  have hdim : 0 ≤ n.dim := hcl.1.1
  have H := Lib.hid (((SL.start No w).alloc s.cs 24).alloc n.cs 34)
  (try simp only [List.set_cons_zero, List.set_cons_succ, List.cons_append, List.nil_append, List.eraseIdx_cons_zero, List.eraseIdx_cons_succ, List.setIfInBounds_toArray, World.size_alloc, selR, List.getD_cons_zero, List.getD_cons_succ] at H)
  obtain ⟨T, hT⟩ : ∃ T, T = bodyPut s.sz.n s.ms n.con := ⟨_, rfl⟩
  have hV : nodePut s.sz.n s.ms n.con = ptext T := by rw [hT]; rfl
  rw [hV]
  rw [← hT] at hb
  have HT : Hid (T = nput n.dim.toNat ++ ((n.ls.l.drop 0).flatMap (fun v => listPut (s.sz.n) s.ms n.dim v.l) ++ cellPut (s.sz.n) s.ms n.dim n.all)) := by
    show _ = _
    rw [hT]
    show _ ++ ((n.ls.l.map Row.l).flatMap (listPut (s.sz.n) s.ms n.dim) ++ _) = _
    rw [List.flatMap_map]
    rfl
  have hcs : s.cs = #[.slice s.sz.A s.sz.n s.sz.c, .int .i64 s.ms] := rfl
  have HCS := Lib.hid hcs
  clear hcs hs hn hE hxn hcl hin hV hT
  go_enter Try.func12, Try.ntmps12
  go_upto_region 1 with fail
  (try rw [← HCS.out] at *)
  generalize w.heap.size + 1 = y at *
  generalize w.heap.size = x at *
  generalize World.alloc (World.alloc _ _) _ = w1 at *
  go_wp2_with (first | ((with_reducible show wpList _ _ _ (⟨some 13, _, _, _, _, _⟩ :: _) _ _); (refine wpList_load_blk rfl rowShp2 (.tmp 2) rfl _ rfl (H.out.blk 0 rfl) rfl ?_)) | ((with_reducible show wpList _ _ _ (⟨some 14, _, _, _, _, _⟩ :: _) _ _); (refine wpList_load_blk rfl rowNd (.tmp 3) rfl _ rfl (H.out.blk 1 rfl) rfl ?_)))
  refine (HC.out _ H.out.to).mono ?_; rintro e w2 ⟨rfl, hb2⟩
  replace H := Lib.hid (H.out.bel hb2); (try simp only [List.set_cons_zero, List.set_cons_succ, List.cons_append, List.nil_append, List.eraseIdx_cons_zero, List.eraseIdx_cons_succ, List.setIfInBounds_toArray, World.size_alloc, selR, List.getD_cons_zero, List.getD_cons_succ] at H)
  clear hb2 HC
  have cd : w2.cell? ⟨y, 0, none⟩ = some (.int .i64 n.dim) := (H.out.blk 1 rfl).cell 0
  go_wp2_with fail
  refine (putNum_any n.dim _ d0.1 d0.2).mono ?_; rintro e w3 ⟨rfl, hb3⟩
  replace H := Lib.hid (H.out.bel hb3); (try simp only [List.set_cons_zero, List.set_cons_succ, List.cons_append, List.nil_append, List.eraseIdx_cons_zero, List.eraseIdx_cons_succ, List.setIfInBounds_toArray, World.size_alloc, selR, List.getD_cons_zero, List.getD_cons_succ] at H)
  clear hb3 cd
  have cl : w3.cell? ⟨y, 1, none⟩ = some (.slice n.ls.A n.ls.n n.ls.c) := (H.out.blk 1 rfl).cell 1
  go_upto_region 6 with fail
  clear cl
  go_loopg [7, 25] n.ls.n (fun gg so si wr => ∃ (k : Nat) (l : List UInt8), gg = n.ls.n - k ∧ k ≤ n.ls.n ∧ si = .int .i64 k ∧ so = .string ⟨l.toArray⟩ ∧ Hid (SL No w wr [rBlk x 24 s.cs, rBlk y 34 n.cs]) ∧ Hid (T = l ++ ((n.ls.l.drop k).flatMap (fun v => listPut (s.sz.n) s.ms n.dim v.l) ++ cellPut (s.sz.n) s.ms n.dim n.all)))
  case atStart => exact ⟨0, _, rfl, by omega, rfl, rfl, H, HT⟩
  case round =>
    clear H HT
    obtain ⟨k, l, hgk, hk, rfl, rfl, H, HT⟩ := hrel
    obtain ⟨W0, hW0⟩ : ∃ W0, W0 = wr := ⟨_, rfl⟩
    subst hW0
    have Hgk := Lib.hid hgk
    clear hgk
    by_cases hlt : k < n.ls.n
    · obtain ⟨bl, ol, v, hAl, hvk, hvok, hvc⟩ := (HLS.out _ H.out.to).clsAt (k := k) hlt
      have HAL := Lib.hid hAl
      obtain ⟨z, hz63, hz⟩ := HRI.out k v hvk
      have HVM := Lib.hid (fun (j : Nat) (q : Cl) hj => HMEM.out k j v q hvk hj)
      have hvn := rdCls hvok
      have HV := Lib.hid (fun w' (hb : Bel W0 w') => (Row.ok.rds hvok).mono hb)
      have hvl : Hid (v.l.length = v.n) := (Row.ok.rds hvok).len
      have HT2 : Hid (T = (l ++ nput v.n) ++ (cellsPut (s.sz.n) s.ms n.dim (-1) (v.l.drop 0) ++ ((n.ls.l.drop (k + 1)).flatMap (fun v => listPut (s.sz.n) s.ms n.dim v.l) ++ cellPut (s.sz.n) s.ms n.dim n.all))) := by
        show _ = _
        rw [HT.out, drop_consL hvk, List.flatMap_cons, List.drop_zero]
        unfold listPut
        rw [hvl.out]
        simp only [List.append_assoc]
      have HZ : Hid (RiseC z (-1) (v.l.drop 0)) := hz
      have hlb : l.length + (nput v.n).length ≤ 1000000 := by have := congrArg List.length HT2.out; simp only [List.length_append] at this; omega
      have k0 : (0 : Int) ≤ k := by omega
      have k1 : (k : Int) < n.ls.n := by omega
      rw [hAl]
      clear hvk hvok hz HT
      go_wp2_with fail
      refine (putNum_any (v.n : Int) _ (by omega) (by omega)).mono ?_; rintro e w4 ⟨rfl, hb4⟩
      rw [Int.toNat_natCast]
      replace H := Lib.hid (H.out.bel hb4); (try simp only [List.set_cons_zero, List.set_cons_succ, List.cons_append, List.nil_append, List.eraseIdx_cons_zero, List.eraseIdx_cons_succ, List.setIfInBounds_toArray, World.size_alloc, selR, List.getD_cons_zero, List.getD_cons_succ] at H)
      replace HV := Lib.hid (fun w' (hb : Bel w4 w') => HV.out w' (hb4.trans hb))
      clear hb4 hvc
      go_upto_region 11 with fail
      (try rw [str_append])
      go_loopg [7, 10, 36] v.n (fun gg so sw si wx => ∃ (j : Nat) (l1 : List UInt8) (was : Int), gg = v.n - j ∧ j ≤ v.n ∧ si = .int .i64 j ∧ so = .string ⟨l1.toArray⟩ ∧ sw = .int .i64 was ∧ -1 ≤ was ∧ was ≤ 9223372036854775807 ∧ Hid (SL No w wx [rBlk x 24 s.cs, rBlk y 34 n.cs]) ∧ Hid (Bel w4 wx) ∧ Hid (T = l1 ++ (cellsPut (s.sz.n) s.ms n.dim was (v.l.drop j) ++ ((n.ls.l.drop (k + 1)).flatMap (fun v => listPut (s.sz.n) s.ms n.dim v.l) ++ cellPut (s.sz.n) s.ms n.dim n.all))) ∧ Hid (RiseC z was (v.l.drop j)))
      case atStart => exact ⟨0, _, -1, rfl, by omega, rfl, rfl, rfl, by omega, by omega, H, Bel.refl _, HT2, HZ⟩
      case round =>
        clear H HT2 HZ
        obtain ⟨j, l1, was, hgj, hj, rfl, rfl, rfl, hw0, hw1, H, HB, HT2, HZ⟩ := hrel
        obtain ⟨W1, hW1⟩ : ∃ W1, W1 = wr := ⟨_, rfl⟩
        subst hW1
        have Hgj := Lib.hid hgj
        clear hgj
        by_cases hjlt : j < v.n
        · obtain ⟨bb, oo, q, hA, hbb, hq, hqok, hqr⟩ := (HV.out _ HB.out).clAt (k := j) hjlt
          have hkey := hqok.key
          unfold I64 at hkey
          have hz := HZ.out
          rw [drop_consL hq] at hz
          obtain ⟨r1, r2, r3⟩ := hz
          have HZ2 : Hid (RiseC z q.key (v.l.drop (j + 1))) := r3
          have HT3 : Hid (T = (l1 ++ (nput (q.key - was - 1).toNat ++ cellPut (s.sz.n) s.ms n.dim q)) ++ (cellsPut (s.sz.n) s.ms n.dim q.key (v.l.drop (j + 1)) ++ ((n.ls.l.drop (k + 1)).flatMap (fun v => listPut (s.sz.n) s.ms n.dim v.l) ++ cellPut (s.sz.n) s.ms n.dim n.all))) := by
            show _ = _
            rw [HT2.out, drop_consL hq, cellsPut]
            simp only [List.append_assoc]
          have HNM : Hid (∀ (g : Int), g = q.key - was - 1 → ∀ w', Calls Try.prog 35 #[.int .i64 g] w' fun e w'' => e = .returned (.string ⟨(nput (q.key - was - 1).toNat).toArray⟩) ∧ Bel w' w'') := fun g hg w' => by subst hg; exact putNum_any (q.key - was - 1) w' (by omega) (by omega)
          generalize nput (q.key - was - 1).toNat = G at HT3 HNM
          have hlb2 : l1.length + (G.length + (cellPut (s.sz.n) s.ms n.dim q).length) ≤ 1000000 := by have := congrArg List.length HT3.out; simp only [List.length_append] at this; omega
          have hlb3 : G.length + (cellPut (s.sz.n) s.ms n.dim q).length ≤ 1000000 := by omega
          have hlb4 : l1.length + G.length ≤ 1000000 := by omega
          have hlb5 : l1.length + G.length + (cellPut (s.sz.n) s.ms n.dim q).length ≤ 1000000 := by omega
          have hlb6 : (l1 ++ G).length + (cellPut (s.sz.n) s.ms n.dim q).length ≤ 1000000 := by rw [List.length_append]; omega
          have hlb7 : l1.length + (G ++ cellPut (s.sz.n) s.ms n.dim q).length ≤ 1000000 := by rw [List.length_append]; omega
          have HQC := Lib.hid (fun w' (hb : Bel w w') => HCO.out q w' hb (HVM.out j q hq))
          have HR := Lib.hid hqr
          have HAv := Lib.hid hA
          have j0 : (0 : Int) ≤ j := by omega
          have j1 : (j : Int) < v.n := by omega
          have s1 : IntKind.i64.wrap (q.key - was) = q.key - was := IntWalk.i64_in _ (by omega)
          have s2 : IntKind.i64.wrap (q.key - was - 1) = q.key - was - 1 := IntWalk.i64_in _ (by omega)
          rw [hA]
          clear hq hqok hqr HZ HT2 hbb
          go_upto_region 13 with (first | ((with_reducible show wpList _ _ _ (⟨some 39, _, _, _, _, _⟩ :: _) _ _); (refine wpList_load_row_at rfl rowCl (.tmp 38) rfl bb (oo + j * 12) rfl q.cs rfl HR.out ?_)) | ((with_reducible show wpList _ _ _ (⟨_, .store _ (.tmp 12) _, _, _, _, _⟩ :: _) _ _); (refine wpList_store_new rfl rowCl (.tmp 12) (.tmp 39) rfl rfl rfl (q.cs) rfl rfl (cl_one q) ?_; replace H := Lib.hid (H.out.alloc (q.cs) 32); (try simp only [List.set_cons_zero, List.set_cons_succ, List.cons_append, List.nil_append, List.eraseIdx_cons_zero, List.eraseIdx_cons_succ, List.setIfInBounds_toArray, World.size_alloc, selR, List.getD_cons_zero, List.getD_cons_succ] at H))))
          (try simp only [Act.put, List.setIfInBounds_toArray, List.set_cons_zero, List.set_cons_succ])
          have HB2 := Lib.hid (HB.out.alloc (.cells q.cs 32))
          clear HR
          generalize W1.heap.size = g at *
          generalize World.alloc W1 _ = w5 at *
          have cd := (H.out.blk 1 rfl).cell 0; simp only [List.getElem?_toArray, List.getElem?_cons_zero, List.getElem?_cons_succ] at cd
          have ck := (H.out.blk 2 rfl).cell 0; simp only [List.getElem?_toArray, List.getElem?_cons_zero, List.getElem?_cons_succ] at ck
          have f_cd := fun u : Over w5 => Over.cell cd u
          have f_ck := fun u : Over w5 => Over.cell ck u
          refine wp_region_over (by kernel_rfl) (by kernel_rfl) ?_
          (try simp only [Act.put, List.setIfInBounds_toArray, List.set_cons_zero, List.set_cons_succ])
          repeat (first
            | ((with_reducible show wpQuiet _ _ _ _ (⟨some 47, _, _, _, _, _⟩ :: _) _); refine wpQuiet_load_row (by first | rfl | go_simp) rowShp2 (.tmp 2) rfl _ (0) rfl s.cs rfl (H.out.blk 0 rfl).lt (H.out.blk 0 rfl).range ?_; simp only [Act.put, List.setIfInBounds_toArray, List.set_cons_zero, List.set_cons_succ])
            | ((with_reducible show wpQuiet _ _ _ _ (⟨some 50, _, _, _, _, _⟩ :: _) _); refine wpQuiet_load_row (by first | rfl | go_simp) rowCl (.tmp 12) rfl _ (0) rfl q.cs rfl (H.out.blk 2 rfl).lt (H.out.blk 2 rfl).range ?_; simp only [Act.put, List.setIfInBounds_toArray, List.set_cons_zero, List.set_cons_succ])
            | ((with_reducible show wpQuiet _ _ _ _ (⟨some 52, _, _, _, _, _⟩ :: _) _); refine wpQuiet_cat (by first | rfl | go_simp) 9 9 (.tmp 46) (.tmp 51) rfl (l := G) (m := cellPut (s.sz.n) s.ms n.dim q) rfl rfl (by (try simp only [List.length_append]); omega) ?_; simp only [Act.put, List.setIfInBounds_toArray, List.set_cons_zero, List.set_cons_succ])
            | ((with_reducible show wpQuiet _ _ _ _ (⟨some 53, _, _, _, _, _⟩ :: _) _); refine wpQuiet_cat (by first | rfl | go_simp) 9 9 (.tmp 40) (.tmp 52) rfl (l := l1) (m := (G) ++ cellPut (s.sz.n) s.ms n.dim q) rfl rfl (by (try simp only [List.length_append]); omega) ?_; simp only [Act.put, List.setIfInBounds_toArray, List.set_cons_zero, List.set_cons_succ])
            | go_big_quiet_step ((first | (go_at_call 35; rename_i u; exact calls_over (HNM.out _ rfl _)) | (go_at_call 36; rename_i u; exact calls_over (HQC.out _ (H.out.to.trans u.bel))))))
          refine wpQuiet_nil ?_
          rintro w6 ⟨⟨_, hw6⟩, rfl⟩
          (try dsimp only)
          replace H := Lib.hid (H.out.bel hw6); (try simp only [List.set_cons_zero, List.set_cons_succ, List.cons_append, List.nil_append, List.eraseIdx_cons_zero, List.eraseIdx_cons_succ, List.setIfInBounds_toArray, World.size_alloc, selR, List.getD_cons_zero, List.getD_cons_succ] at H)
          clear f_cd f_ck cd ck
          replace HB := Lib.hid (HB2.out.trans hw6)
          have ck := (H.out.blk 2 rfl).cell 0; simp only [List.getElem?_toArray, List.getElem?_cons_zero, List.getElem?_cons_succ] at ck
          replace H := Lib.hid (H.out.sel [0, 1] (by decide) (by simp)); (try simp only [List.set_cons_zero, List.set_cons_succ, List.cons_append, List.nil_append, List.eraseIdx_cons_zero, List.eraseIdx_cons_succ, List.setIfInBounds_toArray, World.size_alloc, selR, List.getD_cons_zero, List.getD_cons_succ] at H)
          clear s1 s2 HB2 hw6 HNM HQC
          go_wp2_with fail
          rw [← HAv.out]
          go_roundg (v.n - (j + 1))
          case rel => exact ⟨j + 1, l1 ++ (G ++ cellPut (s.sz.n) s.ms n.dim q), q.key, rfl, by omega, by go_num, by simp only [str_append], rfl, by omega, by omega, H, HB, HT3, HZ2⟩
          case measure => rw [Hgj.out]; omega
        · have HT3 : Hid (T = l1 ++ ((n.ls.l.drop (k + 1)).flatMap (fun v => listPut (s.sz.n) s.ms n.dim v.l) ++ cellPut (s.sz.n) s.ms n.dim n.all)) := by
            show _ = _
            rw [HT2.out, List.drop_eq_nil_of_le (by rw [hvl.out]; omega), cellsPut, List.nil_append]
          clear HT2 HZ
          go_wp2_with fail
          rw [← HAL.out]
          go_roundg (n.ls.n - (k + 1))
          case rel => exact ⟨k + 1, l1, rfl, by omega, by go_num, rfl, H, HT3⟩
          case measure => rw [Hgk.out]; omega
    · have HT3 : Hid (T = l ++ cellPut (s.sz.n) s.ms n.dim n.all) := by
        show _ = _
        rw [HT.out, List.drop_eq_nil_of_le (by rw [hll.out]; omega), List.flatMap_nil, List.nil_append]
      have hlb : l.length + (cellPut (s.sz.n) s.ms n.dim n.all).length ≤ 1000000 := by have := congrArg List.length HT3.out; simp only [List.length_append] at this; omega
      have HAL : Hid (W0.rangeAt y 2 n.all.cs.toList) := fun j v hv => by
        have := (H.out.blk 1 rfl).range (j + 2) v (by rw [nd_all]; exact hv)
        rw [show 0 + (j + 2) = 2 + j by omega] at this
        exact this
      have cd : W0.cell? ⟨y, 0, none⟩ = some (.int .i64 n.dim) := (H.out.blk 1 rfl).cell 0
      clear HT
      go_wp2_with (first | ((with_reducible show wpList _ _ _ (⟨some 59, _, _, _, _, _⟩ :: _) _ _); (refine wpList_load_blk rfl rowShp2 (.tmp 2) rfl _ rfl (H.out.blk 0 rfl) rfl ?_)) | ((with_reducible show wpList _ _ _ (⟨some 63, _, _, _, _, _⟩ :: _) _ _); (refine wpList_load_row_at rfl rowCl (.tmp 62) rfl y (2) rfl n.all.cs rfl HAL.out ?_)))
      refine (HCO.out n.all _ H.out.to (List.mem_append_right _ (List.mem_singleton.2 rfl))).mono ?_; rintro e w4 ⟨rfl, hb4⟩
      replace H := Lib.hid (H.out.bel hb4); (try simp only [List.set_cons_zero, List.set_cons_succ, List.cons_append, List.nil_append, List.eraseIdx_cons_zero, List.eraseIdx_cons_succ, List.setIfInBounds_toArray, World.size_alloc, selR, List.getD_cons_zero, List.getD_cons_succ] at H)
      clear hb4 cd HAL
      go_wp2_with fail
      rw [str_append, ← HT3.out]
      refine (putText_any T _ (by omega)).mono ?_; rintro e w5 ⟨rfl, hb5⟩
      replace H := Lib.hid (H.out.bel hb5); (try simp only [List.set_cons_zero, List.set_cons_succ, List.cons_append, List.nil_append, List.eraseIdx_cons_zero, List.eraseIdx_cons_succ, List.setIfInBounds_toArray, World.size_alloc, selR, List.getD_cons_zero, List.getD_cons_succ] at H)
      go_wp2_with fail
      go_ret2
      exact ⟨rfl, H.out.to⟩

set_option maxRecDepth 100000 in
set_option maxHeartbeats 2000000 in
theorem cput_bad (s : Shp) (n : Nd) (w : World) (hs : s.rd w) (hn : n.rd w) (hE : nodeErr s.con s.ms n.con ≠ 0) :
    Calls Try.prog 12 #[.agg s.cs, .agg n.cs] w fun e w' => e = .returned (.tuple #[.string ⟨#[]⟩, .int .i64 (nodeErr s.con s.ms n.con)]) ∧ Bel w w' := by
  have HC := Lib.hid (fun w' (hb : Bel w w') => ncheck_any s n w' (hs.mono hb) (hn.mono hb))
  have H := Lib.hid (((SL.start No w).alloc s.cs 24).alloc n.cs 34)
  (try simp only [List.set_cons_zero, List.set_cons_succ, List.cons_append, List.nil_append, List.eraseIdx_cons_zero, List.eraseIdx_cons_succ, List.setIfInBounds_toArray, World.size_alloc, selR, List.getD_cons_zero, List.getD_cons_succ] at H)
  generalize nodeErr s.con s.ms n.con = E at *
  have dE : (E != 0) = true := by simpa using hE
  have dE2 : (E == 0) = false := by simpa using hE
  have hcs : s.cs = #[.slice s.sz.A s.sz.n s.sz.c, .int .i64 s.ms] := rfl
  have HCS := Lib.hid hcs
  clear hcs hs hn hE
  go_enter Try.func12, Try.ntmps12
  go_upto_region 1 with fail
  (try rw [← HCS.out] at *)
  generalize w.heap.size + 1 = y at *
  generalize w.heap.size = x at *
  generalize World.alloc (World.alloc _ _) _ = w1 at *
  go_wp2_with (first | ((with_reducible show wpList _ _ _ (⟨some 13, _, _, _, _, _⟩ :: _) _ _); (refine wpList_load_blk rfl rowShp2 (.tmp 2) rfl _ rfl (H.out.blk 0 rfl) rfl ?_)) | ((with_reducible show wpList _ _ _ (⟨some 14, _, _, _, _, _⟩ :: _) _ _); (refine wpList_load_blk rfl rowNd (.tmp 3) rfl _ rfl (H.out.blk 1 rfl) rfl ?_)))
  refine (HC.out _ H.out.to).mono ?_; rintro e w2 ⟨rfl, hb2⟩
  replace H := Lib.hid (H.out.bel hb2); (try simp only [List.set_cons_zero, List.set_cons_succ, List.cons_append, List.nil_append, List.eraseIdx_cons_zero, List.eraseIdx_cons_succ, List.setIfInBounds_toArray, World.size_alloc, selR, List.getD_cons_zero, List.getD_cons_succ] at H)
  go_wp2_with fail
  go_ret2
  exact ⟨rfl, H.out.to⟩

set_option maxRecDepth 100000 in
set_option maxHeartbeats 4000000 in
theorem rcput_any (s : Shp) (n : Nd) (w : World) (hs : s.rd w) (hn : n.rd w) (hE : nodeErr s.con s.ms n.con = 0) (hb : (bodyPut s.sz.n s.ms n.con).length ≤ 1000000) :
    Calls Try.prog 14 #[.agg s.cs, .agg n.cs] w fun e w' => e = .returned (.string ⟨(nodePut s.sz.n s.ms n.con).toArray⟩) ∧ Bel w w' := by
  have hxn : s.con.length = s.sz.n := by rw [List.length_map]; exact hs.sz.len
  have hcl := nodeErr_cells hE
  have hin := nodeErr_inv hE
  rw [hxn] at hcl hin
  have HC := Lib.hid (fun w' (hb : Bel w w') => ncheck_any s n w' (hs.mono hb) (hn.mono hb))
  rw [hE] at HC
  have HOK := Lib.hid (nd_cells hn)
  have HCO := Lib.hid (fun (c : Cl) w' (hb : Bel w w') (hc : c ∈ eachN n.con) => one_any s n.dim c w' (hs.mono hb) hn.dim (HOK.out c hc) (hcl.2 c hc))
  have HRI : Hid (∀ (k : Nat) (v : Row Cl), n.ls.l[k]? = some v → ∃ z : Int, z ≤ 9223372036854775807 ∧ RiseC z (-1) v.l) := fun k v hk => by
    obtain ⟨_, sz, hsz, _, _, h4, _⟩ := hin
    obtain ⟨z, hzz, hz⟩ := h4 k v.l (by show (n.ls.l.map Row.l)[k]? = _; rw [List.getElem?_map, hk]; rfl)
    have e1 : (s.sz.l.map Row.l)[n.dim.toNat]? = some sz := hsz
    rw [List.getElem?_map] at e1
    cases e2 : s.sz.l[n.dim.toNat]? with
    | none => rw [e2] at e1; cases e1
    | some row =>
      rw [e2] at e1
      injection e1 with e1
      have e3 : I64 z := (hs.sz.all row (List.mem_of_getElem? e2)).all z (by rw [show row.l = sz from e1]; exact List.mem_of_getElem? hzz)
      exact ⟨z, e3.2, (listErr_rise hz).1⟩
  have HMEM : Hid (∀ (k j : Nat) (v : Row Cl) (q : Cl), n.ls.l[k]? = some v → v.l[j]? = some q → q ∈ eachN n.con) := fun k j v q hk hj => List.mem_append_left _ (List.mem_flatten.2 ⟨v.l, List.mem_map.2 ⟨v, List.mem_of_getElem? hk, rfl⟩, List.mem_of_getElem? hj⟩)
  have HLS := Lib.hid (fun w' (hb : Bel w w') => hn.ls.mono hb)
  have hll : Hid (n.ls.l.length = n.ls.n) := hn.ls.len
  have n63 := hn.ls.n63
  have d0 := hn.dim
  unfold I64 at d0
  have hdim : 0 ≤ n.dim := hcl.1.1
  have H := Lib.hid (((SL.start No w).alloc s.cs 24).alloc n.cs 34)
  (try simp only [List.set_cons_zero, List.set_cons_succ, List.cons_append, List.nil_append, List.eraseIdx_cons_zero, List.eraseIdx_cons_succ, List.setIfInBounds_toArray, World.size_alloc, selR, List.getD_cons_zero, List.getD_cons_succ] at H)
  obtain ⟨T, hT⟩ : ∃ T, T = bodyPut s.sz.n s.ms n.con := ⟨_, rfl⟩
  have hV : nodePut s.sz.n s.ms n.con = ptext T := by rw [hT]; rfl
  rw [hV]
  rw [← hT] at hb
  have HT : Hid (T = nput n.dim.toNat ++ ((n.ls.l.drop 0).flatMap (fun v => listPut (s.sz.n) s.ms n.dim v.l) ++ cellPut (s.sz.n) s.ms n.dim n.all)) := by
    show _ = _
    rw [hT]
    show _ ++ ((n.ls.l.map Row.l).flatMap (listPut (s.sz.n) s.ms n.dim) ++ _) = _
    rw [List.flatMap_map]
    rfl
  have hcs : s.cs = #[.slice s.sz.A s.sz.n s.sz.c, .int .i64 s.ms] := rfl
  have HCS := Lib.hid hcs
  clear hcs hs hn hE hxn hcl hin hV hT
  go_enter Try.func14, Try.ntmps14
  go_upto_region 1 with fail
  (try rw [← HCS.out] at *)
  generalize w.heap.size + 1 = y at *
  generalize w.heap.size = x at *
  generalize World.alloc (World.alloc _ _) _ = w1 at *
  obtain ⟨w2, hw2⟩ : ∃ w2, w2 = w1 := ⟨_, rfl⟩
  subst hw2
  have cd : w2.cell? ⟨y, 0, none⟩ = some (.int .i64 n.dim) := (H.out.blk 1 rfl).cell 0
  go_wp2_with fail
  refine (rputNum_any n.dim _ d0.1 d0.2).mono ?_; rintro e w3 ⟨rfl, hb3⟩
  replace H := Lib.hid (H.out.bel hb3); (try simp only [List.set_cons_zero, List.set_cons_succ, List.cons_append, List.nil_append, List.eraseIdx_cons_zero, List.eraseIdx_cons_succ, List.setIfInBounds_toArray, World.size_alloc, selR, List.getD_cons_zero, List.getD_cons_succ] at H)
  clear hb3 cd
  have cl : w3.cell? ⟨y, 1, none⟩ = some (.slice n.ls.A n.ls.n n.ls.c) := (H.out.blk 1 rfl).cell 1
  go_upto_region 3 with fail
  clear cl
  go_loopg [5, 16] n.ls.n (fun gg so si wr => ∃ (k : Nat) (l : List UInt8), gg = n.ls.n - k ∧ k ≤ n.ls.n ∧ si = .int .i64 k ∧ so = .string ⟨l.toArray⟩ ∧ Hid (SL No w wr [rBlk x 24 s.cs, rBlk y 34 n.cs]) ∧ Hid (T = l ++ ((n.ls.l.drop k).flatMap (fun v => listPut (s.sz.n) s.ms n.dim v.l) ++ cellPut (s.sz.n) s.ms n.dim n.all)))
  case atStart => exact ⟨0, _, rfl, by omega, rfl, rfl, H, HT⟩
  case round =>
    clear H HT
    obtain ⟨k, l, hgk, hk, rfl, rfl, H, HT⟩ := hrel
    obtain ⟨W0, hW0⟩ : ∃ W0, W0 = wr := ⟨_, rfl⟩
    subst hW0
    have Hgk := Lib.hid hgk
    clear hgk
    by_cases hlt : k < n.ls.n
    · obtain ⟨bl, ol, v, hAl, hvk, hvok, hvc⟩ := (HLS.out _ H.out.to).clsAt (k := k) hlt
      have HAL := Lib.hid hAl
      obtain ⟨z, hz63, hz⟩ := HRI.out k v hvk
      have HVM := Lib.hid (fun (j : Nat) (q : Cl) hj => HMEM.out k j v q hvk hj)
      have hvn := rdCls hvok
      have HV := Lib.hid (fun w' (hb : Bel W0 w') => (Row.ok.rds hvok).mono hb)
      have hvl : Hid (v.l.length = v.n) := (Row.ok.rds hvok).len
      have HT2 : Hid (T = (l ++ nput v.n) ++ (cellsPut (s.sz.n) s.ms n.dim (-1) (v.l.drop 0) ++ ((n.ls.l.drop (k + 1)).flatMap (fun v => listPut (s.sz.n) s.ms n.dim v.l) ++ cellPut (s.sz.n) s.ms n.dim n.all))) := by
        show _ = _
        rw [HT.out, drop_consL hvk, List.flatMap_cons, List.drop_zero]
        unfold listPut
        rw [hvl.out]
        simp only [List.append_assoc]
      have HZ : Hid (RiseC z (-1) (v.l.drop 0)) := hz
      have hlb : l.length + (nput v.n).length ≤ 1000000 := by have := congrArg List.length HT2.out; simp only [List.length_append] at this; omega
      have k0 : (0 : Int) ≤ k := by omega
      have k1 : (k : Int) < n.ls.n := by omega
      rw [hAl]
      clear hvk hvok hz HT
      go_wp2_with fail
      refine (rputNum_any (v.n : Int) _ (by omega) (by omega)).mono ?_; rintro e w4 ⟨rfl, hb4⟩
      rw [Int.toNat_natCast]
      replace H := Lib.hid (H.out.bel hb4); (try simp only [List.set_cons_zero, List.set_cons_succ, List.cons_append, List.nil_append, List.eraseIdx_cons_zero, List.eraseIdx_cons_succ, List.setIfInBounds_toArray, World.size_alloc, selR, List.getD_cons_zero, List.getD_cons_succ] at H)
      replace HV := Lib.hid (fun w' (hb : Bel w4 w') => HV.out w' (hb4.trans hb))
      clear hb4 hvc
      go_upto_region 7 with fail
      (try rw [str_append])
      go_loopg [5, 27] v.n (fun gg so si wx => ∃ (j : Nat) (l1 : List UInt8) (was : Int), gg = v.n - j ∧ j ≤ v.n ∧ si = .int .i64 j ∧ so = .string ⟨l1.toArray⟩ ∧ -1 ≤ was ∧ was ≤ 9223372036854775807 ∧ Hid (SL No w wx [rBlk x 24 s.cs, rBlk y 34 n.cs]) ∧ Hid (Bel w4 wx) ∧ Hid (T = l1 ++ (cellsPut (s.sz.n) s.ms n.dim was (v.l.drop j) ++ ((n.ls.l.drop (k + 1)).flatMap (fun v => listPut (s.sz.n) s.ms n.dim v.l) ++ cellPut (s.sz.n) s.ms n.dim n.all))) ∧ Hid (RiseC z was (v.l.drop j)) ∧ Hid (if j = 0 then was = -1 else ∃ p : Cl, v.l[j - 1]? = some p ∧ was = p.key))
      case atStart => exact ⟨0, _, -1, rfl, by omega, rfl, rfl, by omega, by omega, H, Bel.refl _, HT2, HZ, by show (if (0 : Nat) = 0 then _ else _); rw [if_pos rfl]⟩
      case round =>
        clear H HT2 HZ
        obtain ⟨j, l1, was, hgj, hj, rfl, rfl, hw0, hw1, H, HB, HT2, HZ, HP⟩ := hrel
        obtain ⟨W1, hW1⟩ : ∃ W1, W1 = wr := ⟨_, rfl⟩
        subst hW1
        have Hgj := Lib.hid hgj
        clear hgj
        by_cases hjlt : j < v.n
        · obtain ⟨bb, oo, q, hA, hbb, hq, hqok, hqr⟩ := (HV.out _ HB.out).clAt (k := j) hjlt
          have hkey := hqok.key
          unfold I64 at hkey
          have hz := HZ.out
          rw [drop_consL hq] at hz
          obtain ⟨r1, r2, r3⟩ := hz
          have HZ2 : Hid (RiseC z q.key (v.l.drop (j + 1))) := r3
          have HT3 : Hid (T = (l1 ++ (nput (q.key - was - 1).toNat ++ cellPut (s.sz.n) s.ms n.dim q)) ++ (cellsPut (s.sz.n) s.ms n.dim q.key (v.l.drop (j + 1)) ++ ((n.ls.l.drop (k + 1)).flatMap (fun v => listPut (s.sz.n) s.ms n.dim v.l) ++ cellPut (s.sz.n) s.ms n.dim n.all))) := by
            show _ = _
            rw [HT2.out, drop_consL hq, cellsPut]
            simp only [List.append_assoc]
          have HNM : Hid (∀ (g : Int), g = q.key - was - 1 → ∀ w', Calls Try.prog 39 #[.int .i64 g] w' fun e w'' => e = .returned (.string ⟨(nput (q.key - was - 1).toNat).toArray⟩) ∧ Bel w' w'') := fun g hg w' => by subst hg; exact rputNum_any (q.key - was - 1) w' (by omega) (by omega)
          generalize nput (q.key - was - 1).toNat = G at HT3 HNM
          have hlb2 : l1.length + (G.length + (cellPut (s.sz.n) s.ms n.dim q).length) ≤ 1000000 := by have := congrArg List.length HT3.out; simp only [List.length_append] at this; omega
          have hlb3 : G.length + (cellPut (s.sz.n) s.ms n.dim q).length ≤ 1000000 := by omega
          have hlb4 : l1.length + G.length ≤ 1000000 := by omega
          have hlb5 : l1.length + G.length + (cellPut (s.sz.n) s.ms n.dim q).length ≤ 1000000 := by omega
          have hlb6 : (l1 ++ G).length + (cellPut (s.sz.n) s.ms n.dim q).length ≤ 1000000 := by rw [List.length_append]; omega
          have hlb7 : l1.length + (G ++ cellPut (s.sz.n) s.ms n.dim q).length ≤ 1000000 := by rw [List.length_append]; omega
          have HQC := Lib.hid (fun w' (hb : Bel w w') => HCO.out q w' hb (HVM.out j q hq))
          have HR := Lib.hid hqr
          have HAv := Lib.hid hA
          have j0 : (0 : Int) ≤ j := by omega
          have j1 : (j : Int) < v.n := by omega
          have s1 : IntKind.i64.wrap (q.key - was) = q.key - was := IntWalk.i64_in _ (by omega)
          have s2 : IntKind.i64.wrap (q.key - was - 1) = q.key - was - 1 := IntWalk.i64_in _ (by omega)
          rw [hA]
          have ck : W1.cell? ⟨bb, oo + j * 12, none⟩ = some (.int .i64 q.key) := by have := hqr 0 _ rfl; simpa using this
          have HVL := Lib.hid (HV.out _ HB.out)
          have HP2 : Hid (if j + 1 = 0 then q.key = -1 else ∃ p : Cl, v.l[j + 1 - 1]? = some p ∧ q.key = p.key) := by
            show (if j + 1 = 0 then _ else _)
            rw [if_neg (by omega)]
            exact ⟨q, hq, rfl⟩
          clear hq hqok hqr HZ HT2 HV
          by_cases hj0 : j = 0
          · have hw : was = -1 := by have := HP.out; rw [if_pos hj0] at this; exact this
            have s8 : decide ((0 : Int) < (j : Int)) = false := by simp; omega
            have s9 : decide (0 < j) = false := by simp; omega
            have HG : Hid (q.key = q.key - was - 1) := by show _ = _; omega
            clear HP HVL hj0 hw
            have cd := (H.out.blk 1 rfl).cell 0; simp only [List.getElem?_toArray, List.getElem?_cons_zero, List.getElem?_cons_succ] at cd
            go_upto_region 12 with fail
            have f_cd := fun u : Over W1 => Over.cell cd u
            refine wp_region_over (by kernel_rfl) (by kernel_rfl) ?_
            (try simp only [Act.put, List.setIfInBounds_toArray, List.set_cons_zero, List.set_cons_succ])
            repeat (first
              | ((with_reducible show wpQuiet _ _ _ _ (⟨some 54, _, _, _, _, _⟩ :: _) _); refine wpQuiet_load_row (by first | rfl | go_simp) rowShp2 (.tmp 2) rfl x (0) rfl s.cs rfl (H.out.blk 0 rfl).lt (H.out.blk 0 rfl).range ?_; simp only [Act.put, List.setIfInBounds_toArray, List.set_cons_zero, List.set_cons_succ])
              | ((with_reducible show wpQuiet _ _ _ _ (⟨some 60, _, _, _, _, _⟩ :: _) _); refine wpQuiet_load_row (by first | rfl | go_simp) rowCl (.tmp 59) rfl bb ((oo + j * 12)) rfl q.cs rfl hbb HR.out ?_; simp only [Act.put, List.setIfInBounds_toArray, List.set_cons_zero, List.set_cons_succ])
              | ((with_reducible show wpQuiet _ _ _ _ (⟨some 53, _, _, _, _, _⟩ :: _) _); refine wpQuiet_cat (by first | rfl | go_simp) 9 9 (.tmp 50) (.tmp 52) rfl (l := l1) (m := G) rfl rfl (by (try simp only [List.length_append]); omega) ?_; simp only [Act.put, List.setIfInBounds_toArray, List.set_cons_zero, List.set_cons_succ])
              | ((with_reducible show wpQuiet _ _ _ _ (⟨some 62, _, _, _, _, _⟩ :: _) _); refine wpQuiet_cat (by first | rfl | go_simp) 9 9 (.tmp 53) (.tmp 61) rfl (l := l1 ++ (G)) (m := cellPut (s.sz.n) s.ms n.dim q) rfl rfl (by (try simp only [List.length_append]); omega) ?_; simp only [Act.put, List.setIfInBounds_toArray, List.set_cons_zero, List.set_cons_succ])
              | go_big_quiet_step ((first | (go_at_call 39; rename_i u; exact calls_over (HNM.out _ HG.out _)) | (go_at_call 40; rename_i u; exact calls_over (HQC.out _ (H.out.to.trans u.bel))))))
            refine wpQuiet_nil ?_
            rintro w6 ⟨⟨_, hw6⟩, rfl⟩
            (try dsimp only)
            replace H := Lib.hid (H.out.bel hw6); (try simp only [List.set_cons_zero, List.set_cons_succ, List.cons_append, List.nil_append, List.eraseIdx_cons_zero, List.eraseIdx_cons_succ, List.setIfInBounds_toArray, World.size_alloc, selR, List.getD_cons_zero, List.getD_cons_succ] at H)
            clear f_cd cd
            replace HB := Lib.hid (HB.out.trans hw6)
            clear hw6 HNM HQC
            go_wp2_with fail
            rw [← HAv.out]
            go_roundg (v.n - (j + 1))
            case rel => exact ⟨j + 1, l1 ++ (G ++ cellPut (s.sz.n) s.ms n.dim q), q.key, rfl, by omega, by go_num, by (try simp only [str_append]); (try simp only [List.append_assoc]), by omega, by omega, H, HB, HT3, HZ2, HP2⟩
            case measure => rw [Hgj.out]; omega
          · obtain ⟨p, hp, hwp⟩ : ∃ p : Cl, v.l[j - 1]? = some p ∧ was = p.key := by have := HP.out; rw [if_neg hj0] at this; exact this
            obtain ⟨b2, o2, p2, hA2, _, hp2, _, hr2⟩ := HVL.out.clAt (k := j - 1) (by omega)
            rw [hp] at hp2
            injection hp2 with hp2
            subst hp2
            rw [hA] at hA2
            injection hA2 with hA2
            injection hA2 with e1 e2 e3
            subst e1
            subst e2
            have cp : W1.cell? ⟨bb, oo + (j - 1) * 12, none⟩ = some (.int .i64 was) := by have := hr2 0 _ rfl; rw [hwp]; simpa using this
            have s4 : IntKind.i64.wrap ((j : Int) - 1) = (j : Int) - 1 := IntWalk.i64_in _ (by omega)
            have s5 : (0 : Int) ≤ (j : Int) - 1 := by omega
            have s6 : (j : Int) - 1 < v.n := by omega
            have s7 : ((j : Int) - 1).toNat = j - 1 := by omega
            have s8 : decide ((0 : Int) < (j : Int)) = true := by simp; omega
            have s9 : decide (0 < j) = true := by simp; omega
            have HG : Hid (q.key - was - 1 = q.key - was - 1) := rfl
            clear HP HVL hr2 hp hwp hj0
            go_upto_region 11 with fail
            go_quiet (fail)
            rename_i nq
            replace H := Lib.hid (H.out.drewN nq); (try simp only [List.set_cons_zero, List.set_cons_succ, List.cons_append, List.nil_append, List.eraseIdx_cons_zero, List.eraseIdx_cons_succ, List.setIfInBounds_toArray, World.size_alloc, selR, List.getD_cons_zero, List.getD_cons_succ] at H)
            replace HB := Lib.hid (HB.out.drewN nq)
            have HR2 := Lib.hid ((Bel.refl W1).drewN nq)
            have HR : Hid (World.rangeAt _ bb (oo + j * 12) q.cs.toList) := rangeAt_bel hbb HR.out HR2.out
            have hbb2 : bb < (World.drewN W1 nq).heap.size := hbb
            clear s1 s2 s4 s5 s6 s7 s8 s9
            generalize World.drewN W1 nq = W2 at *
            have cd := (H.out.blk 1 rfl).cell 0; simp only [List.getElem?_toArray, List.getElem?_cons_zero, List.getElem?_cons_succ] at cd
            go_upto_region 12 with fail
            have f_cd := fun u : Over W2 => Over.cell cd u
            refine wp_region_over (by kernel_rfl) (by kernel_rfl) ?_
            (try simp only [Act.put, List.setIfInBounds_toArray, List.set_cons_zero, List.set_cons_succ])
            repeat (first
              | ((with_reducible show wpQuiet _ _ _ _ (⟨some 54, _, _, _, _, _⟩ :: _) _); refine wpQuiet_load_row (by first | rfl | go_simp) rowShp2 (.tmp 2) rfl x (0) rfl s.cs rfl (H.out.blk 0 rfl).lt (H.out.blk 0 rfl).range ?_; simp only [Act.put, List.setIfInBounds_toArray, List.set_cons_zero, List.set_cons_succ])
              | ((with_reducible show wpQuiet _ _ _ _ (⟨some 60, _, _, _, _, _⟩ :: _) _); refine wpQuiet_load_row (by first | rfl | go_simp) rowCl (.tmp 59) rfl bb ((oo + j * 12)) rfl q.cs rfl hbb2 HR.out ?_; simp only [Act.put, List.setIfInBounds_toArray, List.set_cons_zero, List.set_cons_succ])
              | go_big_quiet_step ((first | (go_at_call 39; rename_i u; exact calls_over (HNM.out _ HG.out _)) | (go_at_call 40; rename_i u; exact calls_over (HQC.out _ (H.out.to.trans u.bel))))))
            refine wpQuiet_nil ?_
            rintro w6 ⟨⟨_, hw6⟩, rfl⟩
            (try dsimp only)
            replace H := Lib.hid (H.out.bel hw6); (try simp only [List.set_cons_zero, List.set_cons_succ, List.cons_append, List.nil_append, List.eraseIdx_cons_zero, List.eraseIdx_cons_succ, List.setIfInBounds_toArray, World.size_alloc, selR, List.getD_cons_zero, List.getD_cons_succ] at H)
            clear f_cd cd
            replace HB := Lib.hid (HB.out.trans hw6)
            clear hw6 HNM HQC
            go_wp2_with fail
            rw [← HAv.out]
            go_roundg (v.n - (j + 1))
            case rel => exact ⟨j + 1, l1 ++ (G ++ cellPut (s.sz.n) s.ms n.dim q), q.key, rfl, by omega, by go_num, by (try simp only [str_append]); (try simp only [List.append_assoc]), by omega, by omega, H, HB, HT3, HZ2, HP2⟩
            case measure => rw [Hgj.out]; omega
        · have HT3 : Hid (T = l1 ++ ((n.ls.l.drop (k + 1)).flatMap (fun v => listPut (s.sz.n) s.ms n.dim v.l) ++ cellPut (s.sz.n) s.ms n.dim n.all)) := by
            show _ = _
            rw [HT2.out, List.drop_eq_nil_of_le (by rw [hvl.out]; omega), cellsPut, List.nil_append]
          clear HT2 HZ
          go_wp2_with fail
          rw [← HAL.out]
          go_roundg (n.ls.n - (k + 1))
          case rel => exact ⟨k + 1, l1, rfl, by omega, by go_num, rfl, H, HT3⟩
          case measure => rw [Hgk.out]; omega
    · have HT3 : Hid (T = l ++ cellPut (s.sz.n) s.ms n.dim n.all) := by
        show _ = _
        rw [HT.out, List.drop_eq_nil_of_le (by rw [hll.out]; omega), List.flatMap_nil, List.nil_append]
      have hlb : l.length + (cellPut (s.sz.n) s.ms n.dim n.all).length ≤ 1000000 := by have := congrArg List.length HT3.out; simp only [List.length_append] at this; omega
      have HAL : Hid (W0.rangeAt y 2 n.all.cs.toList) := fun j v hv => by
        have := (H.out.blk 1 rfl).range (j + 2) v (by rw [nd_all]; exact hv)
        rw [show 0 + (j + 2) = 2 + j by omega] at this
        exact this
      have cd : W0.cell? ⟨y, 0, none⟩ = some (.int .i64 n.dim) := (H.out.blk 1 rfl).cell 0
      clear HT
      go_wp2_with (first | ((with_reducible show wpList _ _ _ (⟨some 66, _, _, _, _, _⟩ :: _) _ _); (refine wpList_load_blk rfl rowShp2 (.tmp 2) rfl _ rfl (H.out.blk 0 rfl) rfl ?_)) | ((with_reducible show wpList _ _ _ (⟨some 70, _, _, _, _, _⟩ :: _) _ _); (refine wpList_load_row_at rfl rowCl (.tmp 69) rfl y (2) rfl n.all.cs rfl HAL.out ?_)))
      refine (HCO.out n.all _ H.out.to (List.mem_append_right _ (List.mem_singleton.2 rfl))).mono ?_; rintro e w4 ⟨rfl, hb4⟩
      replace H := Lib.hid (H.out.bel hb4); (try simp only [List.set_cons_zero, List.set_cons_succ, List.cons_append, List.nil_append, List.eraseIdx_cons_zero, List.eraseIdx_cons_succ, List.setIfInBounds_toArray, World.size_alloc, selR, List.getD_cons_zero, List.getD_cons_succ] at H)
      clear hb4 cd HAL
      go_wp2_with fail
      rw [str_append, ← HT3.out]
      refine (rputText_any T _ (by omega)).mono ?_; rintro e w5 ⟨rfl, hb5⟩
      replace H := Lib.hid (H.out.bel hb5); (try simp only [List.set_cons_zero, List.set_cons_succ, List.cons_append, List.nil_append, List.eraseIdx_cons_zero, List.eraseIdx_cons_succ, List.setIfInBounds_toArray, World.size_alloc, selR, List.getD_cons_zero, List.getD_cons_succ] at H)
      go_wp2_with fail
      go_ret
      exact ⟨rfl, H.out.to⟩

end Go.Proofs.Ytlclllkjnhgbjaa
