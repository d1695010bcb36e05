/- Find, of the program and the document. -/
import Derived.Test.YtjiphfobengdlaaLokA
namespace Go.Proofs.Ytjiphfobengdlaa
open Go.RowKit
set_option linter.unusedVariables false
set_option linter.unusedSimpArgs false


set_option maxRecDepth 100000 in
set_option maxHeartbeats 4000000 in
theorem nfind_any (n : Nd) (p : Ps) (w : World) (hn : n.rd w) (hp : p.ok) (hbd : ∀ y ∈ n.ls.l, y.n ≤ 1000000) (hri : ∀ y ∈ n.ls.l, RiseL y.l) :
    Calls Try.prog 100 #[.agg n.cs, .agg p.cs] w fun e w' => e = .returned (.tuple #[.agg ((pfind n.con p.t p.k).getD .nil).cs, .bool (pfind n.con p.t p.k).isSome]) ∧ Bel w w' := by
  have H := Lib.hid ((((SL.start No w).alloc n.cs 44).alloc p.cs 110).alloc #[.int .i64 0, .int .i64 0, .int .i64 0, .int .i64 0, .int .i64 0, .int .i64 0, .int .i64 0, .int .i64 0, .int .i64 0, .int .i64 0, .int .i64 0, .int .i64 0] 42)
  (try simp only [List.set_cons_zero, List.set_cons_succ, List.cons_append, List.nil_append, List.eraseIdx_cons_zero, List.eraseIdx_cons_succ, List.setIfInBounds_toArray, World.size_alloc, selR, List.getD_cons_zero, List.getD_cons_succ] at H)
  obtain ⟨V, hV⟩ : ∃ V, V = pfind n.con p.t p.k := ⟨_, rfl⟩
  have HV : Hid (V = if n.con.ls.length = 0 ∨ (n.con.ls.length : Int) ≤ p.t then none else if p.t < 0 then some n.con.all else ((n.con.ls[p.t.toNat]?).getD []).find? (fun c => c.key == p.k)) := hV
  rw [← hV]
  have hln : n.con.ls.length = n.ls.n := by show (n.ls.l.map Row.l).length = _; rw [List.length_map]; exact hn.ls.len
  rw [hln] at HV
  have HCS := Lib.hid (rfl : n.cs = Nd.cs n)
  have p64 := hp.t
  unfold I64 at p64
  have HX := Lib.hid (fun w' (hb : Bel w w') => hn.ls.mono hb)
  have n63 := hn.ls.n63
  clear hV hln hn hp
  go_enter Try.func100, Try.ntmps100
  go_upto_region 1 with fail
  generalize w.heap.size + 1 + 1 = z at *
  generalize w.heap.size + 1 = y at *
  generalize w.heap.size = x at *
  generalize World.alloc (World.alloc _ _) _ = w1 at *
  have cl : w1.cell? ⟨x, 1, none⟩ = some (.slice n.ls.A n.ls.n n.ls.c) := (H.out.blk 0 rfl).cell 1
  have cp : w1.cell? ⟨y, 0, none⟩ = some (.int .i64 p.t) := (H.out.blk 1 rfl).cell 0
  have ck : w1.cell? ⟨y, 1, none⟩ = some (.int .i64 p.k) := (H.out.blk 1 rfl).cell 1
  by_cases h0 : n.ls.n = 0
  · have HV2 : Hid (V = none) := by show _ = _; rw [HV.out, if_pos (.inl h0)]
    rw [h0] at cl
    clear HV h0
    go_wp2_with ((with_reducible show wpList _ _ _ (⟨_, .store _ (.tmp 4) _, _, _, _, _⟩ :: _) _ _); (refine wpList_store_blk rfl rowCl (.tmp 4) (.tmp 21) rfl _ rfl (H.out.blk 2 rfl) rfl (#[.int .i64 0, .int .i64 0, .int .i64 0, .int .i64 0, .int .i64 0, .int .i64 0, .int .i64 0, .int .i64 0, .int .i64 0, .int .i64 0, .int .i64 0, .int .i64 0]) rfl rfl (by simp [Value.oneCell']) ?_; intro wq bq hgq; replace H := Lib.hid (H.out.setBlk 2 rfl hgq bq); (try simp only [List.set_cons_zero, List.set_cons_succ, List.cons_append, List.nil_append, List.eraseIdx_cons_zero, List.eraseIdx_cons_succ, List.setIfInBounds_toArray, World.size_alloc, selR, List.getD_cons_zero, List.getD_cons_succ] at H); clear hgq bq))
    refine bodyPost_ret (results_blk rfl rowCl rfl (H.out.blk 2 rfl) rfl) rfl ?_
    rw [HV2.out]
    exact ⟨rfl, H.out.to⟩
  have z0 : ((n.ls.n : Int) == 0) = false := by simp; omega
  have z0n : (n.ls.n == 0) = false := by simp; omega
  by_cases h1 : (n.ls.n : Int) ≤ p.t
  · have HV2 : Hid (V = none) := by show _ = _; rw [HV.out, if_pos (.inr h1)]
    have d1 : decide ((n.ls.n : Int) ≤ p.t) = true := by simpa using h1
    clear HV h0 h1
    go_wp2_with ((with_reducible show wpList _ _ _ (⟨_, .store _ (.tmp 4) _, _, _, _, _⟩ :: _) _ _); (refine wpList_store_blk rfl rowCl (.tmp 4) (.tmp 21) rfl _ rfl (H.out.blk 2 rfl) rfl (#[.int .i64 0, .int .i64 0, .int .i64 0, .int .i64 0, .int .i64 0, .int .i64 0, .int .i64 0, .int .i64 0, .int .i64 0, .int .i64 0, .int .i64 0, .int .i64 0]) rfl rfl (by simp [Value.oneCell']) ?_; intro wq bq hgq; replace H := Lib.hid (H.out.setBlk 2 rfl hgq bq); (try simp only [List.set_cons_zero, List.set_cons_succ, List.cons_append, List.nil_append, List.eraseIdx_cons_zero, List.eraseIdx_cons_succ, List.setIfInBounds_toArray, World.size_alloc, selR, List.getD_cons_zero, List.getD_cons_succ] at H); clear hgq bq))
    refine bodyPost_ret (results_blk rfl rowCl rfl (H.out.blk 2 rfl) rfl) rfl ?_
    rw [HV2.out]
    exact ⟨rfl, H.out.to⟩
  have d1 : decide ((n.ls.n : Int) ≤ p.t) = false := by simpa using h1
  by_cases h2 : p.t < 0
  · have HV2 : Hid (V = some n.all) := by show _ = _; rw [HV.out, if_neg (by omega), if_pos h2]
    have d2 : decide (p.t < 0) = true := by simpa using h2
    have HAL : Hid (w1.rangeAt x 2 n.all.cs.toList) := fun j v hv => by
      have := (H.out.blk 0 rfl).range (j + 2) v (by rw [nd_all]; exact hv)
      rw [show 0 + (j + 2) = 2 + j by omega] at this
      exact this
    clear HV h0 h1 h2
    go_wp2_with (first | ((with_reducible show wpList _ _ _ (⟨some 26, _, _, _, _, _⟩ :: _) _ _); (refine wpList_load_row_at rfl rowCl (.tmp 25) rfl x (2) rfl n.all.cs rfl HAL.out ?_)) | ((with_reducible show wpList _ _ _ (⟨_, .store _ (.tmp 4) _, _, _, _, _⟩ :: _) _ _); (refine wpList_store_blk rfl rowCl (.tmp 4) (.tmp 26) rfl _ rfl (H.out.blk 2 rfl) rfl (n.all.cs) rfl rfl (cl_one n.all) ?_; intro wq bq hgq; replace H := Lib.hid (H.out.setBlk 2 rfl hgq bq); (try simp only [List.set_cons_zero, List.set_cons_succ, List.cons_append, List.nil_append, List.eraseIdx_cons_zero, List.eraseIdx_cons_succ, List.setIfInBounds_toArray, World.size_alloc, selR, List.getD_cons_zero, List.getD_cons_succ] at H); clear hgq bq)))
    refine bodyPost_ret (results_blk rfl rowCl rfl (H.out.blk 2 rfl) rfl) rfl ?_
    rw [HV2.out]
    exact ⟨rfl, H.out.to⟩
  have d2 : decide (p.t < 0) = false := by simpa using h2
  obtain ⟨q, hq⟩ : ∃ q : Nat, p.t = q := ⟨p.t.toNat, by omega⟩
  have hqn : q < n.ls.n := by omega
  obtain ⟨bl, ol, v, hAl, hvk, hvok, hvc⟩ := (HX.out _ H.out.to).clsAt (k := q) hqn
  have HVV : Hid (V = v.l.find? (fun c => c.key == p.k)) := by
    show _ = _
    rw [HV.out, if_neg (by omega), if_neg h2, hq, Int.toNat_natCast]
    show (((n.ls.l.map Row.l)[q]?).getD []).find? _ = _
    rw [List.getElem?_map, hvk]
    rfl
  rw [hq] at cp d1 d2
  rw [hAl] at cl
  have d1n : decide (n.ls.n ≤ q) = false := by simp; omega
  have HVR := Lib.hid (fun w' (hb : Bel w1 w') => hvok.rds.mono hb)
  have q0 : (0 : Int) ≤ q := by omega
  have q1 : (q : Int) < n.ls.n := by omega
  have v63 := rdCls hvok
  have HVB := Lib.hid (hbd v (List.mem_of_getElem? hvk))
  have HRI := Lib.hid (hri v (List.mem_of_getElem? hvk))
  clear HV h0 h1 h2 hq hvk hvok hAl hbd hri

  go_wp2_with fail
  refine (bsearchC_any v p.k _ (HVR.out _ (Bel.refl _)) HVB.out HRI.out).mono ?_; rintro e w2 ⟨j, hj, rfl, hb2⟩
  replace H := Lib.hid (H.out.bel hb2); (try simp only [List.set_cons_zero, List.set_cons_succ, List.cons_append, List.nil_append, List.eraseIdx_cons_zero, List.eraseIdx_cons_succ, List.setIfInBounds_toArray, World.size_alloc, selR, List.getD_cons_zero, List.getD_cons_succ] at H)
  have HJ := Lib.hid hj
  have HB2 := Lib.hid hb2
  clear hb2 hj cl cp ck hvc
  cases hm : metC v.l p.k j with
  | false =>
    have HV2 : Hid (V = none) := by show _ = _; rw [HVV.out]; exact isAt_not HRI.out HJ.out hm
    clear HVV hm
    go_wp2_with ((with_reducible show wpList _ _ _ (⟨_, .store _ (.tmp 4) _, _, _, _, _⟩ :: _) _ _); (refine wpList_store_blk rfl rowCl (.tmp 4) (.tmp 42) rfl _ rfl (H.out.blk 2 rfl) rfl (#[.int .i64 0, .int .i64 0, .int .i64 0, .int .i64 0, .int .i64 0, .int .i64 0, .int .i64 0, .int .i64 0, .int .i64 0, .int .i64 0, .int .i64 0, .int .i64 0]) rfl rfl (by simp [Value.oneCell']) ?_; intro wq bq hgq; replace H := Lib.hid (H.out.setBlk 2 rfl hgq bq); (try simp only [List.set_cons_zero, List.set_cons_succ, List.cons_append, List.nil_append, List.eraseIdx_cons_zero, List.eraseIdx_cons_succ, List.setIfInBounds_toArray, World.size_alloc, selR, List.getD_cons_zero, List.getD_cons_succ] at H); clear hgq bq))
    refine bodyPost_ret (results_blk rfl rowCl rfl (H.out.blk 2 rfl) rfl) rfl ?_
    rw [HV2.out]
    exact ⟨rfl, H.out.to⟩
  | true =>
    obtain ⟨c, hcj, hcf⟩ := isAt_met HJ.out hm
    have HV2 : Hid (V = some c) := by show _ = _; rw [HVV.out]; exact hcf
    have hjl : j < v.n := by have h := (List.getElem?_eq_some_iff.1 hcj).1; have h2 : v.l.length = v.n := (HVR.out _ (Bel.refl _)).len; omega
    obtain ⟨b4, o4, c', hA4, hb4, hck, _, hr4⟩ := (HVR.out _ HB2.out).clAt (k := j) hjl
    obtain rfl : c = c' := by rw [hcj] at hck; injection hck
    have HR4 := Lib.hid hr4
    have j0 : (0 : Int) ≤ j := by omega
    have j1 : (j : Int) < v.n := by omega
    rw [hA4]
    clear HVV hm hcj hcf hck hr4 hA4
    go_wp2_with (first | ((with_reducible show wpList _ _ _ (⟨some 46, _, _, _, _, _⟩ :: _) _ _); (refine wpList_load_row_at rfl rowCl (.tmp 45) rfl b4 (o4 + j * 12) rfl c.cs rfl HR4.out ?_)) | ((with_reducible show wpList _ _ _ (⟨_, .store _ (.tmp 4) _, _, _, _, _⟩ :: _) _ _); (refine wpList_store_blk rfl rowCl (.tmp 4) (.tmp 46) rfl _ rfl (H.out.blk 2 rfl) rfl (c.cs) rfl rfl (cl_one c) ?_; intro wq bq hgq; replace H := Lib.hid (H.out.setBlk 2 rfl hgq bq); (try simp only [List.set_cons_zero, List.set_cons_succ, List.cons_append, List.nil_append, List.eraseIdx_cons_zero, List.eraseIdx_cons_succ, List.setIfInBounds_toArray, World.size_alloc, selR, List.getD_cons_zero, List.getD_cons_succ] at H); clear hgq bq)))
    refine bodyPost_ret (results_blk rfl rowCl rfl (H.out.blk 2 rfl) rfl) rfl ?_
    rw [HV2.out]
    exact ⟨rfl, H.out.to⟩
set_option maxRecDepth 100000 in
set_option maxHeartbeats 4000000 in
theorem rfind_any (n : Nd) (p : Ps) (w : World) (hn : n.rd w) (hp : p.ok) :
    Calls Try.prog 68 #[.agg n.cs, .agg p.cs] w fun e w' => e = .returned (.tuple #[.agg ((pfind n.con p.t p.k).getD .nil).cs, .bool (pfind n.con p.t p.k).isSome]) ∧ Bel w w' := by
  have H := Lib.hid ((((SL.start No w).alloc n.cs 44).alloc p.cs 110).alloc #[.int .i64 0, .int .i64 0, .int .i64 0, .int .i64 0, .int .i64 0, .int .i64 0, .int .i64 0, .int .i64 0, .int .i64 0, .int .i64 0, .int .i64 0, .int .i64 0] 42)
  (try simp only [List.set_cons_zero, List.set_cons_succ, List.cons_append, List.nil_append, List.eraseIdx_cons_zero, List.eraseIdx_cons_succ, List.setIfInBounds_toArray, World.size_alloc, selR, List.getD_cons_zero, List.getD_cons_succ] at H)
  obtain ⟨V, hV⟩ : ∃ V, V = pfind n.con p.t p.k := ⟨_, rfl⟩
  have HV : Hid (V = if n.con.ls.length = 0 ∨ (n.con.ls.length : Int) ≤ p.t then none else if p.t < 0 then some n.con.all else ((n.con.ls[p.t.toNat]?).getD []).find? (fun c => c.key == p.k)) := hV
  rw [← hV]
  have hln : n.con.ls.length = n.ls.n := by show (n.ls.l.map Row.l).length = _; rw [List.length_map]; exact hn.ls.len
  rw [hln] at HV
  have HCS := Lib.hid (rfl : n.cs = Nd.cs n)
  have p64 := hp.t
  unfold I64 at p64
  have HX := Lib.hid (fun w' (hb : Bel w w') => hn.ls.mono hb)
  have n63 := hn.ls.n63
  clear hV hln hn hp
  go_enter Try.func68, Try.ntmps68
  go_upto_region 1 with fail
  generalize w.heap.size + 1 + 1 = z at *
  generalize w.heap.size + 1 = y at *
  generalize w.heap.size = x at *
  generalize World.alloc (World.alloc _ _) _ = w1 at *
  have cl : w1.cell? ⟨x, 1, none⟩ = some (.slice n.ls.A n.ls.n n.ls.c) := (H.out.blk 0 rfl).cell 1
  have cp : w1.cell? ⟨y, 0, none⟩ = some (.int .i64 p.t) := (H.out.blk 1 rfl).cell 0
  have ck : w1.cell? ⟨y, 1, none⟩ = some (.int .i64 p.k) := (H.out.blk 1 rfl).cell 1
  by_cases h0 : n.ls.n = 0
  · have HV2 : Hid (V = none) := by show _ = _; rw [HV.out, if_pos (.inl h0)]
    rw [h0] at cl
    clear HV h0
    go_wp2_with ((with_reducible show wpList _ _ _ (⟨_, .store _ (.tmp 4) _, _, _, _, _⟩ :: _) _ _); (refine wpList_store_blk rfl rowCl (.tmp 4) (.tmp 20) rfl _ rfl (H.out.blk 2 rfl) rfl (#[.int .i64 0, .int .i64 0, .int .i64 0, .int .i64 0, .int .i64 0, .int .i64 0, .int .i64 0, .int .i64 0, .int .i64 0, .int .i64 0, .int .i64 0, .int .i64 0]) rfl rfl (by simp [Value.oneCell']) ?_; intro wq bq hgq; replace H := Lib.hid (H.out.setBlk 2 rfl hgq bq); (try simp only [List.set_cons_zero, List.set_cons_succ, List.cons_append, List.nil_append, List.eraseIdx_cons_zero, List.eraseIdx_cons_succ, List.setIfInBounds_toArray, World.size_alloc, selR, List.getD_cons_zero, List.getD_cons_succ] at H); clear hgq bq))
    refine bodyPost_ret (results_blk rfl rowCl rfl (H.out.blk 2 rfl) rfl) rfl ?_
    rw [HV2.out]
    exact ⟨rfl, H.out.to⟩
  have z0 : ((n.ls.n : Int) == 0) = false := by simp; omega
  have z0n : (n.ls.n == 0) = false := by simp; omega
  by_cases h1 : (n.ls.n : Int) ≤ p.t
  · have HV2 : Hid (V = none) := by show _ = _; rw [HV.out, if_pos (.inr h1)]
    have d1 : decide ((n.ls.n : Int) ≤ p.t) = true := by simpa using h1
    clear HV h0 h1
    go_wp2_with ((with_reducible show wpList _ _ _ (⟨_, .store _ (.tmp 4) _, _, _, _, _⟩ :: _) _ _); (refine wpList_store_blk rfl rowCl (.tmp 4) (.tmp 20) rfl _ rfl (H.out.blk 2 rfl) rfl (#[.int .i64 0, .int .i64 0, .int .i64 0, .int .i64 0, .int .i64 0, .int .i64 0, .int .i64 0, .int .i64 0, .int .i64 0, .int .i64 0, .int .i64 0, .int .i64 0]) rfl rfl (by simp [Value.oneCell']) ?_; intro wq bq hgq; replace H := Lib.hid (H.out.setBlk 2 rfl hgq bq); (try simp only [List.set_cons_zero, List.set_cons_succ, List.cons_append, List.nil_append, List.eraseIdx_cons_zero, List.eraseIdx_cons_succ, List.setIfInBounds_toArray, World.size_alloc, selR, List.getD_cons_zero, List.getD_cons_succ] at H); clear hgq bq))
    refine bodyPost_ret (results_blk rfl rowCl rfl (H.out.blk 2 rfl) rfl) rfl ?_
    rw [HV2.out]
    exact ⟨rfl, H.out.to⟩
  have d1 : decide ((n.ls.n : Int) ≤ p.t) = false := by simpa using h1
  by_cases h2 : p.t < 0
  · have HV2 : Hid (V = some n.all) := by show _ = _; rw [HV.out, if_neg (by omega), if_pos h2]
    have d2 : decide (p.t < 0) = true := by simpa using h2
    have HAL : Hid (w1.rangeAt x 2 n.all.cs.toList) := fun j v hv => by
      have := (H.out.blk 0 rfl).range (j + 2) v (by rw [nd_all]; exact hv)
      rw [show 0 + (j + 2) = 2 + j by omega] at this
      exact this
    clear HV h0 h1 h2
    go_wp2_with (first | ((with_reducible show wpList _ _ _ (⟨some 25, _, _, _, _, _⟩ :: _) _ _); (refine wpList_load_row_at rfl rowCl (.tmp 24) rfl x (2) rfl n.all.cs rfl HAL.out ?_)) | ((with_reducible show wpList _ _ _ (⟨_, .store _ (.tmp 4) _, _, _, _, _⟩ :: _) _ _); (refine wpList_store_blk rfl rowCl (.tmp 4) (.tmp 25) rfl _ rfl (H.out.blk 2 rfl) rfl (n.all.cs) rfl rfl (cl_one n.all) ?_; intro wq bq hgq; replace H := Lib.hid (H.out.setBlk 2 rfl hgq bq); (try simp only [List.set_cons_zero, List.set_cons_succ, List.cons_append, List.nil_append, List.eraseIdx_cons_zero, List.eraseIdx_cons_succ, List.setIfInBounds_toArray, World.size_alloc, selR, List.getD_cons_zero, List.getD_cons_succ] at H); clear hgq bq)))
    refine bodyPost_ret (results_blk rfl rowCl rfl (H.out.blk 2 rfl) rfl) rfl ?_
    rw [HV2.out]
    exact ⟨rfl, H.out.to⟩
  have d2 : decide (p.t < 0) = false := by simpa using h2
  obtain ⟨q, hq⟩ : ∃ q : Nat, p.t = q := ⟨p.t.toNat, by omega⟩
  have hqn : q < n.ls.n := by omega
  obtain ⟨bl, ol, v, hAl, hvk, hvok, hvc⟩ := (HX.out _ H.out.to).clsAt (k := q) hqn
  have HVV : Hid (V = v.l.find? (fun c => c.key == p.k)) := by
    show _ = _
    rw [HV.out, if_neg (by omega), if_neg h2, hq, Int.toNat_natCast]
    show (((n.ls.l.map Row.l)[q]?).getD []).find? _ = _
    rw [List.getElem?_map, hvk]
    rfl
  rw [hq] at cp d1 d2
  rw [hAl] at cl
  have d1n : decide (n.ls.n ≤ q) = false := by simp; omega
  have HVR := Lib.hid (fun w' (hb : Bel w1 w') => hvok.rds.mono hb)
  have q0 : (0 : Int) ≤ q := by omega
  have q1 : (q : Int) < n.ls.n := by omega
  have v63 := rdCls hvok
  clear HV h0 h1 h2 hq hvk hvok hAl

  have hvl : Hid (v.l.length = v.n) := (HVR.out _ (Bel.refl _)).len
  have HF : Hid (∀ j c, j < 0 → v.l[j]? = some c → c.key ≠ p.k) := fun j c h => by omega
  have HB0 : Hid (Bel w1 w1) := Bel.refl _
  go_upto_region 6 with fail
  clear cl cp ck hvc d1 d2 d1n z0 z0n
  go_loopg [33] v.n (fun gg s33 wr => ∃ (k : Nat), gg = v.n - k ∧ k ≤ v.n ∧ s33 = .int .i64 k ∧ Hid (∀ j c, j < k → v.l[j]? = some c → c.key ≠ p.k) ∧ Hid (Bel w1 wr) ∧ Hid (SL No w wr [rBlk x 44 n.cs, rBlk y 110 p.cs, rBlk z 42 #[.int .i64 0, .int .i64 0, .int .i64 0, .int .i64 0, .int .i64 0, .int .i64 0, .int .i64 0, .int .i64 0, .int .i64 0, .int .i64 0, .int .i64 0, .int .i64 0]]))
  case atStart => exact ⟨0, rfl, by omega, rfl, HF, HB0, H⟩
  case round =>
    clear H HF HB0
    obtain ⟨k, hgk, hk, rfl, HF, HB0, H⟩ := hrel
    have Hgk := Lib.hid hgk
    clear hgk
    by_cases hlt : k < v.n
    · obtain ⟨b4, o4, c, hA4, hb4, hck, hcok, hr4⟩ := (HVR.out _ HB0.out).clAt (k := k) hlt
      have HCK := Lib.hid hck
      have HR4 := Lib.hid hr4
      have k0 : (0 : Int) ≤ k := by omega
      have k1 : (k : Int) < v.n := by omega
      have HA4 := Lib.hid hA4
      rw [hA4]
      clear hck hcok hr4 hA4
      go_upto_region 8 with (first | ((with_reducible show wpList _ _ _ (⟨some 36, _, _, _, _, _⟩ :: _) _ _); (refine wpList_load_row_at rfl rowCl (.tmp 35) rfl b4 (o4 + k * 12) rfl c.cs rfl HR4.out ?_)) | ((with_reducible show wpList _ _ _ (⟨_, .store _ (.tmp 7) _, _, _, _, _⟩ :: _) _ _); (refine wpList_store_new rfl rowCl (.tmp 7) (.tmp 36) rfl rfl rfl (c.cs) rfl rfl (cl_one c) ?_; replace H := Lib.hid (H.out.alloc (c.cs) 42); (try simp only [List.set_cons_zero, List.set_cons_succ, List.cons_append, List.nil_append, List.eraseIdx_cons_zero, List.eraseIdx_cons_succ, List.setIfInBounds_toArray, World.size_alloc, selR, List.getD_cons_zero, List.getD_cons_succ] at H))))
      (try simp only [Act.put, List.setIfInBounds_toArray, List.set_cons_zero, List.set_cons_succ])
      replace HB0 := Lib.hid (HB0.out.alloc (.cells c.cs 42))
      clear HR4 hb4
      generalize wr.heap.size = u at *
      generalize World.alloc wr _ = w2 at *
      have cc : w2.cell? ⟨u, 0, none⟩ = some (.int .i64 c.key) := (H.out.blk 3 rfl).cell 0
      have ck : w2.cell? ⟨y, 1, none⟩ = some (.int .i64 p.k) := (H.out.blk 1 rfl).cell 1
      by_cases hkk : c.key = p.k
      · have HV2 : Hid (V = some c) := by show _ = _; rw [HVV.out]; exact find_first HCK.out hkk HF.out
        have e1 : (c.key == p.k) = true := by simpa using hkk
        clear HVV hkk HF
        go_wp2_with (first | ((with_reducible show wpList _ _ _ (⟨some 42, _, _, _, _, _⟩ :: _) _ _); (refine wpList_load_blk rfl rowCl (.tmp 7) rfl _ rfl (H.out.blk 3 rfl) rfl ?_)) | ((with_reducible show wpList _ _ _ (⟨_, .store _ (.tmp 4) _, _, _, _, _⟩ :: _) _ _); (refine wpList_store_blk rfl rowCl (.tmp 4) (.tmp 42) rfl _ rfl (H.out.blk 2 rfl) rfl (c.cs) rfl rfl (cl_one c) ?_; intro wq bq hgq; replace H := Lib.hid (H.out.setBlk 2 rfl hgq bq); (try simp only [List.set_cons_zero, List.set_cons_succ, List.cons_append, List.nil_append, List.eraseIdx_cons_zero, List.eraseIdx_cons_succ, List.setIfInBounds_toArray, World.size_alloc, selR, List.getD_cons_zero, List.getD_cons_succ] at H); clear hgq bq)))
        refine bodyPost_ret (results_blk rfl rowCl rfl (H.out.blk 2 rfl) rfl) rfl ?_
        rw [HV2.out]
        exact ⟨rfl, H.out.to⟩
      · have e1 : (c.key == p.k) = false := by simpa using hkk
        have HF2 : Hid (∀ j c, j < k + 1 → v.l[j]? = some c → c.key ≠ p.k) := fun j c' hj hc' => by
          rcases (show j < k ∨ j = k by omega) with h | h
          · exact HF.out j c' h hc'
          · subst h
            rw [HCK.out] at hc'
            injection hc' with hc'
            subst hc'
            exact hkk
        replace H := Lib.hid (H.out.sel [0, 1, 2] (by decide) (by simp)); (try simp only [List.set_cons_zero, List.set_cons_succ, List.cons_append, List.nil_append, List.eraseIdx_cons_zero, List.eraseIdx_cons_succ, List.setIfInBounds_toArray, World.size_alloc, selR, List.getD_cons_zero, List.getD_cons_succ] at H)
        clear HF hkk
        go_wp2_with fail
        rw [← HA4.out]
        go_roundg (v.n - (k + 1))
        case rel => exact ⟨k + 1, rfl, by omega, by go_num, HF2, HB0, H⟩
        case measure => rw [Hgk.out]; omega
    · obtain rfl : k = v.n := by omega
      have HV2 : Hid (V = none) := by
        show _ = _
        rw [HVV.out]
        exact find_none fun m c hc => HF.out m c (by have h := (List.getElem?_eq_some_iff.1 hc).1; rw [hvl.out] at h; exact h) hc
      clear HVV HF
      go_wp2_with ((with_reducible show wpList _ _ _ (⟨_, .store _ (.tmp 4) _, _, _, _, _⟩ :: _) _ _); (refine wpList_store_blk rfl rowCl (.tmp 4) (.tmp 44) rfl _ rfl (H.out.blk 2 rfl) rfl (#[.int .i64 0, .int .i64 0, .int .i64 0, .int .i64 0, .int .i64 0, .int .i64 0, .int .i64 0, .int .i64 0, .int .i64 0, .int .i64 0, .int .i64 0, .int .i64 0]) rfl rfl (by simp [Value.oneCell']) ?_; intro wq bq hgq; replace H := Lib.hid (H.out.setBlk 2 rfl hgq bq); (try simp only [List.set_cons_zero, List.set_cons_succ, List.cons_append, List.nil_append, List.eraseIdx_cons_zero, List.eraseIdx_cons_succ, List.setIfInBounds_toArray, World.size_alloc, selR, List.getD_cons_zero, List.getD_cons_succ] at H); clear hgq bq))
      refine bodyPost_ret (results_blk rfl rowCl rfl (H.out.blk 2 rfl) rfl) rfl ?_
      rw [HV2.out]
      exact ⟨rfl, H.out.to⟩

end Go.Proofs.Ytjiphfobengdlaa
