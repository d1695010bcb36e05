/- The walk of the law AskTotal. -/
import Derived.Test.YtigjghfonpfdlaaAskL
namespace Go.Proofs.Ytigjghfonpfdlaa
open Go.RowKit
set_option linter.unusedVariables false
set_option linter.unusedSimpArgs false

set_option maxRecDepth 100000 in
set_option maxHeartbeats 2000000 in
theorem walk_askTotal (w : World) (d : Sch) (hd : d.rd w) :
    Calls Try.prog 3 #[.agg d.cs] w fun e w' => e = .returned (.bool true) ∧ Bel w w' := by
  have HF := Lib.hid (fun w' (hb : Bel w w') => schfew_any d w' (hd.mono hb))
  have HT := Lib.hid (fun (hf : FewS d) w' (hb : Bel w w') => total_any d w' (hd.mono hb) hf.1)
  have HA := Lib.hid (fun (hf : FewS d) (X : Qr) w' (hX : X.rd w') (hb : Bel w w') (h : ∀ p ∈ X.ps.l, p.set.n ≤ 100000) => askwrong_any d X w' (hd.mono hb) hX (FewS.hn hf) (FewS.hm hf) (FewS.hd hf) h)
  have HS := Lib.hid (fun (hf : FewS d) w' (hb : Bel w w') => schwrong_any d w' (hd.mono hb) (FewS.hn hf) (FewS.hm hf) (fun x hx => (FewS.hd hf x hx).1))
  have hlen : Hid (d.con.dims.length = d.dm.n) := by have h := hd.dm.len; show _ = _; simpa using h
  have H := Lib.hid ((SL.start No w).alloc d.cs 25)
  (try simp only [List.set_cons_zero, List.set_cons_succ, List.cons_append, List.nil_append, List.eraseIdx_cons_zero, List.eraseIdx_cons_succ, List.setIfInBounds_toArray, World.size_alloc, selR, List.getD_cons_zero, List.getD_cons_succ] at H)
  have hcs : d.cs = #[.slice d.dm.A d.dm.n d.dm.c, .slice d.ms.A d.ms.n d.ms.c] := rfl
  have HCS := Lib.hid hcs
  clear hcs hd
  go_enter Try.func3, Try.ntmps3
  rw [← HCS.out] at *
  go_wp2_with ((with_reducible show wpList _ _ _ (⟨some 6, _, _, _, _, _⟩ :: _) _ _); (refine wpList_load_blk rfl rowSch (.tmp 1) rfl _ rfl (H.out.blk 0 rfl) rfl ?_))
  refine (HF.out _ H.out.to).mono ?_; rintro e w1 ⟨b, rfl, hfew, hb1⟩
  replace H := Lib.hid (H.out.bel hb1); (try simp only [List.set_cons_zero, List.set_cons_succ, List.cons_append, List.nil_append, List.eraseIdx_cons_zero, List.eraseIdx_cons_succ, List.setIfInBounds_toArray, World.size_alloc, selR, List.getD_cons_zero, List.getD_cons_succ] at H)
  clear hb1
  clear HF
  cases b with
  | false =>
    clear hfew
    go_wp2_with fail
    refine (awake35_any _).mono ?_; rintro e w8 ⟨rfl, hb8⟩
    go_wp2
    go_ret
    exact ⟨rfl, H.out.to.trans hb8⟩
  | true =>
    have hf := hfew rfl
    have hn20 := hf.1
    clear hfew
    go_wp2_with ((with_reducible show wpList _ _ _ (⟨some 10, _, _, _, _, _⟩ :: _) _ _); (refine wpList_load_blk rfl rowSch (.tmp 1) rfl _ rfl (H.out.blk 0 rfl) rfl ?_))
    refine (HT.out hf _ H.out.to).mono ?_; rintro e w2 ⟨q, rfl, hb2, hq, hqn, hql⟩
    replace H := Lib.hid (H.out.bel hb2); (try simp only [List.set_cons_zero, List.set_cons_succ, List.cons_append, List.nil_append, List.eraseIdx_cons_zero, List.eraseIdx_cons_succ, List.setIfInBounds_toArray, World.size_alloc, selR, List.getD_cons_zero, List.getD_cons_succ] at H)
    clear hb2
    have HX := Lib.hid (HA.out hf q)
    have HS2 := Lib.hid (HS.out hf)
    have hqc : q.con = List.replicate d.dm.n PC.nil := by show q.ps.l.map Pk.con = _; rw [hql]; simp
    rw [hqc, askErr_nil hlen.out] at HX
    have HSM : Hid (∀ p ∈ q.ps.l, p.set.n ≤ 100000) := by show ∀ p ∈ q.ps.l, _; rw [hql]; intro p hp; rw [(List.mem_replicate.1 hp).2]; exact Nat.zero_le _
    have HQL := Lib.hid hql
    have HQ := Lib.hid (fun w' (hb : Bel w2 w') => Row.rd.mono (show q.ps.rd w2 from hq) hb)
    clear HT HA HS hq hql hqc hf
    obtain ⟨⟨A, m, c, ps⟩⟩ := q
    simp only [Qr.cs] at *
    obtain rfl : m = d.dm.n := hqn
    have HZ : Hid (∀ (k : Nat) p, ps[k]? = some p → p = Pk.nil) := by
      intro k p hp
      have h := List.mem_of_getElem? hp
      rw [HQL.out] at h
      exact (List.mem_replicate.1 h).2
    clear HQL
    generalize hE : schErr d.con = E at *
    have q8 : (E == E) = true := by simp
    clear hE
    go_upto_region 4 with ((with_reducible show wpList _ _ _ (⟨_, .store _ (.tmp 3) _, _, _, _, _⟩ :: _) _ _); (refine wpList_store_new rfl rowQry (.tmp 3) (.tmp 11) rfl rfl rfl (#[.slice A d.dm.n c]) rfl rfl (by simp [Value.oneCell']) ?_; replace H := Lib.hid (H.out.alloc (#[.slice A d.dm.n c]) 30); (try simp only [List.set_cons_zero, List.set_cons_succ, List.cons_append, List.nil_append, List.eraseIdx_cons_zero, List.eraseIdx_cons_succ, List.setIfInBounds_toArray, World.size_alloc, selR, List.getD_cons_zero, List.getD_cons_succ] at H)))
    (try simp only [Act.put, List.setIfInBounds_toArray, List.set_cons_zero, List.set_cons_succ])
    have HB0 : Hid (Bel w2 (w2.alloc (.cells #[.slice A d.dm.n c] 30))) := (Bel.refl _).alloc _
    generalize w2.heap.size = y at *
    generalize World.alloc w2 _ = w3 at *
    generalize w.heap.size = x at *
    have cq := (H.out.blk 1 rfl).cell 0; simp only [List.getElem?_toArray, List.getElem?_cons_zero, List.getElem?_cons_succ] at cq
    have n63 : d.dm.n ≤ 9223372036854775807 := by omega
    go_wp2_with fail
    clear cq
    go_loopg [15] d.dm.n (fun gg i wr => ∃ (k : Nat), gg = d.dm.n - k ∧ k ≤ d.dm.n ∧ i = .int .i64 k ∧ Hid (Bel w2 wr) ∧ Hid (SL No w wr [rBlk x 25 d.cs, rBlk y 30 #[.slice A d.dm.n c]]))
    case atStart => exact ⟨0, rfl, by omega, rfl, HB0, H⟩
    case round =>
      clear H HB0
      obtain ⟨k, hgk, hk, rfl, HB, H⟩ := hrel
      have Hgk := Lib.hid hgk
      clear hgk
      by_cases hlt : k < d.dm.n
      · obtain ⟨bb, oo, p, hA, hbb, hpk, hpr, hrg⟩ := (HQ.out _ HB.out).pkAt (k := k) hlt
        simp only at hA
        subst hA
        obtain rfl := HZ.out k p hpk
        have HR := Lib.hid hrg
        have i0 : (0 : Int) ≤ k := by omega
        have i1 : (k : Int) < d.dm.n := by omega
        clear hpk hpr hrg hbb
        go_upto_region 7 with (first | ((with_reducible show wpList _ _ _ (⟨some 18, _, _, _, _, _⟩ :: _) _ _); (refine wpList_load_row_at rfl rowPk (.tmp 17) rfl bb (oo + k * 7) rfl #[.int .i64 0, .int .i64 0, .string ⟨#[]⟩, .string ⟨#[]⟩, .slice none 0 0, .bool false, .int .i64 0] rfl HR.out ?_)) | ((with_reducible show wpList _ _ _ (⟨_, .store _ (.tmp 5) _, _, _, _, _⟩ :: _) _ _); (refine wpList_store_new rfl rowPk (.tmp 5) (.tmp 18) rfl rfl rfl (#[.int .i64 0, .int .i64 0, .string ⟨#[]⟩, .string ⟨#[]⟩, .slice none 0 0, .bool false, .int .i64 0]) rfl rfl (by simp [Value.oneCell']) ?_; replace H := Lib.hid (H.out.alloc (#[.int .i64 0, .int .i64 0, .string ⟨#[]⟩, .string ⟨#[]⟩, .slice none 0 0, .bool false, .int .i64 0]) 33); (try simp only [List.set_cons_zero, List.set_cons_succ, List.cons_append, List.nil_append, List.eraseIdx_cons_zero, List.eraseIdx_cons_succ, List.setIfInBounds_toArray, World.size_alloc, selR, List.getD_cons_zero, List.getD_cons_succ] at H))))
        (try simp only [Act.put, List.setIfInBounds_toArray, List.set_cons_zero, List.set_cons_succ])
        replace HB := Lib.hid (HB.out.alloc (.cells #[.int .i64 0, .int .i64 0, .string ⟨#[]⟩, .string ⟨#[]⟩, .slice none 0 0, .bool false, .int .i64 0] 33))
        generalize wr.heap.size = z at *
        generalize World.alloc wr _ = w5 at *
        have cp0 := (H.out.blk 2 rfl).cell 0; simp only [List.getElem?_toArray, List.getElem?_cons_zero, List.getElem?_cons_succ] at cp0
        have cp5 := (H.out.blk 2 rfl).cell 5; simp only [List.getElem?_toArray, List.getElem?_cons_zero, List.getElem?_cons_succ] at cp5
        replace H := Lib.hid (H.out.sel [0, 1] (by decide) (by simp)); (try simp only [List.set_cons_zero, List.set_cons_succ, List.cons_append, List.nil_append, List.eraseIdx_cons_zero, List.eraseIdx_cons_succ, List.setIfInBounds_toArray, World.size_alloc, selR, List.getD_cons_zero, List.getD_cons_succ] at H)
        go_wp2_with fail
        go_roundg (d.dm.n - (k + 1))
        case rel => exact ⟨k + 1, rfl, by omega, by go_num, HB, H⟩
        case measure => rw [Hgk.out]; omega
      · have cq := (H.out.blk 1 rfl).cell 0; simp only [List.getElem?_toArray, List.getElem?_cons_zero, List.getElem?_cons_succ] at cq
        have cs0 : wr.cell? ⟨x, 0, none⟩ = some (.slice d.dm.A d.dm.n d.dm.c) := by have h := (H.out.blk 0 rfl).cell 0; exact h
        have HW := Lib.hid (HQ.out _ HB.out)
        go_upto_region 10 with fail
        have f_cq := fun u : Over wr => Over.cell cq u
        have f_cs0 := fun u : Over wr => Over.cell cs0 u
        refine wp_region_over (by kernel_rfl) (by kernel_rfl) ?_
        (try simp only [Act.put, List.setIfInBounds_toArray, List.set_cons_zero, List.set_cons_succ])
        repeat (first
          | ((with_reducible show wpQuiet _ _ _ _ (⟨some 35, _, _, _, _, _⟩ :: _) _); refine wpQuiet_load_row (by first | rfl | go_simp) rowSch (.tmp 1) rfl _ (0) rfl _ rfl (H.out.blk 0 rfl).lt (H.out.blk 0 rfl).range ?_; simp only [Act.put, List.setIfInBounds_toArray, List.set_cons_zero, List.set_cons_succ])
          | ((with_reducible show wpQuiet _ _ _ _ (⟨some 36, _, _, _, _, _⟩ :: _) _); refine wpQuiet_load_row (by first | rfl | go_simp) rowQry (.tmp 3) rfl _ (0) rfl _ rfl (H.out.blk 1 rfl).lt (H.out.blk 1 rfl).range ?_; simp only [Act.put, List.setIfInBounds_toArray, List.set_cons_zero, List.set_cons_succ])
          | ((with_reducible show wpQuiet _ _ _ _ (⟨some 38, _, _, _, _, _⟩ :: _) _); refine wpQuiet_load_row (by first | rfl | go_simp) rowSch (.tmp 1) rfl _ (0) rfl _ rfl (H.out.blk 0 rfl).lt (H.out.blk 0 rfl).range ?_; simp only [Act.put, List.setIfInBounds_toArray, List.set_cons_zero, List.set_cons_succ])
          | go_big_quiet_step ((first | (go_at_call 16; rename_i u; exact calls_over (HX.out _ (HW.out.mono u.bel) (H.out.to.trans u.bel) HSM.out)) | (go_at_call 17; rename_i u; exact calls_over (HS2.out _ (H.out.to.trans u.bel))) | (go_at_call 14; rename_i u; exact calls_over (awake35_any _)))))
        refine wpQuiet_nil ?_
        rintro w5 ⟨⟨_, hw5⟩, rfl⟩
        (try dsimp only)
        replace H := Lib.hid (H.out.bel hw5); (try simp only [List.set_cons_zero, List.set_cons_succ, List.cons_append, List.nil_append, List.eraseIdx_cons_zero, List.eraseIdx_cons_succ, List.setIfInBounds_toArray, World.size_alloc, selR, List.getD_cons_zero, List.getD_cons_succ] at H)
        clear f_cq f_cs0 cq cs0

        go_wp2
        go_ret
        exact ⟨rfl, H.out.to⟩

end Go.Proofs.Ytigjghfonpfdlaa
