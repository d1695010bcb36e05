/- ask.Put, and the document's Put. -/
import Derived.Test.YtigjghfonpfdlaaAskC
import Derived.Test.YtigjghfonpfdlaaAskG
namespace Go.Proofs.Ytigjghfonpfdlaa
open Go.RowKit
set_option linter.unusedVariables false
set_option linter.unusedSimpArgs false

set_option maxRecDepth 100000 in
set_option maxHeartbeats 2000000 in
theorem askput_any (s : Sch) (q : Qr) (w : World) (hs : s.rd w) (hq : q.rd w) (hn : s.dm.n ≤ 1000000) (hm : s.ms.n ≤ 1000000) (hd : ∀ d ∈ s.dm.l, d.tr.n ≤ 1000000 ∧ ∀ t ∈ d.tr.l, t.up.n ≤ 100000) (hp : ∀ p ∈ q.ps.l, p.set.n ≤ 100000) :
    Calls Try.prog 24 #[.agg s.cs, .agg q.cs] w fun e w' => e = .returned (.tuple #[.string ⟨(askPutV s.con q.con).1.toArray⟩, .int .i64 (askPutV s.con q.con).2]) ∧ Bel w w' := by
  have HC := Lib.hid (fun w' (hb : Bel w w') => askcheck_any s q w' (hs.mono hb) (Row.rd.mono hq hb) hn hm hd hp)
  have hlen : Hid (q.ps.l.length = q.ps.n) := Row.rd.len hq
  have HQ := Lib.hid (show q.ps.rd w from hq)
  have m63 : q.ps.n ≤ 9223372036854775807 := hq.n63
  have hsl : s.dm.l.length = s.dm.n := hs.dm.len
  have H := Lib.hid (((SL.start No w).alloc s.cs 25).alloc q.cs 30)
  (try simp only [List.set_cons_zero, List.set_cons_succ, List.cons_append, List.nil_append, List.eraseIdx_cons_zero, List.eraseIdx_cons_succ, List.setIfInBounds_toArray, World.size_alloc, selR, List.getD_cons_zero, List.getD_cons_succ] at H)
  obtain ⟨⟨A, n, c, ps⟩⟩ := q
  simp only [Qr.cs, Qr.con] at *
  have hcs : s.cs = #[.slice s.dm.A s.dm.n s.dm.c, .slice s.ms.A s.ms.n s.ms.c] := rfl
  have HCS := Lib.hid hcs
  clear hs hq hd hcs hp
  by_cases hE : askErr s.con (ps.map Pk.con) = 0
  · have hV : askPutV s.con (ps.map Pk.con) = (askPut (ps.map Pk.con), 0) := by unfold askPutV; rw [if_pos hE]
    have HOk := Lib.hid (askErr_put hE)
    have hn16 : n ≤ 16 := by
      have h1 := askErr_zero hE
      have h2 := (schErr_zero h1.1).2.1
      have h3 := h1.2.1
      have := hlen.out
      rw [List.length_map] at h3
      omega
    have HV := Lib.hid hV
    rw [hE] at HC
    clear hE hV hsl
    go_enter Try.func24, Try.ntmps24
    rw [← HCS.out] at *
    go_wp2_with (first | ((with_reducible show wpList _ _ _ (⟨some 10, _, _, _, _, _⟩ :: _) _ _); (refine wpList_load_blk rfl rowSch (.tmp 2) rfl _ rfl (H.out.blk 0 rfl) rfl ?_)) | ((with_reducible show wpList _ _ _ (⟨some 11, _, _, _, _, _⟩ :: _) _ _); (refine wpList_load_blk rfl rowQry (.tmp 3) rfl _ rfl (H.out.blk 1 rfl) rfl ?_)))
    refine (HC.out _ H.out.to).mono ?_; rintro e w1 ⟨rfl, hb1⟩
    replace H := Lib.hid (H.out.bel hb1); (try simp only [List.set_cons_zero, List.set_cons_succ, List.cons_append, List.nil_append, List.eraseIdx_cons_zero, List.eraseIdx_cons_succ, List.setIfInBounds_toArray, World.size_alloc, selR, List.getD_cons_zero, List.getD_cons_succ] at H)
    clear hb1 HC
    have cc0 := (H.out.blk 1 rfl).cell 0; simp only [List.getElem?_toArray, List.getElem?_cons_zero, List.getElem?_cons_succ] at cc0
    go_wp2_with fail
    clear cc0
    generalize w.heap.size + 1 = y at *
    generalize w.heap.size = x at *
    have HL : Hid (([] : List UInt8) = ((ps.map Pk.con).take 0).flatMap pickPut) := rfl
    go_loopg [7, 19] n (fun gg o i wr => ∃ (k : Nat) (l : List UInt8), gg = n - k ∧ k ≤ n ∧ i = .int .i64 k ∧ o = .string ⟨l.toArray⟩ ∧ l.length ≤ 7000 * k ∧ Hid (SL No w wr [rBlk x 25 s.cs, rBlk y 30 #[.slice A n c]]) ∧ Hid (l = ((ps.map Pk.con).take k).flatMap pickPut))
    case atStart => exact ⟨0, [], rfl, by omega, rfl, rfl, Nat.zero_le _, H, HL⟩
    case round =>
      clear H HL
      obtain ⟨k, l, hgk, hk, rfl, rfl, hll, H, HL⟩ := hrel
      have Hgk := Lib.hid hgk
      clear hgk
      by_cases hlt : k < n
      · obtain ⟨bb, oo, p, hA, hbb, hpk, hpr, hrg⟩ := (HQ.out.mono H.out.to).pkAt (k := k) hlt
        simp only at hA
        subst hA
        have hpc : (ps.map Pk.con)[k]? = some p.con := by rw [List.getElem?_map, hpk]; rfl
        have hok := HOk.out p.con (List.mem_of_getElem? hpc)
        have hpl := pickPut_le hok
        have HN : Hid (l ++ pickPut p.con = ((ps.map Pk.con).take (k + 1)).flatMap pickPut) := by show _ = _; rw [take_snoc_get hpc, List.flatMap_append, ← HL.out]; simp
        have HR := Lib.hid hrg
        have HP := Lib.hid (fun w' (hb : Bel wr w') => pickput_any p w' (hpr.mono hb) hok)
        clear hpk hpr hrg hpc hbb HL hok
        go_wp2_with (first | ((with_reducible show wpList _ _ _ (⟨some 22, _, _, _, _, _⟩ :: _) _ _); (refine wpList_load_row_at rfl rowPk (.tmp 21) rfl bb (oo + k * 7) rfl p.cs rfl HR.out ?_)) | ((with_reducible show wpList _ _ _ (⟨_, .store _ (.tmp 9) _, _, _, _, _⟩ :: _) _ _); (refine wpList_store_new rfl rowPk (.tmp 9) (.tmp 22) rfl rfl rfl (p.cs) rfl rfl (pk_one p) ?_; replace H := Lib.hid (H.out.alloc (p.cs) 33); (try simp only [List.set_cons_zero, List.set_cons_succ, List.cons_append, List.nil_append, List.eraseIdx_cons_zero, List.eraseIdx_cons_succ, List.setIfInBounds_toArray, World.size_alloc, selR, List.getD_cons_zero, List.getD_cons_succ] at H))) | ((with_reducible show wpList _ _ _ (⟨some 24, _, _, _, _, _⟩ :: _) _ _); (refine wpList_load_blk rfl rowPk (.tmp 9) rfl _ rfl (H.out.blk 2 rfl) rfl ?_)))
        refine (HP.out _ ((Bel.refl wr).alloc (.cells p.cs 33))).mono ?_; rintro e w3 ⟨rfl, hb3⟩
        replace H := Lib.hid (H.out.bel hb3); (try simp only [List.set_cons_zero, List.set_cons_succ, List.cons_append, List.nil_append, List.eraseIdx_cons_zero, List.eraseIdx_cons_succ, List.setIfInBounds_toArray, World.size_alloc, selR, List.getD_cons_zero, List.getD_cons_succ] at H)
        replace H := Lib.hid (H.out.sel [0, 1] (by decide) (by simp)); (try simp only [List.set_cons_zero, List.set_cons_succ, List.cons_append, List.nil_append, List.eraseIdx_cons_zero, List.eraseIdx_cons_succ, List.setIfInBounds_toArray, World.size_alloc, selR, List.getD_cons_zero, List.getD_cons_succ] at H)
        clear hb3 HP
        go_wp2
        go_roundg (n - (k + 1))
        case rel => exact ⟨k + 1, l ++ pickPut p.con, rfl, by omega, by go_num, by simp only [str_append], by simp only [List.length_append]; omega, H, HN⟩
        case measure => rw [Hgk.out]; omega
      · have HN : Hid (l = askPut (ps.map Pk.con)) := by
          show _ = _
          rw [HL.out, List.take_of_length_le (by have := hlen.out; simp; omega)]
          rfl
        clear HL
        go_wp2
        go_ret2
        rw [HV.out, ← HN.out]
        exact ⟨rfl, H.out.to⟩
  · have hV : askPutV s.con (ps.map Pk.con) = ([], askErr s.con (ps.map Pk.con)) := by unfold askPutV; rw [if_neg hE]
    have dE : (askErr s.con (ps.map Pk.con) == 0) = false := by simpa using hE
    have dE2 : (askErr s.con (ps.map Pk.con) != 0) = true := by simpa using hE
    rw [hV]
    generalize askErr s.con (ps.map Pk.con) = E at *
    clear hE hV
    go_enter Try.func24, Try.ntmps24
    rw [← HCS.out] at *
    go_wp2_with (first | ((with_reducible show wpList _ _ _ (⟨some 10, _, _, _, _, _⟩ :: _) _ _); (refine wpList_load_blk rfl rowSch (.tmp 2) rfl _ rfl (H.out.blk 0 rfl) rfl ?_)) | ((with_reducible show wpList _ _ _ (⟨some 11, _, _, _, _, _⟩ :: _) _ _); (refine wpList_load_blk rfl rowQry (.tmp 3) rfl _ rfl (H.out.blk 1 rfl) rfl ?_)))
    refine (HC.out _ H.out.to).mono ?_; rintro e w1 ⟨rfl, hb1⟩
    go_wp2
    go_ret2
    exact ⟨rfl, H.out.to.trans hb1⟩

set_option maxRecDepth 100000 in
set_option maxHeartbeats 2000000 in
theorem raskput_any (q : Qr) (w : World) (hq : q.rd w) (hp : ∀ p ∈ q.con, PutOk p) (hn16 : q.ps.n ≤ 16) :
    Calls Try.prog 27 #[.agg q.cs] w fun e w' => e = .returned (.string ⟨(askPut q.con).toArray⟩) ∧ Bel w w' := by
  have hlen : Hid (q.ps.l.length = q.ps.n) := Row.rd.len hq
  have HQ := Lib.hid (show q.ps.rd w from hq)
  have HOk := Lib.hid hp
  have H := Lib.hid ((SL.start No w).alloc q.cs 30)
  (try simp only [List.set_cons_zero, List.set_cons_succ, List.cons_append, List.nil_append, List.eraseIdx_cons_zero, List.eraseIdx_cons_succ, List.setIfInBounds_toArray, World.size_alloc, selR, List.getD_cons_zero, List.getD_cons_succ] at H)
  obtain ⟨⟨A, n, c, ps⟩⟩ := q
  simp only [Qr.cs, Qr.con] at *
  clear hq hp
  go_enter Try.func27, Try.ntmps27
  have cc0 := (H.out.blk 0 rfl).cell 0; simp only [List.getElem?_toArray, List.getElem?_cons_zero, List.getElem?_cons_succ] at cc0
  go_wp2_with fail
  clear cc0
  generalize w.heap.size = y at *
  generalize World.alloc _ _ = w0 at *
  have HL : Hid (([] : List UInt8) = ((ps.map Pk.con).take 0).flatMap pickPut) := rfl
  go_loopg [3, 9] n (fun gg o i wr => ∃ (k : Nat) (l : List UInt8), gg = n - k ∧ k ≤ n ∧ i = .int .i64 k ∧ o = .string ⟨l.toArray⟩ ∧ l.length ≤ 7000 * k ∧ Hid (SL No w wr [rBlk y 30 #[.slice A n c]]) ∧ Hid (l = ((ps.map Pk.con).take k).flatMap pickPut))
  case atStart => exact ⟨0, [], rfl, by omega, rfl, rfl, Nat.zero_le _, H, HL⟩
  case round =>
    clear H HL
    obtain ⟨k, l, hgk, hk, rfl, rfl, hll, H, HL⟩ := hrel
    have Hgk := Lib.hid hgk
    clear hgk
    by_cases hlt : k < n
    · obtain ⟨bb, oo, p, hA, hbb, hpk, hpr, hrg⟩ := (HQ.out.mono H.out.to).pkAt (k := k) hlt
      simp only at hA
      subst hA
      have hpc : (ps.map Pk.con)[k]? = some p.con := by rw [List.getElem?_map, hpk]; rfl
      have hok := HOk.out p.con (List.mem_of_getElem? hpc)
      have HPL : Hid ((pickPut p.con).length ≤ 7000) := pickPut_le hok
      have HN : Hid (l ++ pickPut p.con = ((ps.map Pk.con).take (k + 1)).flatMap pickPut) := by show _ = _; rw [take_snoc_get hpc, List.flatMap_append, ← HL.out]; simp
      have HR := Lib.hid hrg
      have HP := Lib.hid hpr.set
      have hsl : Hid (p.set.l.length = p.set.n) := hpr.set.len
      clear hpk hpr hrg hpc hbb HL
      obtain ⟨pf, pt, lo, hi, ⟨A3, n3, c3, set⟩, g, pb⟩ := p
      obtain ⟨hf, ⟨hb0, hb1⟩, ⟨ht0, ht1⟩⟩ := hok
      simp only [Pk.cs, Pk.con] at *
      have hq1 := nput_le9 pt.toNat
      have hq3 := nput_le9 (pb.toNat + 1)
      have hq4 := nput_le9 0
      have hb2 : I64 (pb + 1) := by unfold I64; omega
      have wpb : IntKind.i64.wrap (pb + 1) = pb + 1 := IntWalk.i64_in _ (by omega)
      go_wp2_with (first | ((with_reducible show wpList _ _ _ (⟨some 12, _, _, _, _, _⟩ :: _) _ _); (refine wpList_load_row_at rfl rowPk (.tmp 11) rfl bb (oo + k * 7) rfl #[.int .i64 pf, .int .i64 pt, .string ⟨lo.toArray⟩, .string ⟨hi.toArray⟩, .slice A3 n3 c3, .bool g, .int .i64 pb] rfl HR.out ?_)) | ((with_reducible show wpList _ _ _ (⟨_, .store _ (.tmp 5) _, _, _, _, _⟩ :: _) _ _); (refine wpList_store_new rfl rowPk (.tmp 5) (.tmp 12) rfl rfl rfl (#[.int .i64 pf, .int .i64 pt, .string ⟨lo.toArray⟩, .string ⟨hi.toArray⟩, .slice A3 n3 c3, .bool g, .int .i64 pb]) rfl rfl (by simp [Value.oneCell']) ?_; replace H := Lib.hid (H.out.alloc (#[.int .i64 pf, .int .i64 pt, .string ⟨lo.toArray⟩, .string ⟨hi.toArray⟩, .slice A3 n3 c3, .bool g, .int .i64 pb]) 33); (try simp only [List.set_cons_zero, List.set_cons_succ, List.cons_append, List.nil_append, List.eraseIdx_cons_zero, List.eraseIdx_cons_succ, List.setIfInBounds_toArray, World.size_alloc, selR, List.getD_cons_zero, List.getD_cons_succ] at H); have cc0 := (H.out.blk 1 rfl).cell 0; simp only [List.getElem?_toArray, List.getElem?_cons_zero, List.getElem?_cons_succ] at cc0)))
      have HB0 := Lib.hid ((Bel.refl wr).alloc (.cells #[.int .i64 pf, .int .i64 pt, .string ⟨lo.toArray⟩, .string ⟨hi.toArray⟩, .slice A3 n3 c3, .bool g, .int .i64 pb] 33))
      replace HP := Lib.hid (HP.out.mono HB0.out)
      clear HB0
      generalize wr.heap.size = z at *
      generalize World.alloc wr _ = w8 at *
      rcases hf with rfl | ⟨rfl, hlo, hhi⟩ | ⟨rfl, hr, hn⟩
      · refine (rputNum_any 0 _ (by omega) (by omega)).mono ?_; rintro e w2 ⟨rfl, hb2'⟩
        replace H := Lib.hid (H.out.bel hb2'); (try simp only [List.set_cons_zero, List.set_cons_succ, List.cons_append, List.nil_append, List.eraseIdx_cons_zero, List.eraseIdx_cons_succ, List.setIfInBounds_toArray, World.size_alloc, selR, List.getD_cons_zero, List.getD_cons_succ] at H)
        rw [show (0 : Int).toNat = 0 from rfl]
        clear hb2' cc0
        have cc0 := (H.out.blk 1 rfl).cell 0; simp only [List.getElem?_toArray, List.getElem?_cons_zero, List.getElem?_cons_succ] at cc0
        have cc5 := (H.out.blk 1 rfl).cell 5; simp only [List.getElem?_toArray, List.getElem?_cons_zero, List.getElem?_cons_succ] at cc5
        have cc6 := (H.out.blk 1 rfl).cell 6; simp only [List.getElem?_toArray, List.getElem?_cons_zero, List.getElem?_cons_succ] at cc6
        cases g with
        | true =>
          go_wp2_with fail
          refine (rputNum_any (pb + 1) _ (by omega) (by omega)).mono ?_; rintro e w9 ⟨rfl, hb9⟩
          rw [show (pb + 1).toNat = pb.toNat + 1 by omega]
          replace H := Lib.hid (H.out.bel hb9); (try simp only [List.set_cons_zero, List.set_cons_succ, List.cons_append, List.nil_append, List.eraseIdx_cons_zero, List.eraseIdx_cons_succ, List.setIfInBounds_toArray, World.size_alloc, selR, List.getD_cons_zero, List.getD_cons_succ] at H)
          clear hb9
          replace H := Lib.hid (H.out.sel [0] (by decide) (by simp)); (try simp only [List.set_cons_zero, List.set_cons_succ, List.cons_append, List.nil_append, List.eraseIdx_cons_zero, List.eraseIdx_cons_succ, List.setIfInBounds_toArray, World.size_alloc, selR, List.getD_cons_zero, List.getD_cons_succ] at H)
          go_wp2
          go_roundg (n - (k + 1))
          case rel =>
            refine ⟨k + 1, _, rfl, by omega, by go_num, by simp only [str_append]; rfl, ?_, H, ?_⟩
            · have h9 := HPL.out; unfold pickPut at h9; simp at h9 ⊢; omega
            · show _ = _; rw [← HN.out]; unfold pickPut; simp
          case measure => rw [Hgk.out]; omega
        | false =>
          go_wp2_with fail
          refine (rputNum_any 0 _ (by omega) (by omega)).mono ?_; rintro e w9 ⟨rfl, hb9⟩
          replace H := Lib.hid (H.out.bel hb9); (try simp only [List.set_cons_zero, List.set_cons_succ, List.cons_append, List.nil_append, List.eraseIdx_cons_zero, List.eraseIdx_cons_succ, List.setIfInBounds_toArray, World.size_alloc, selR, List.getD_cons_zero, List.getD_cons_succ] at H)
          clear hb9
          replace H := Lib.hid (H.out.sel [0] (by decide) (by simp)); (try simp only [List.set_cons_zero, List.set_cons_succ, List.cons_append, List.nil_append, List.eraseIdx_cons_zero, List.eraseIdx_cons_succ, List.setIfInBounds_toArray, World.size_alloc, selR, List.getD_cons_zero, List.getD_cons_succ] at H)
          go_wp2
          go_roundg (n - (k + 1))
          case rel =>
            refine ⟨k + 1, _, rfl, by omega, by go_num, by simp only [str_append]; rfl, ?_, H, ?_⟩
            · have h9 := HPL.out; unfold pickPut at h9; simp at h9 ⊢; omega
            · show _ = _; rw [← HN.out]; unfold pickPut; simp
          case measure => rw [Hgk.out]; omega
      · have hp1 := ptext_le hlo
        have hp2 := ptext_le hhi
        have hq5 := nput_le9 1
        refine (rputNum_any 1 _ (by omega) (by omega)).mono ?_; rintro e w2 ⟨rfl, hb2'⟩
        replace H := Lib.hid (H.out.bel hb2'); (try simp only [List.set_cons_zero, List.set_cons_succ, List.cons_append, List.nil_append, List.eraseIdx_cons_zero, List.eraseIdx_cons_succ, List.setIfInBounds_toArray, World.size_alloc, selR, List.getD_cons_zero, List.getD_cons_succ] at H)
        rw [show (1 : Int).toNat = 1 from rfl]
        clear hb2' cc0
        have cc0 := (H.out.blk 1 rfl).cell 0; simp only [List.getElem?_toArray, List.getElem?_cons_zero, List.getElem?_cons_succ] at cc0
        have cc1 := (H.out.blk 1 rfl).cell 1; simp only [List.getElem?_toArray, List.getElem?_cons_zero, List.getElem?_cons_succ] at cc1
        go_wp2_with fail
        refine (rputNum_any pt _ (by omega) (by omega)).mono ?_; rintro e w3 ⟨rfl, hb3⟩
        replace H := Lib.hid (H.out.bel hb3); (try simp only [List.set_cons_zero, List.set_cons_succ, List.cons_append, List.nil_append, List.eraseIdx_cons_zero, List.eraseIdx_cons_succ, List.setIfInBounds_toArray, World.size_alloc, selR, List.getD_cons_zero, List.getD_cons_succ] at H)
        clear hb3 cc0 cc1
        have cc0 := (H.out.blk 1 rfl).cell 0; simp only [List.getElem?_toArray, List.getElem?_cons_zero, List.getElem?_cons_succ] at cc0
        have cc2 := (H.out.blk 1 rfl).cell 2; simp only [List.getElem?_toArray, List.getElem?_cons_zero, List.getElem?_cons_succ] at cc2
        have cc3 := (H.out.blk 1 rfl).cell 3; simp only [List.getElem?_toArray, List.getElem?_cons_zero, List.getElem?_cons_succ] at cc3
        go_upto_region 9 with fail
        have f_cc2 := fun u : Over w3 => Over.cell cc2 u
        have f_cc3 := fun u : Over w3 => Over.cell cc3 u
        refine wp_region_over (by kernel_rfl) (by kernel_rfl) ?_
        (try simp only [Act.put, List.setIfInBounds_toArray, List.set_cons_zero, List.set_cons_succ])
        repeat (go_big_quiet_step (((go_at_call 67; rename_i u; exact calls_over (rputText_any _ _ (by omega))))))
        refine wpQuiet_nil ?_
        rintro w5 ⟨⟨_, hw5⟩, rfl⟩
        (try dsimp only)
        replace H := Lib.hid (H.out.bel hw5); (try simp only [List.set_cons_zero, List.set_cons_succ, List.cons_append, List.nil_append, List.eraseIdx_cons_zero, List.eraseIdx_cons_succ, List.setIfInBounds_toArray, World.size_alloc, selR, List.getD_cons_zero, List.getD_cons_succ] at H)
        clear f_cc2 f_cc3 cc2 cc3
        clear cc0
        have cc0 := (H.out.blk 1 rfl).cell 0; simp only [List.getElem?_toArray, List.getElem?_cons_zero, List.getElem?_cons_succ] at cc0
        have cc5 := (H.out.blk 1 rfl).cell 5; simp only [List.getElem?_toArray, List.getElem?_cons_zero, List.getElem?_cons_succ] at cc5
        have cc6 := (H.out.blk 1 rfl).cell 6; simp only [List.getElem?_toArray, List.getElem?_cons_zero, List.getElem?_cons_succ] at cc6
        cases g with
        | true =>
          go_wp2_with fail
          refine (rputNum_any (pb + 1) _ (by omega) (by omega)).mono ?_; rintro e w9 ⟨rfl, hb9⟩
          rw [show (pb + 1).toNat = pb.toNat + 1 by omega]
          replace H := Lib.hid (H.out.bel hb9); (try simp only [List.set_cons_zero, List.set_cons_succ, List.cons_append, List.nil_append, List.eraseIdx_cons_zero, List.eraseIdx_cons_succ, List.setIfInBounds_toArray, World.size_alloc, selR, List.getD_cons_zero, List.getD_cons_succ] at H)
          clear hb9
          replace H := Lib.hid (H.out.sel [0] (by decide) (by simp)); (try simp only [List.set_cons_zero, List.set_cons_succ, List.cons_append, List.nil_append, List.eraseIdx_cons_zero, List.eraseIdx_cons_succ, List.setIfInBounds_toArray, World.size_alloc, selR, List.getD_cons_zero, List.getD_cons_succ] at H)
          go_wp2
          go_roundg (n - (k + 1))
          case rel =>
            refine ⟨k + 1, _, rfl, by omega, by go_num, by simp only [str_append]; rfl, ?_, H, ?_⟩
            · have h9 := HPL.out; unfold pickPut at h9; simp at h9 ⊢; omega
            · show _ = _; rw [← HN.out]; unfold pickPut; simp
          case measure => rw [Hgk.out]; omega
        | false =>
          go_wp2_with fail
          refine (rputNum_any 0 _ (by omega) (by omega)).mono ?_; rintro e w9 ⟨rfl, hb9⟩
          replace H := Lib.hid (H.out.bel hb9); (try simp only [List.set_cons_zero, List.set_cons_succ, List.cons_append, List.nil_append, List.eraseIdx_cons_zero, List.eraseIdx_cons_succ, List.setIfInBounds_toArray, World.size_alloc, selR, List.getD_cons_zero, List.getD_cons_succ] at H)
          clear hb9
          replace H := Lib.hid (H.out.sel [0] (by decide) (by simp)); (try simp only [List.set_cons_zero, List.set_cons_succ, List.cons_append, List.nil_append, List.eraseIdx_cons_zero, List.eraseIdx_cons_succ, List.setIfInBounds_toArray, World.size_alloc, selR, List.getD_cons_zero, List.getD_cons_succ] at H)
          go_wp2
          go_roundg (n - (k + 1))
          case rel =>
            refine ⟨k + 1, _, rfl, by omega, by go_num, by simp only [str_append]; rfl, ?_, H, ?_⟩
            · have h9 := HPL.out; unfold pickPut at h9; simp at h9 ⊢; omega
            · show _ = _; rw [← HN.out]; unfold pickPut; simp
          case measure => rw [Hgk.out]; omega
      · have hp1 := tput_le hr
        have hq5 := nput_le9 2
        have hsn := hsl.out
        refine (rputNum_any 2 _ (by omega) (by omega)).mono ?_; rintro e w2 ⟨rfl, hb2'⟩
        replace H := Lib.hid (H.out.bel hb2'); (try simp only [List.set_cons_zero, List.set_cons_succ, List.cons_append, List.nil_append, List.eraseIdx_cons_zero, List.eraseIdx_cons_succ, List.setIfInBounds_toArray, World.size_alloc, selR, List.getD_cons_zero, List.getD_cons_succ] at H)
        replace HP := Lib.hid (HP.out.mono hb2')
        rw [show (2 : Int).toNat = 2 from rfl]
        clear hb2' cc0
        have cc0 := (H.out.blk 1 rfl).cell 0; simp only [List.getElem?_toArray, List.getElem?_cons_zero, List.getElem?_cons_succ] at cc0
        have cc1 := (H.out.blk 1 rfl).cell 1; simp only [List.getElem?_toArray, List.getElem?_cons_zero, List.getElem?_cons_succ] at cc1
        go_wp2_with fail
        refine (rputNum_any pt _ (by omega) (by omega)).mono ?_; rintro e w3 ⟨rfl, hb3⟩
        replace H := Lib.hid (H.out.bel hb3); (try simp only [List.set_cons_zero, List.set_cons_succ, List.cons_append, List.nil_append, List.eraseIdx_cons_zero, List.eraseIdx_cons_succ, List.setIfInBounds_toArray, World.size_alloc, selR, List.getD_cons_zero, List.getD_cons_succ] at H)
        replace HP := Lib.hid (HP.out.mono hb3)
        clear hb3 cc0 cc1
        have cc0 := (H.out.blk 1 rfl).cell 0; simp only [List.getElem?_toArray, List.getElem?_cons_zero, List.getElem?_cons_succ] at cc0
        have cc4 := (H.out.blk 1 rfl).cell 4; simp only [List.getElem?_toArray, List.getElem?_cons_zero, List.getElem?_cons_succ] at cc4
        go_wp2_with fail
        refine (rtput_any A3 n3 c3 set _ HP.out.texts hr (by omega)).mono ?_; rintro e w4 ⟨rfl, hb4⟩
        replace H := Lib.hid (H.out.bel hb4); (try simp only [List.set_cons_zero, List.set_cons_succ, List.cons_append, List.nil_append, List.eraseIdx_cons_zero, List.eraseIdx_cons_succ, List.setIfInBounds_toArray, World.size_alloc, selR, List.getD_cons_zero, List.getD_cons_succ] at H)
        clear hb4 cc0 cc4
        have cc5 := (H.out.blk 1 rfl).cell 5; simp only [List.getElem?_toArray, List.getElem?_cons_zero, List.getElem?_cons_succ] at cc5
        have cc6 := (H.out.blk 1 rfl).cell 6; simp only [List.getElem?_toArray, List.getElem?_cons_zero, List.getElem?_cons_succ] at cc6
        cases g with
        | true =>
          go_wp2_with fail
          refine (rputNum_any (pb + 1) _ (by omega) (by omega)).mono ?_; rintro e w9 ⟨rfl, hb9⟩
          rw [show (pb + 1).toNat = pb.toNat + 1 by omega]
          replace H := Lib.hid (H.out.bel hb9); (try simp only [List.set_cons_zero, List.set_cons_succ, List.cons_append, List.nil_append, List.eraseIdx_cons_zero, List.eraseIdx_cons_succ, List.setIfInBounds_toArray, World.size_alloc, selR, List.getD_cons_zero, List.getD_cons_succ] at H)
          clear hb9
          replace H := Lib.hid (H.out.sel [0] (by decide) (by simp)); (try simp only [List.set_cons_zero, List.set_cons_succ, List.cons_append, List.nil_append, List.eraseIdx_cons_zero, List.eraseIdx_cons_succ, List.setIfInBounds_toArray, World.size_alloc, selR, List.getD_cons_zero, List.getD_cons_succ] at H)
          go_wp2
          go_roundg (n - (k + 1))
          case rel =>
            refine ⟨k + 1, _, rfl, by omega, by go_num, by simp only [str_append]; rfl, ?_, H, ?_⟩
            · have h9 := HPL.out; unfold pickPut at h9; simp at h9 ⊢; omega
            · show _ = _; rw [← HN.out]; unfold pickPut; simp
          case measure => rw [Hgk.out]; omega
        | false =>
          go_wp2_with fail
          refine (rputNum_any 0 _ (by omega) (by omega)).mono ?_; rintro e w9 ⟨rfl, hb9⟩
          replace H := Lib.hid (H.out.bel hb9); (try simp only [List.set_cons_zero, List.set_cons_succ, List.cons_append, List.nil_append, List.eraseIdx_cons_zero, List.eraseIdx_cons_succ, List.setIfInBounds_toArray, World.size_alloc, selR, List.getD_cons_zero, List.getD_cons_succ] at H)
          clear hb9
          replace H := Lib.hid (H.out.sel [0] (by decide) (by simp)); (try simp only [List.set_cons_zero, List.set_cons_succ, List.cons_append, List.nil_append, List.eraseIdx_cons_zero, List.eraseIdx_cons_succ, List.setIfInBounds_toArray, World.size_alloc, selR, List.getD_cons_zero, List.getD_cons_succ] at H)
          go_wp2
          go_roundg (n - (k + 1))
          case rel =>
            refine ⟨k + 1, _, rfl, by omega, by go_num, by simp only [str_append]; rfl, ?_, H, ?_⟩
            · have h9 := HPL.out; unfold pickPut at h9; simp at h9 ⊢; omega
            · show _ = _; rw [← HN.out]; unfold pickPut; simp
          case measure => rw [Hgk.out]; omega
    · have HN : Hid (l = askPut (ps.map Pk.con)) := by
        show _ = _
        rw [HL.out, List.take_of_length_le (by have := hlen.out; simp; omega)]
        rfl
      clear HL
      go_wp2
      go_ret
      rw [← HN.out]
      exact ⟨rfl, H.out.to⟩

end Go.Proofs.Ytigjghfonpfdlaa
