/- schema.Put, and the document's. -/
import Derived.Test.YtnekknemjhlgdaaSchW
import Derived.Test.YtnekknemjhlgdaaDimY
import Derived.Test.YtnekknemjhlgdaaDimChecksW
namespace Go.Proofs.Ytnekknemjhlgdaa
open Go.RowKit
set_option linter.unusedVariables false
set_option linter.unusedSimpArgs false

def schPutV (s : SC) : List UInt8 × Int := if schErr s = 0 then (schPut s, 0) else ([], schErr s)

set_option maxRecDepth 100000 in
set_option maxHeartbeats 2000000 in
theorem schput_any (s : Sch) (w : World) (hs : s.rd w) (hn : s.dm.n ≤ 1000000) (hm : s.ms.n ≤ 1000000) (hd : ∀ d ∈ s.dm.l, d.tr.n ≤ 1000000 ∧ ∀ t ∈ d.tr.l, t.up.n ≤ 100000) :
    Calls Try.prog 82 #[.agg s.cs] w fun e w' => e = .returned (.tuple #[.string ⟨(schPutV s.con).1.toArray⟩, .int .i64 (schPutV s.con).2]) ∧ Bel w w' := by
  have hlen : Hid (s.dm.l.length = s.dm.n) := hs.dm.len
  have hlen2 : Hid (s.ms.l.length = s.ms.n) := hs.ms.len
  have HD := Lib.hid hs.dm
  have HMs := Lib.hid hs.ms
  have HDD := Lib.hid hd
  have HC := Lib.hid (fun w' (hb : Bel w w') => schcheck_any s w' (hs.mono hb) hn hm hd)
  have H := Lib.hid ((SL.start No w).alloc s.cs 25)
  (try simp only [List.set_cons_zero, List.set_cons_succ, List.cons_append, List.nil_append, List.eraseIdx_cons_zero, List.eraseIdx_cons_succ, List.setIfInBounds_toArray, World.size_alloc, selR, List.getD_cons_zero, List.getD_cons_succ] at H)
  obtain ⟨⟨A, n, c, ds⟩, ⟨A2, n2, c2, ms⟩⟩ := s
  simp only [Sch.cs, Sch.con] at *
  clear hs hd
  by_cases hE : schErr ⟨ds.map Dm.con, ms⟩ = 0
  · obtain ⟨h1, h2, h3, h4, h5, h6⟩ := schErr_zero hE
    simp only [List.length_map] at h1 h2 h3 h4 h5 h6
    have HOK := Lib.hid h3
    have HNM := Lib.hid h6
    have hn16 : n ≤ 16 := by have := hlen.out; omega
    have hn3 : n2 ≤ 3 := by have := hlen2.out; omega
    have hpn := nput_le9 n
    have hpn2 := nput_le9 n2
    have hV : schPutV ⟨ds.map Dm.con, ms⟩ = (schPut ⟨ds.map Dm.con, ms⟩, 0) := by unfold schPutV; rw [if_pos hE]
    have HV := Lib.hid hV
    rw [hE] at HC
    clear hV
    clear h1 h2 h3 h4 h5 h6 hE
    go_enter Try.func82, Try.ntmps82
    go_wp2_with fail
    generalize w.heap.size = x at *
    generalize w.alloc (.cells #[.slice A n c, .slice A2 n2 c2] 25) = w1 at *
    refine (HC.out _ H.out.to).mono ?_; rintro e w2 ⟨rfl, hb2⟩
    replace H := Lib.hid (H.out.bel hb2); (try simp only [List.set_cons_zero, List.set_cons_succ, List.cons_append, List.nil_append, List.eraseIdx_cons_zero, List.eraseIdx_cons_succ, List.setIfInBounds_toArray, World.size_alloc, selR, List.getD_cons_zero, List.getD_cons_succ] at H)
    clear hb2 HC
    have c0 := (H.out.blk 0 rfl).cell 0; simp only [List.getElem?_toArray, List.getElem?_cons_zero, List.getElem?_cons_succ] at c0
    go_wp2_with fail
    refine (putNum_any (n : Int) _ (by omega) (by omega)).mono ?_; rintro e w3 ⟨rfl, hb3⟩
    replace H := Lib.hid (H.out.bel hb3); (try simp only [List.set_cons_zero, List.set_cons_succ, List.cons_append, List.nil_append, List.eraseIdx_cons_zero, List.eraseIdx_cons_succ, List.setIfInBounds_toArray, World.size_alloc, selR, List.getD_cons_zero, List.getD_cons_succ] at H)
    rw [Int.toNat_natCast]
    clear hb3 c0
    have c0 := (H.out.blk 0 rfl).cell 0; simp only [List.getElem?_toArray, List.getElem?_cons_zero, List.getElem?_cons_succ] at c0
    go_wp2_with fail
    clear c0
    have HL : Hid (nput n = nput n ++ ((ds.map Dm.con).take 0).flatMap dimPut) := by show _ = _; simp
    go_loopg [5, 24] n (fun gg o i wr => ∃ (k : Nat) (l : List UInt8), gg = n - k ∧ k ≤ n ∧ i = .int .i64 k ∧ o = .string ⟨l.toArray⟩ ∧ l.length ≤ 10 + 50000 * k ∧ Hid (SL No w wr [rBlk x 25 #[.slice A n c, .slice A2 n2 c2]]) ∧ Hid (l = nput n ++ ((ds.map Dm.con).take k).flatMap dimPut))
    case atStart => exact ⟨0, _, rfl, by omega, rfl, rfl, by omega, H, HL⟩
    case round =>
      clear H HL
      obtain ⟨k, l, hgk, hk, rfl, rfl, hll, H, HL⟩ := hrel
      have Hgk := Lib.hid hgk
      clear hgk
      by_cases hlt : k < n
      · obtain ⟨bb, oo, d, hA, hbb, hdk, hdr, hrg⟩ := (HD.out.mono H.out.to).dmAt (k := k) hlt
        simp only at hA
        subst hA
        have hdc : (ds.map Dm.con)[k]? = some d.con := by rw [List.getElem?_map, hdk]; rfl
        have hE0 : dimErr d.con = 0 := HOK.out d.con (List.mem_of_getElem? hdc)
        have hlen3 := dimPut_len hE0
        have HN : Hid (l ++ dimPut d.con = nput n ++ ((ds.map Dm.con).take (k + 1)).flatMap dimPut) := by show _ = _; rw [take_snoc_get hdc, List.flatMap_append, ← List.append_assoc, ← HL.out]; simp
        have HR := Lib.hid hrg
        have HRd := Lib.hid hdr
        have HE0 := Lib.hid hE0
        obtain ⟨hu1, hu2⟩ := HDD.out d (List.mem_of_getElem? hdk)
        have hPV : dimPutV d.con = (dimPut d.con, 0) := by unfold dimPutV; rw [if_pos hE0]
        have HPV := Lib.hid hPV
        clear hPV
        clear hdk hdr hrg hdc hbb HL hE0
        go_wp2_with (first | ((with_reducible show wpList _ _ _ (⟨some 27, _, _, _, _, _⟩ :: _) _ _); (refine wpList_load_row_at rfl rowDm (.tmp 26) rfl bb (oo + k * 2) rfl d.cs rfl HR.out ?_)) | ((with_reducible show wpList _ _ _ (⟨_, .store _ (.tmp 7) _, _, _, _, _⟩ :: _) _ _); (refine wpList_store_new rfl rowDm (.tmp 7) (.tmp 27) rfl rfl rfl (d.cs) rfl rfl (dm_one d) ?_; replace H := Lib.hid (H.out.alloc (d.cs) 64); (try simp only [List.set_cons_zero, List.set_cons_succ, List.cons_append, List.nil_append, List.eraseIdx_cons_zero, List.eraseIdx_cons_succ, List.setIfInBounds_toArray, World.size_alloc, selR, List.getD_cons_zero, List.getD_cons_succ] at H))) | ((with_reducible show wpList _ _ _ (⟨some 29, _, _, _, _, _⟩ :: _) _ _); (refine wpList_load_blk rfl rowDm (.tmp 7) rfl _ rfl (H.out.blk 1 rfl) rfl ?_)))
        refine (dmput_any d _ (HRd.out.mono ((Bel.refl _).alloc _)) hu1 hu2).mono ?_; rintro e w5 ⟨rfl, hb5⟩
        rw [HPV.out]
        dsimp only
        replace H := Lib.hid (H.out.bel hb5); (try simp only [List.set_cons_zero, List.set_cons_succ, List.cons_append, List.nil_append, List.eraseIdx_cons_zero, List.eraseIdx_cons_succ, List.setIfInBounds_toArray, World.size_alloc, selR, List.getD_cons_zero, List.getD_cons_succ] at H)
        replace H := Lib.hid (H.out.sel [0] (by decide) (by simp)); (try simp only [List.set_cons_zero, List.set_cons_succ, List.cons_append, List.nil_append, List.eraseIdx_cons_zero, List.eraseIdx_cons_succ, List.setIfInBounds_toArray, World.size_alloc, selR, List.getD_cons_zero, List.getD_cons_succ] at H)
        clear hb5
        go_wp2
        go_roundg (n - (k + 1))
        case rel => exact ⟨k + 1, l ++ dimPut d.con, rfl, by omega, by go_num, by simp only [str_append], by simp only [List.length_append]; omega, H, HN⟩
        case measure => rw [Hgk.out]; omega
      · have HL1 : Hid (l = nput n ++ (ds.map Dm.con).flatMap dimPut) := by show _ = _; rw [HL.out, List.take_of_length_le (by have := hlen.out; simp; omega)]
        have c0 := (H.out.blk 0 rfl).cell 1; simp only [List.getElem?_toArray, List.getElem?_cons_zero, List.getElem?_cons_succ] at c0
        clear HL
        go_wp2_with fail
        refine (putNum_any (n2 : Int) _ (by omega) (by omega)).mono ?_; rintro e w3 ⟨rfl, hb3⟩
        replace H := Lib.hid (H.out.bel hb3); (try simp only [List.set_cons_zero, List.set_cons_succ, List.cons_append, List.nil_append, List.eraseIdx_cons_zero, List.eraseIdx_cons_succ, List.setIfInBounds_toArray, World.size_alloc, selR, List.getD_cons_zero, List.getD_cons_succ] at H)
        rw [Int.toNat_natCast]
        clear hb3 c0
        have c0 := (H.out.blk 0 rfl).cell 1; simp only [List.getElem?_toArray, List.getElem?_cons_zero, List.getElem?_cons_succ] at c0
        have HL2 : Hid (l ++ nput n2 = l ++ nput n2 ++ (ms.take 0).flatMap ptext) := by show _ = _; simp
        go_wp2_with fail
        simp only [str_append]
        clear c0
        go_loopg [5, 46] n2 (fun gg o i wr => ∃ (j : Nat) (l' : List UInt8), gg = n2 - j ∧ j ≤ n2 ∧ i = .int .i64 j ∧ o = .string ⟨l'.toArray⟩ ∧ l'.length ≤ 900000 + 30 * j ∧ Hid (SL No w wr [rBlk x 25 #[.slice A n c, .slice A2 n2 c2]]) ∧ Hid (l' = l ++ nput n2 ++ (ms.take j).flatMap ptext))
        case atStart => exact ⟨0, _, rfl, by omega, rfl, rfl, by simp only [List.length_append]; omega, H, HL2⟩
        case round =>
          clear H HL2
          obtain ⟨j, l', hgk, hj, rfl, rfl, hll2, H, HL⟩ := hrel
          have Hgk := Lib.hid hgk
          clear hgk
          by_cases hlt2 : j < n2
          · obtain ⟨bb, oo, m, hA, hmk, hml, hc⟩ := (HMs.out.mono H.out.to).textAt (k := j) hlt2
            simp only at hA
            subst hA
            have hm12 := isName_len (HNM.out m (List.mem_of_getElem? hmk))
            have hpt : (ptext m).length ≤ 30 := by unfold ptext; rw [List.length_append]; have := nput_le9 m.length; omega
            have HN : Hid (l' ++ ptext m = l ++ nput n2 ++ (ms.take (j + 1)).flatMap ptext) := by show _ = _; rw [take_snoc_get hmk, List.flatMap_append, ← List.append_assoc, ← HL.out]; simp
            clear hmk HL
            go_wp2_with fail
            refine (putText_any m _ (by omega)).mono ?_; rintro e w4 ⟨rfl, hb4⟩
            replace H := Lib.hid (H.out.bel hb4); (try simp only [List.set_cons_zero, List.set_cons_succ, List.cons_append, List.nil_append, List.eraseIdx_cons_zero, List.eraseIdx_cons_succ, List.setIfInBounds_toArray, World.size_alloc, selR, List.getD_cons_zero, List.getD_cons_succ] at H)
            clear hb4 hc
            go_wp2
            go_roundg (n2 - (j + 1))
            case rel => exact ⟨j + 1, l' ++ ptext m, rfl, by omega, by go_num, by simp only [str_append], by simp only [List.length_append]; omega, H, HN⟩
            case measure => rw [Hgk.out]; omega
          · have HN : Hid (schPut ⟨ds.map Dm.con, ms⟩ = l') := by
              show _ = _
              rw [HL.out, List.take_of_length_le (by have := hlen2.out; omega), HL1.out]
              unfold schPut
              simp only [List.length_map, hlen.out, hlen2.out, List.append_assoc]
            clear HL
            go_wp2
            go_ret2
            rw [HV.out, HN.out]
            exact ⟨rfl, H.out.to⟩
  · have hV : schPutV ⟨ds.map Dm.con, ms⟩ = ([], schErr ⟨ds.map Dm.con, ms⟩) := by unfold schPutV; rw [if_neg hE]
    have dE : (schErr ⟨ds.map Dm.con, ms⟩ == 0) = false := by simpa using hE
    have dE2 : (schErr ⟨ds.map Dm.con, ms⟩ != 0) = true := by simpa using hE
    rw [hV]
    generalize schErr ⟨ds.map Dm.con, ms⟩ = E at *
    clear hE hV
    go_enter Try.func82, Try.ntmps82
    go_wp2_with fail
    refine (HC.out _ H.out.to).mono ?_; rintro e w2 ⟨rfl, hb2⟩
    go_wp2
    go_ret2
    exact ⟨rfl, H.out.to.trans hb2⟩

set_option maxRecDepth 100000 in
set_option maxHeartbeats 2000000 in
theorem rschput_any (s : Sch) (w : World) (hs : s.rd w) (hE : schErr s.con = 0) :
    Calls Try.prog 92 #[.agg s.cs] w fun e w' => e = .returned (.string ⟨(schPut s.con).toArray⟩) ∧ Bel w w' := by
  have hlen : Hid (s.dm.l.length = s.dm.n) := hs.dm.len
  have hlen2 : Hid (s.ms.l.length = s.ms.n) := hs.ms.len
  have HD := Lib.hid hs.dm
  have HMs := Lib.hid hs.ms
  have H := Lib.hid ((SL.start No w).alloc s.cs 25)
  (try simp only [List.set_cons_zero, List.set_cons_succ, List.cons_append, List.nil_append, List.eraseIdx_cons_zero, List.eraseIdx_cons_succ, List.setIfInBounds_toArray, World.size_alloc, selR, List.getD_cons_zero, List.getD_cons_succ] at H)
  obtain ⟨⟨A, n, c, ds⟩, ⟨A2, n2, c2, ms⟩⟩ := s
  simp only [Sch.cs, Sch.con] at *
  clear hs
  obtain ⟨h1, h2, h3, h4, h5, h6⟩ := schErr_zero hE
  simp only [List.length_map] at h1 h2 h3 h4 h5 h6
  have HOK := Lib.hid h3
  have HNM := Lib.hid h6
  have hn16 : n ≤ 16 := by have := hlen.out; omega
  have hn3 : n2 ≤ 3 := by have := hlen2.out; omega
  have hpn := nput_le9 n
  have hpn2 := nput_le9 n2
  clear h1 h2 h3 h4 h5 h6 hE
  go_enter Try.func92, Try.ntmps92
  have c0 := (H.out.blk 0 rfl).cell 0; simp only [List.getElem?_toArray, List.getElem?_cons_zero, List.getElem?_cons_succ] at c0
  go_wp2_with fail
  refine (rputNum_any (n : Int) _ (by omega) (by omega)).mono ?_; rintro e w3 ⟨rfl, hb3⟩
  replace H := Lib.hid (H.out.bel hb3); (try simp only [List.set_cons_zero, List.set_cons_succ, List.cons_append, List.nil_append, List.eraseIdx_cons_zero, List.eraseIdx_cons_succ, List.setIfInBounds_toArray, World.size_alloc, selR, List.getD_cons_zero, List.getD_cons_succ] at H)
  rw [Int.toNat_natCast]
  clear hb3 c0
  have c0 := (H.out.blk 0 rfl).cell 0; simp only [List.getElem?_toArray, List.getElem?_cons_zero, List.getElem?_cons_succ] at c0
  generalize w.heap.size = x at *
  go_wp2_with fail
  clear c0
  have HL : Hid (nput n = nput n ++ ((ds.map Dm.con).take 0).flatMap dimPut) := by show _ = _; simp
  go_loopg [3, 15] n (fun gg o i wr => ∃ (k : Nat) (l : List UInt8), gg = n - k ∧ k ≤ n ∧ i = .int .i64 k ∧ o = .string ⟨l.toArray⟩ ∧ l.length ≤ 10 + 50000 * k ∧ Hid (SL No w wr [rBlk x 25 #[.slice A n c, .slice A2 n2 c2]]) ∧ Hid (l = nput n ++ ((ds.map Dm.con).take k).flatMap dimPut))
  case atStart => exact ⟨0, _, rfl, by omega, rfl, rfl, by omega, H, HL⟩
  case round =>
    clear H HL
    obtain ⟨k, l, hgk, hk, rfl, rfl, hll, H, HL⟩ := hrel
    have Hgk := Lib.hid hgk
    clear hgk
    by_cases hlt : k < n
    · obtain ⟨bb, oo, d, hA, hbb, hdk, hdr, hrg⟩ := (HD.out.mono H.out.to).dmAt (k := k) hlt
      simp only at hA
      subst hA
      have hdc : (ds.map Dm.con)[k]? = some d.con := by rw [List.getElem?_map, hdk]; rfl
      have hE0 : dimErr d.con = 0 := HOK.out d.con (List.mem_of_getElem? hdc)
      have hlen3 := dimPut_len hE0
      have HN : Hid (l ++ dimPut d.con = nput n ++ ((ds.map Dm.con).take (k + 1)).flatMap dimPut) := by show _ = _; rw [take_snoc_get hdc, List.flatMap_append, ← List.append_assoc, ← HL.out]; simp
      have HR := Lib.hid hrg
      have HRd := Lib.hid hdr
      have HE0 := Lib.hid hE0
      clear hdk hdr hrg hdc hbb HL hE0
      go_wp2_with (first | ((with_reducible show wpList _ _ _ (⟨some 18, _, _, _, _, _⟩ :: _) _ _); (refine wpList_load_row_at rfl rowDm (.tmp 17) rfl bb (oo + k * 2) rfl d.cs rfl HR.out ?_)) | ((with_reducible show wpList _ _ _ (⟨_, .store _ (.tmp 5) _, _, _, _, _⟩ :: _) _ _); (refine wpList_store_new rfl rowDm (.tmp 5) (.tmp 18) rfl rfl rfl (d.cs) rfl rfl (dm_one d) ?_; replace H := Lib.hid (H.out.alloc (d.cs) 64); (try simp only [List.set_cons_zero, List.set_cons_succ, List.cons_append, List.nil_append, List.eraseIdx_cons_zero, List.eraseIdx_cons_succ, List.setIfInBounds_toArray, World.size_alloc, selR, List.getD_cons_zero, List.getD_cons_succ] at H))) | ((with_reducible show wpList _ _ _ (⟨some 20, _, _, _, _, _⟩ :: _) _ _); (refine wpList_load_blk rfl rowDm (.tmp 5) rfl _ rfl (H.out.blk 1 rfl) rfl ?_)))
      refine (rdmput_any d _ (HRd.out.mono ((Bel.refl _).alloc _)) HE0.out).mono ?_; rintro e w5 ⟨rfl, hb5⟩
      replace H := Lib.hid (H.out.bel hb5); (try simp only [List.set_cons_zero, List.set_cons_succ, List.cons_append, List.nil_append, List.eraseIdx_cons_zero, List.eraseIdx_cons_succ, List.setIfInBounds_toArray, World.size_alloc, selR, List.getD_cons_zero, List.getD_cons_succ] at H)
      replace H := Lib.hid (H.out.sel [0] (by decide) (by simp)); (try simp only [List.set_cons_zero, List.set_cons_succ, List.cons_append, List.nil_append, List.eraseIdx_cons_zero, List.eraseIdx_cons_succ, List.setIfInBounds_toArray, World.size_alloc, selR, List.getD_cons_zero, List.getD_cons_succ] at H)
      clear hb5
      go_wp2
      go_roundg (n - (k + 1))
      case rel => exact ⟨k + 1, l ++ dimPut d.con, rfl, by omega, by go_num, by simp only [str_append], by simp only [List.length_append]; omega, H, HN⟩
      case measure => rw [Hgk.out]; omega
    · have HL1 : Hid (l = nput n ++ (ds.map Dm.con).flatMap dimPut) := by show _ = _; rw [HL.out, List.take_of_length_le (by have := hlen.out; simp; omega)]
      have c0 := (H.out.blk 0 rfl).cell 1; simp only [List.getElem?_toArray, List.getElem?_cons_zero, List.getElem?_cons_succ] at c0
      clear HL
      go_wp2_with fail
      refine (rputNum_any (n2 : Int) _ (by omega) (by omega)).mono ?_; rintro e w3 ⟨rfl, hb3⟩
      replace H := Lib.hid (H.out.bel hb3); (try simp only [List.set_cons_zero, List.set_cons_succ, List.cons_append, List.nil_append, List.eraseIdx_cons_zero, List.eraseIdx_cons_succ, List.setIfInBounds_toArray, World.size_alloc, selR, List.getD_cons_zero, List.getD_cons_succ] at H)
      rw [Int.toNat_natCast]
      clear hb3 c0
      have c0 := (H.out.blk 0 rfl).cell 1; simp only [List.getElem?_toArray, List.getElem?_cons_zero, List.getElem?_cons_succ] at c0
      have HL2 : Hid (l ++ nput n2 = l ++ nput n2 ++ (ms.take 0).flatMap ptext) := by show _ = _; simp
      go_wp2_with fail
      simp only [str_append]
      clear c0
      go_loopg [3, 33] n2 (fun gg o i wr => ∃ (j : Nat) (l' : List UInt8), gg = n2 - j ∧ j ≤ n2 ∧ i = .int .i64 j ∧ o = .string ⟨l'.toArray⟩ ∧ l'.length ≤ 900000 + 30 * j ∧ Hid (SL No w wr [rBlk x 25 #[.slice A n c, .slice A2 n2 c2]]) ∧ Hid (l' = l ++ nput n2 ++ (ms.take j).flatMap ptext))
      case atStart => exact ⟨0, _, rfl, by omega, rfl, rfl, by simp only [List.length_append]; omega, H, HL2⟩
      case round =>
        clear H HL2
        obtain ⟨j, l', hgk, hj, rfl, rfl, hll2, H, HL⟩ := hrel
        have Hgk := Lib.hid hgk
        clear hgk
        by_cases hlt2 : j < n2
        · obtain ⟨bb, oo, m, hA, hmk, hml, hc⟩ := (HMs.out.mono H.out.to).textAt (k := j) hlt2
          simp only at hA
          subst hA
          have hm12 := isName_len (HNM.out m (List.mem_of_getElem? hmk))
          have hpt : (ptext m).length ≤ 30 := by unfold ptext; rw [List.length_append]; have := nput_le9 m.length; omega
          have HN : Hid (l' ++ ptext m = l ++ nput n2 ++ (ms.take (j + 1)).flatMap ptext) := by show _ = _; rw [take_snoc_get hmk, List.flatMap_append, ← List.append_assoc, ← HL.out]; simp
          clear hmk HL
          go_wp2_with fail
          refine (rputText_any m _ (by omega)).mono ?_; rintro e w4 ⟨rfl, hb4⟩
          replace H := Lib.hid (H.out.bel hb4); (try simp only [List.set_cons_zero, List.set_cons_succ, List.cons_append, List.nil_append, List.eraseIdx_cons_zero, List.eraseIdx_cons_succ, List.setIfInBounds_toArray, World.size_alloc, selR, List.getD_cons_zero, List.getD_cons_succ] at H)
          clear hb4 hc
          go_wp2
          go_roundg (n2 - (j + 1))
          case rel => exact ⟨j + 1, l' ++ ptext m, rfl, by omega, by go_num, by simp only [str_append], by simp only [List.length_append]; omega, H, HN⟩
          case measure => rw [Hgk.out]; omega
        · have HN : Hid (schPut ⟨ds.map Dm.con, ms⟩ = l') := by
            show _ = _
            rw [HL.out, List.take_of_length_le (by have := hlen2.out; omega), HL1.out]
            unfold schPut
            simp only [List.length_map, hlen.out, hlen2.out, List.append_assoc]
          clear HL
          go_wp2
          go_ret
          rw [HN.out]
          exact ⟨rfl, H.out.to⟩

end Go.Proofs.Ytnekknemjhlgdaa
