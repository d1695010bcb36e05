/- The document's Loads. -/
import Derived.Test.YtlclllkjnhgbjaaAreS
import Derived.Test.YtlclllkjnhgbjaaAreM
import Derived.Test.YtlclllkjnhgbjaaAreK
import Derived.Test.YtlclllkjnhgbjaaPart
namespace Go.Proofs.Ytlclllkjnhgbjaa
open Go.RowKit
set_option linter.unusedVariables false
set_option linter.unusedSimpArgs false


def loadsOf (xs : List (List Int)) (ms : Int) (l : List NC) : Int := if shapeOk xs ms = true then firstErr (loadAt xs ms l) l.length 0 else 2
set_option maxRecDepth 100000 in
set_option maxHeartbeats 2000000 in
theorem rloads_any (s : Shp) (l : Row Nd) (w : World) (hs : s.rd w) (hl : l.ok w) (hsm : ∀ n ∈ l.l, SmN n) :
    Calls Try.prog 27 #[.agg s.cs, .slice l.A l.n l.c] w fun e w' => e = .returned (.int .i64 (loadsOf s.con s.ms (l.l.map Nd.con))) ∧ Bel w w' := by
  have HSR := Lib.hid (fun w' (hb : Bel w w') => hs.mono hb)
  have HLR := Lib.hid (fun w' (hb : Bel w w') => hl.rds.mono hb)
  have HLC : Hid (l.n ≤ l.c) := hl.le
  have hll : Hid (l.l.length = l.n) := hl.len
  have l63 := hl.rds.n63
  have HSM := Lib.hid hsm
  have HMY := Lib.hid (fun w' (hb : Bel w w') => rmay24_any s w' (hs.mono hb))
  have H := Lib.hid ((SL.start No w).alloc s.cs 24)
  (try simp only [List.set_cons_zero, List.set_cons_succ, List.cons_append, List.nil_append, List.eraseIdx_cons_zero, List.eraseIdx_cons_succ, List.setIfInBounds_toArray, World.size_alloc, selR, List.getD_cons_zero, List.getD_cons_succ] at H)
  obtain ⟨E0, hE0⟩ : ∃ E0, E0 = loadsOf s.con s.ms (l.l.map Nd.con) := ⟨_, rfl⟩
  rw [← hE0]
  have HE0 := Lib.hid hE0
  have hcs : s.cs = #[.slice s.sz.A s.sz.n s.sz.c, .int .i64 s.ms] := rfl
  have HCS := Lib.hid hcs
  clear hcs hs hl hsm hE0
  go_enter Try.func27, Try.ntmps27
  go_upto_region 1 with fail
  (try rw [← HCS.out] at *)
  generalize w.heap.size = x at *
  generalize World.alloc w _ = w1 at *
  go_wp2_with ((with_reducible show wpList _ _ _ (⟨some 7, _, _, _, _, _⟩ :: _) _ _); (refine wpList_load_blk rfl rowShp2 (.tmp 2) rfl _ rfl (H.out.blk 0 rfl) rfl ?_))
  refine (HMY.out _ H.out.to).mono ?_; rintro e w2 ⟨rfl, hb2⟩
  replace H := Lib.hid (H.out.bel hb2); (try simp only [List.set_cons_zero, List.set_cons_succ, List.cons_append, List.nil_append, List.eraseIdx_cons_zero, List.eraseIdx_cons_succ, List.setIfInBounds_toArray, World.size_alloc, selR, List.getD_cons_zero, List.getD_cons_succ] at H)
  clear hb2 HMY
  cases hok : shapeOk s.con s.ms with
  | false =>
    have HV : Hid (E0 = 2) := by show _ = _; rw [HE0.out]; unfold loadsOf; rw [if_neg (by rw [hok]; simp)]
    go_wp2_with fail
    go_ret
    rw [HV.out]
    exact ⟨rfl, H.out.to⟩
  | true =>
  obtain ⟨E, hE⟩ : ∃ E, E = firstErr (loadAt s.con s.ms (l.l.map Nd.con)) (l.l.map Nd.con).length 0 := ⟨_, rfl⟩
  have HV0 : Hid (E0 = E) := by show _ = _; rw [HE0.out, hE]; unfold loadsOf; rw [if_pos hok]
  have HE : Hid (E = firstErr (loadAt s.con s.ms (l.l.map Nd.con)) (l.n - 0) 0) := by show _ = _; rw [hE, List.length_map, hll.out]; rfl
  clear hE hok HE0
  go_upto_region 4 with fail
  go_loopg [5, 6, 12] l.n (fun gg s5 s6 s12 wr => ∃ (k : Nat), gg = l.n - k ∧ k ≤ l.n ∧ s12 = .int .i64 k ∧ Hid (E = firstErr (loadAt s.con s.ms (l.l.map Nd.con)) (l.n - k) k) ∧ Hid (SL No w wr [rBlk x 24 s.cs]))
  case atStart => exact ⟨0, rfl, by omega, rfl, HE, H⟩
  case round =>
    clear H HE
    obtain ⟨k, hgk, hk, rfl, HE, H⟩ := hrel
    have Hgk := Lib.hid hgk
    clear hgk
    by_cases hlt : k < l.n
    · obtain ⟨bl, ol, n, hAl, hbl, hnk, hnr, hrg⟩ := (HLR.out _ H.out.to).ndAt (k := k) hlt
      have hnm := List.mem_of_getElem? hnk
      have hkc : (l.l.map Nd.con)[k]? = some n.con := by rw [List.getElem?_map, hnk]; rfl
      obtain ⟨F, hF⟩ : ∃ F, F = loadAt s.con s.ms (l.l.map Nd.con) k := ⟨_, rfl⟩
      have HAD : Hid (∀ w', Bel w w' → Calls Try.prog 59 #[.agg s.cs, .int .i64 131072, .slice (l.part 0 k).A (l.part 0 k).n (l.part 0 k).c, .agg n.cs] w' fun e w2 => e = .returned (.int .i64 F) ∧ Bel w' w2) := fun w' hb => by
        have h := radd24_any s 131072 (l.part 0 k) n w' (HSR.out w' hb) (by unfold I64; omega) (part_rd (HLR.out w' hb) HLC.out (Nat.zero_le _) hk) ((HLR.out w' hb).all n hnm) (HSM.out n hnm).t
        rw [hF]
        unfold loadAt
        rw [hkc, Option.getD_some, ← List.map_take]
        exact h
      have HFE := Lib.hid hF
      have HRG := Lib.hid hrg
      have hsl := nds_upto l k (Nat.le_trans hk HLC.out)
      have k0 : (0 : Int) ≤ k := by omega
      have k1 : (k : Int) < l.n := by omega
      have HAL := Lib.hid hAl
      rw [hAl] at hsl ⊢
      clear hnk hnr hrg hAl hnm hkc hF
      go_upto_region 6 with fail
      refine wp_region_over (by kernel_rfl) (by kernel_rfl) ?_
      (try simp only [Act.put, List.setIfInBounds_toArray, List.set_cons_zero, List.set_cons_succ])
      repeat (first
        | ((with_reducible show wpQuiet _ _ _ _ (⟨some 15, _, _, _, _, _⟩ :: _) _); refine wpQuiet_load_row (by first | rfl | go_simp) rowShp2 (.tmp 2) rfl _ (0) rfl _ rfl (H.out.blk 0 rfl).lt (H.out.blk 0 rfl).range ?_; simp only [Act.put, List.setIfInBounds_toArray, List.set_cons_zero, List.set_cons_succ])
        | ((with_reducible show wpQuiet _ _ _ _ (⟨some 18, _, _, _, _, _⟩ :: _) _); refine wpQuiet_slice (by first | rfl | go_simp) (.tmp 16) none (some (.tmp 17)) rfl hsl ?_; simp only [Act.put, List.setIfInBounds_toArray, List.set_cons_zero, List.set_cons_succ])
        | ((with_reducible show wpQuiet _ _ _ _ (⟨some 22, _, _, _, _, _⟩ :: _) _); refine wpQuiet_load_row (by first | rfl | go_simp) rowNd (.tmp 21) rfl bl (ol + k * 14) rfl n.cs rfl hbl HRG.out ?_; simp only [Act.put, List.setIfInBounds_toArray, List.set_cons_zero, List.set_cons_succ])
        | go_big_quiet_step (((go_at_call 59; rename_i u; exact calls_over (HAD.out _ (H.out.to.trans u.bel)))))
        | go_big_quiet_step (fail))
      refine wpQuiet_nil ?_
      rintro w5 ⟨⟨_, hw5⟩, rfl⟩
      (try dsimp only)
      replace H := Lib.hid (H.out.bel hw5); (try simp only [List.set_cons_zero, List.set_cons_succ, List.cons_append, List.nil_append, List.eraseIdx_cons_zero, List.eraseIdx_cons_succ, List.setIfInBounds_toArray, World.size_alloc, selR, List.getD_cons_zero, List.getD_cons_succ] at H)
      skip
      clear hsl HAD HRG hbl
      by_cases hz : F = 0
      · have HE2 : Hid (E = firstErr (loadAt s.con s.ms (l.l.map Nd.con)) (l.n - (k + 1)) (k + 1)) := by show _ = _; rw [HE.out]; exact firstErr_next hlt (by rw [← HFE.out]; exact hz)
        clear HE HFE
        subst hz
        go_wp2_with fail
        rw [← HAL.out]
        go_roundg (l.n - (k + 1))
        case rel => exact ⟨k + 1, rfl, by omega, by go_num, HE2, H⟩
        case measure => rw [Hgk.out]; omega
      · have hEF : E = F := by rw [HE.out]; exact firstErr_hit hlt HFE.out.symm hz
        have d1 : (F != 0) = true := by simpa using hz
        have HV1 : Hid (E0 = F) := by show _ = _; rw [HV0.out, hEF]
        clear HE HFE hz hEF
        go_wp2_with fail
        go_ret
        rw [HV1.out]
        exact ⟨rfl, H.out.to⟩
    · obtain rfl : k = l.n := by omega
      have HV1 : Hid (E0 = 0) := by show _ = _; rw [HV0.out, HE.out, Nat.sub_self]; rfl
      go_wp2_with fail
      go_ret
      rw [HV1.out]
      exact ⟨rfl, H.out.to⟩

end Go.Proofs.Ytlclllkjnhgbjaa
