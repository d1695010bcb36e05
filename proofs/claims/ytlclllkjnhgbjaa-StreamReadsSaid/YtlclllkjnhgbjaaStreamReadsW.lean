/- The walk of law 34's StreamReads. -/
import Derived.Test.YtlclllkjnhgbjaaRrd
import Derived.Test.YtlclllkjnhgbjaaStrZ
import Derived.Test.YtlclllkjnhgbjaaAreN
import Derived.Test.YtlclllkjnhgbjaaAreK
namespace Go.Proofs.Ytlclllkjnhgbjaa
open Go.RowKit
set_option linter.unusedVariables false
set_option linter.unusedSimpArgs false


theorem up_len {m : Int} : ∀ (l : List Int) (a : Int), l.Pairwise (· < ·) → (∀ z ∈ l, a ≤ z ∧ z < m) → l = [] ∨ (l.length : Int) ≤ m - a
  | [], a, _, _ => .inl rfl
  | z :: l, a, hp, hb => by
    right
    obtain ⟨h1, h2⟩ := List.pairwise_cons.1 hp
    have hz := hb z (List.mem_cons_self ..)
    rw [List.length_cons]
    rcases up_len l (z + 1) h2 (fun y hy => ⟨by have := h1 y hy; omega, (hb y (List.mem_cons_of_mem _ hy)).2⟩) with h | h
    · subst h; simp; omega
    · omega
theorem StOk.len {st : List Int} {m : Nat} (h : StOk st m) : st.length ≤ m := by
  rcases up_len st 0 h.up (fun z hz => h.lt z hz) with e | e
  · rw [e]; simp
  · omega
theorem preadT_inv {xs : List (List Int)} {ms : Int} {s : List UInt8} {top : Int} {L : List NC} (h : preadT xs ms s top = some L) (hs : shapeOk xs ms = true) : GoodN xs ms L ∧ L.length ≤ s.length ∧ wholeC xs.length L = true ∧ (pwrite xs.length ms L).2 = s ∧ wtop (pwrite xs.length ms L).1 = top := by
  unfold preadT at h
  cases hp : pread xs ms s with
  | none => rw [hp] at h; cases h
  | some q =>
    obtain ⟨st, l⟩ := q
    rw [hp] at h
    simp only at h
    split at h
    · rename_i hc
      injection h with h
      subst h
      obtain ⟨l2, e1, e2, e3, e4, e5⟩ := read_write hs s.length s [] [] [] st l (by show rstepF _ _ _ 0 _ _ _ = _; exact hp) rfl StOk.nil (goodN_nil _ _)
      rw [List.nil_append] at e1
      subst e1
      have e6 : pwrite xs.length ms l = (st, s) := by show wsteps _ _ _ [] [] = _; rw [e2, List.nil_append]
      have h4 := e4.len
      rw [List.length_nil, Nat.zero_add] at h4
      exact ⟨e3, by omega, hc.2, by rw [e6], by rw [e6]; exact hc.1⟩
    · cases h
set_option maxRecDepth 100000 in
set_option maxHeartbeats 1500000 in
theorem walkl_streamReads (w : World) (sh : Shp) (hs : sh.rd w) (s : List UInt8) (hls : s.length ≤ 9223372036854775807) (top : Int) (wi : (Lit.int .i64 top).wf = true) :
    Calls Try.prog 7 #[.agg sh.cs, .string ⟨s.toArray⟩, .int .i64 top] w fun e w' => e = .returned (.bool true) ∧ Bel w w' := by
  have h64 : I64 top := bounds_i64 wi
  have HSR := Lib.hid (fun w' (hb : Bel w w') => hs.mono hb)
  have HSMA := Lib.hid (fun w' (hb : Bel w w') => smallS_any sh w' (hs.mono hb))
  have HMY := Lib.hid (fun w' (hb : Bel w w') => rmay24_any sh w' (hs.mono hb))
  have hxl : sh.con.length = sh.sz.n := by show (sh.sz.l.map Row.l).length = _; rw [List.length_map]; exact hs.sz.len
  have HXL := Lib.hid hxl
  have H := Lib.hid ((SL.start No w).alloc sh.cs 24)
  (try simp only [List.set_cons_zero, List.set_cons_succ, List.cons_append, List.nil_append, List.eraseIdx_cons_zero, List.eraseIdx_cons_succ, List.setIfInBounds_toArray, World.size_alloc, selR, List.getD_cons_zero, List.getD_cons_succ] at H)
  have hcs : sh.cs = #[.slice sh.sz.A sh.sz.n sh.sz.c, .int .i64 sh.ms] := rfl
  have HCS := Lib.hid hcs
  clear hcs hs hxl
  go_enter Try.func7, Try.ntmps7
  go_upto_region 1 with fail
  (try rw [← HCS.out] at *)
  generalize w.heap.size = x at *
  generalize World.alloc w _ = w1 at *
  go_wp2_with ((with_reducible show wpList _ _ _ (⟨some 14, _, _, _, _, _⟩ :: _) _ _); (refine wpList_load_blk rfl rowShp2 (.tmp 3) rfl _ rfl (H.out.blk 0 rfl) rfl ?_))
  refine (HSMA.out _ H.out.to).mono ?_; rintro e w2 ⟨b1, rfl, hb1, hb2⟩
  replace H := Lib.hid (H.out.bel hb2); (try simp only [List.set_cons_zero, List.set_cons_succ, List.cons_append, List.nil_append, List.eraseIdx_cons_zero, List.eraseIdx_cons_succ, List.setIfInBounds_toArray, World.size_alloc, selR, List.getD_cons_zero, List.getD_cons_succ] at H)
  clear hb2 HSMA
  cases b1 with
  | false =>
    go_wp2_with fail
    refine (awake34_any _).mono ?_; rintro e wz ⟨rfl, hbz⟩
    replace H := Lib.hid (H.out.bel hbz)
    go_wp2_with fail
    go_ret
    exact ⟨rfl, H.out.to⟩
  | true =>
  have hsm := hb1 rfl
  have HSM := Lib.hid hsm
  clear hb1 hsm
  by_cases hl1500 : 1500 < s.length
  · have d1 : decide ((1500 : Int) < (s.length : Int)) = true := by simp <;> omega
    have d1n : decide (1500 < s.length) = true := by simp <;> omega
    clear hl1500
    go_wp2_with fail
    refine (awake34_any _).mono ?_; rintro e wz ⟨rfl, hbz⟩
    replace H := Lib.hid (H.out.bel hbz)
    go_wp2_with fail
    go_ret
    exact ⟨rfl, H.out.to⟩
  have d1 : decide ((1500 : Int) < (s.length : Int)) = false := by simp <;> omega
  have d1n : decide (1500 < s.length) = false := by simp <;> omega
  have hsl : s.length ≤ 1500 := by omega
  have HSRD := Lib.hid (fun w' (hb : Bel w w') => sread_any sh s top w' (HSR.out w' hb) (by omega) HSM.out h64)
  have HRRD := Lib.hid (fun w' (hb : Bel w w') (h : shapeOk sh.con sh.ms = true) => rread_any32 sh s top w' (HSR.out w' hb) (by omega) h h64)
  unfold I64 at h64
  go_wp2_with ((with_reducible show wpList _ _ _ (⟨some 24, _, _, _, _, _⟩ :: _) _ _); (refine wpList_load_blk rfl rowShp2 (.tmp 3) rfl _ rfl (H.out.blk 0 rfl) rfl ?_))
  clear d1 d1n hl1500 hls
  refine (HSRD.out _ H.out.to).mono ?_; intro e w3 hsr
  unfold SRPost at hsr
  clear HSRD
  cases hok : shapeOk sh.con sh.ms with
  | false =>
    rw [hok, if_pos rfl] at hsr
    obtain ⟨rfl, hb3⟩ := hsr
    rw [hok] at HMY
    replace H := Lib.hid (H.out.bel hb3); (try simp only [List.set_cons_zero, List.set_cons_succ, List.cons_append, List.nil_append, List.eraseIdx_cons_zero, List.eraseIdx_cons_succ, List.setIfInBounds_toArray, World.size_alloc, selR, List.getD_cons_zero, List.getD_cons_succ] at H)
    clear hb3 hok
    go_wp2_with ((with_reducible show wpList _ _ _ (⟨some 30, _, _, _, _, _⟩ :: _) _ _); (refine wpList_load_blk rfl rowShp2 (.tmp 3) rfl _ rfl (H.out.blk 0 rfl) rfl ?_))
    refine (HMY.out _ H.out.to).mono ?_; rintro e w4 ⟨rfl, hb4⟩
    replace H := Lib.hid (H.out.bel hb4); (try simp only [List.set_cons_zero, List.set_cons_succ, List.cons_append, List.nil_append, List.eraseIdx_cons_zero, List.eraseIdx_cons_succ, List.setIfInBounds_toArray, World.size_alloc, selR, List.getD_cons_zero, List.getD_cons_succ] at H)
    clear hb4 HMY
    go_wp2_with fail
    refine (awake34_any _).mono ?_; rintro e wz ⟨rfl, hbz⟩
    replace H := Lib.hid (H.out.bel hbz)
    go_wp2_with fail
    go_ret
    exact ⟨rfl, H.out.to⟩
  | true =>
  rw [hok, if_neg (by simp)] at hsr
  rw [hok] at HMY
  cases hpt : preadT sh.con sh.ms s top with
  | none =>
    rw [hpt] at hsr HRRD
    obtain ⟨rfl, hb3⟩ := hsr
    have HRR := Lib.hid (fun w' (hb : Bel w w') => HRRD.out w' hb hok)
    replace H := Lib.hid (H.out.bel hb3); (try simp only [List.set_cons_zero, List.set_cons_succ, List.cons_append, List.nil_append, List.eraseIdx_cons_zero, List.eraseIdx_cons_succ, List.setIfInBounds_toArray, World.size_alloc, selR, List.getD_cons_zero, List.getD_cons_succ] at H)
    clear hb3 hok hpt HRRD
    go_wp2_with ((with_reducible show wpList _ _ _ (⟨some 30, _, _, _, _, _⟩ :: _) _ _); (refine wpList_load_blk rfl rowShp2 (.tmp 3) rfl _ rfl (H.out.blk 0 rfl) rfl ?_))
    refine (HMY.out _ H.out.to).mono ?_; rintro e w4 ⟨rfl, hb4⟩
    replace H := Lib.hid (H.out.bel hb4); (try simp only [List.set_cons_zero, List.set_cons_succ, List.cons_append, List.nil_append, List.eraseIdx_cons_zero, List.eraseIdx_cons_succ, List.setIfInBounds_toArray, World.size_alloc, selR, List.getD_cons_zero, List.getD_cons_succ] at H)
    clear hb4 HMY
    go_wp2_with ((with_reducible show wpList _ _ _ (⟨some 43, _, _, _, _, _⟩ :: _) _ _); (refine wpList_load_blk rfl rowShp2 (.tmp 3) rfl _ rfl (H.out.blk 0 rfl) rfl ?_))
    refine (HRR.out _ H.out.to).mono ?_; rintro e w5 ⟨l2, rfl, hb5, _⟩
    replace H := Lib.hid (H.out.bel hb5); (try simp only [List.set_cons_zero, List.set_cons_succ, List.cons_append, List.nil_append, List.eraseIdx_cons_zero, List.eraseIdx_cons_succ, List.setIfInBounds_toArray, World.size_alloc, selR, List.getD_cons_zero, List.getD_cons_succ] at H)
    clear hb5 HRR
    rw [show Option.isSome (none : Option (List NC)) = false from rfl]
    go_wp2_with fail
    refine (awake34_any _).mono ?_; rintro e wz ⟨rfl, hbz⟩
    replace H := Lib.hid (H.out.bel hbz)
    go_wp2_with fail
    go_ret
    exact ⟨rfl, H.out.to⟩
  | some L =>
    rw [hpt] at hsr HRRD
    obtain ⟨b, z, rfl, ⟨z1, z2, z3, z4⟩, z5, z6⟩ := hsr
    obtain ⟨p1, p2, p3, p4, p5⟩ := preadT_inv hpt hok
    rw [HXL.out] at p3 p4 p5
    have HRR := Lib.hid (fun w' (hb : Bel w w') => HRRD.out w' hb hok)
    replace H := Lib.hid ((H.out.join z6).mkAr z1); (try simp only [List.set_cons_zero, List.set_cons_succ, List.cons_append, List.nil_append, List.eraseIdx_cons_zero, List.eraseIdx_cons_succ, List.setIfInBounds_toArray, World.size_alloc, selR, List.getD_cons_zero, List.getD_cons_succ] at H)
    have hat := (H.out.at_ 1 rfl : ArAt b z w3)
    have HZC := Lib.hid z5
    have HSW := Lib.hid (fun W (h : ArAt b z W) => swrite_any b z s.length W z1 h (by rw [z3, z4]; exact hok) (by rw [z3, z4, z5]; exact p1) (by have h1 := congrArg List.length z5; rw [List.length_map, hat.nd.len] at h1; omega) (fun n hn => by
      have h0 := hat.bd n hn
      obtain ⟨i, hi, hin⟩ := List.getElem_of_mem hn
      have h1 := (p1 i n.con (by rw [← z5, List.getElem?_map, List.getElem?_eq_getElem hi, hin]; rfl)).1
      exact ⟨h0.1, h0.2, Nat.le_trans (flat_node h1 hok) (by omega)⟩) (by unfold I64; omega))
    have HSV : Hid (swVal z.sz.n z.ms (z.nd.l.map Nd.con) s.length = .tuple #[.string ⟨s.toArray⟩, .int .i64 top, .int .i64 0]) := by
      show _ = _
      unfold swVal
      rw [z2, z4, z5, p3, if_neg (by simp), p4, p5, if_neg (by omega)]
    rw [HSV.out] at HSW
    have HZ1 := Lib.hid z1
    clear z1 z2 z3 z4 z5 z6 p1 p2 p3 p4 p5 hok hpt HRRD hat HSV
    go_wp2_with ((with_reducible show wpList _ _ _ (⟨some 30, _, _, _, _, _⟩ :: _) _ _); (refine wpList_load_blk rfl rowShp2 (.tmp 3) rfl _ rfl (H.out.blk 0 rfl) rfl ?_))
    refine (HMY.out _ H.out.to).mono ?_; rintro e w4 ⟨rfl, hb4⟩
    replace H := Lib.hid (H.out.bel hb4); (try simp only [List.set_cons_zero, List.set_cons_succ, List.cons_append, List.nil_append, List.eraseIdx_cons_zero, List.eraseIdx_cons_succ, List.setIfInBounds_toArray, World.size_alloc, selR, List.getD_cons_zero, List.getD_cons_succ] at H)
    clear hb4 HMY
    go_wp2_with ((with_reducible show wpList _ _ _ (⟨some 43, _, _, _, _, _⟩ :: _) _ _); (refine wpList_load_blk rfl rowShp2 (.tmp 3) rfl _ rfl (H.out.blk 0 rfl) rfl ?_))
    refine (HRR.out _ H.out.to).mono ?_; rintro e w5 ⟨l2, rfl, hb5, hl2⟩
    replace H := Lib.hid (H.out.bel hb5); (try simp only [List.set_cons_zero, List.set_cons_succ, List.cons_append, List.nil_append, List.eraseIdx_cons_zero, List.eraseIdx_cons_succ, List.setIfInBounds_toArray, World.size_alloc, selR, List.getD_cons_zero, List.getD_cons_succ] at H)
    obtain ⟨hl2c, hl2r⟩ := hl2 L rfl
    have HLR := Lib.hid (fun W (hb : Bel w5 W) => hl2r.mono hb)
    have HLC := Lib.hid hl2c
    clear hb5 HRR hl2 hl2c hl2r
    rw [show (some L).isSome = true from rfl]
    go_wp2_with fail
    refine (HSW.out _ (H.out.at_ 1 rfl)).mono ?_; rintro e w6 ⟨rfl, hb6⟩
    replace H := Lib.hid (H.out.bel hb6); (try simp only [List.set_cons_zero, List.set_cons_succ, List.cons_append, List.nil_append, List.eraseIdx_cons_zero, List.eraseIdx_cons_succ, List.setIfInBounds_toArray, World.size_alloc, selR, List.getD_cons_zero, List.getD_cons_succ] at H)
    clear HSW
    go_wp2_with fail
    refine (anodes_any b z _ HZ1.out (H.out.at_ 1 rfl)).mono ?_; rintro e w7 ⟨l3, rfl, hl3c, hl3r, hb7⟩
    replace H := Lib.hid (H.out.bel hb7); (try simp only [List.set_cons_zero, List.set_cons_succ, List.cons_append, List.nil_append, List.eraseIdx_cons_zero, List.eraseIdx_cons_succ, List.setIfInBounds_toArray, World.size_alloc, selR, List.getD_cons_zero, List.getD_cons_succ] at H)
    have HL3 := Lib.hid hl3c
    go_wp2_with fail
    refine (rall24_any l3 l2 _ hl3r (HLR.out _ (hb6.trans hb7)) (by rw [HL3.out, HZC.out, HLC.out])).mono ?_; rintro e w8 ⟨rfl, hb8⟩
    replace H := Lib.hid (H.out.bel hb8); (try simp only [List.set_cons_zero, List.set_cons_succ, List.cons_append, List.nil_append, List.eraseIdx_cons_zero, List.eraseIdx_cons_succ, List.setIfInBounds_toArray, World.size_alloc, selR, List.getD_cons_zero, List.getD_cons_succ] at H)
    clear hb6 hb7 hb8 hl3c hl3r
    go_wp2_with fail
    refine (awake34_any _).mono ?_; rintro e wz ⟨rfl, hbz⟩
    replace H := Lib.hid (H.out.bel hbz)
    go_wp2_with fail
    go_ret
    exact ⟨rfl, H.out.to⟩
theorem walk_streamReads (w : World) (sh : Shp) (hs : sh.rd w) (b : ByteArray) (hb : b.size ≤ 9223372036854775807) (i : Int) (wi : (Lit.int .i64 i).wf = true) :
    Calls Try.prog 7 #[.agg sh.cs, .string b, .int .i64 i] w fun e w' => e = .returned (.bool true) ∧ Bel w w' := by
  obtain ⟨⟨l⟩⟩ := b
  exact walkl_streamReads w sh hs l (by simpa [ByteArray.size] using hb) i wi

end Go.Proofs.Ytlclllkjnhgbjaa
