/- ask.put. -/
import Derived.Test.YtigjghfonpfdlaaAskM
import Derived.Test.YtigjghfonpfdlaaAskP
namespace Go.Proofs.Ytigjghfonpfdlaa
open Go.RowKit
set_option linter.unusedVariables false
set_option linter.unusedSimpArgs false

theorem tputs_le {ts : List (List UInt8)} : ∀ (was : List UInt8), (∀ t ∈ ts, t.length ≤ 16) → (tputs was ts).length ≤ 34 * ts.length := by
  induction ts with
  | nil => intro was _; exact Nat.le_refl 0
  | cons a r ih =>
    intro was h
    have h1 := ih a (fun t ht => h t (List.mem_cons_of_mem _ ht))
    have h2 := h a (List.mem_cons_self ..)
    have h3 := nput_le9 (alike was a)
    have h4 := nput_le9 (a.drop (alike was a)).length
    rw [tputs]
    unfold ptext
    simp only [List.length_append, List.length_cons, List.length_drop] at *
    omega
theorem tput_le {ts : List (List UInt8)} (h : rowErr ts = 0) : (tput ts).length ≤ 9 + 34 * ts.length := by
  have h1 := tputs_le (ts := ts) [] (fun t ht => rowErr_len h ht)
  have h2 := nput_le9 ts.length
  unfold tput
  rw [List.length_append]
  omega
theorem ptext_le {l : List UInt8} {m : Nat} (h : l.length ≤ m) : (ptext l).length ≤ 9 + m := by
  have := nput_le9 l.length
  unfold ptext
  rw [List.length_append]
  omega
/-- What a pick's bytes need. -/
structure PutOk (p : PC) : Prop where
  f : p.f = 0 ∨ (p.f = 1 ∧ p.lo.length ≤ 16 ∧ p.hi.length ≤ 16) ∨ (p.f = 2 ∧ rowErr p.set = 0 ∧ p.set.length ≤ 200)
  b : 0 ≤ p.by_ ∧ p.by_ ≤ 1000000
  t : 0 ≤ p.t ∧ p.t ≤ 1000000
theorem PickOk.put {d : DC} {p : PC} (hd : dimErr d = 0) (h : PickOk d p) : PutOk p := by
  obtain ⟨_, d1, d2, _⟩ := dimErr_zero hd
  refine ⟨?_, ?_, ?_⟩
  · rcases h.f with h | h | h
    · exact .inl h.1
    · exact .inr (.inl ⟨h.1, h.2.2.1, h.2.2.2.1⟩)
    · obtain ⟨h1, _, _, h2, _, tr, h3, h4⟩ := h
      obtain ⟨a, ha⟩ := allOk_mem (dimFrom_ok (dimErr_zero hd).2.2.2) (List.mem_of_getElem? h3)
      have h5 := (tierErr_zero ha).2.2.1
      have h6 := set_len h2 h4
      exact .inr (.inr ⟨h1, h2, by omega⟩)
  · rcases h.b with h | h <;> omega
  · rcases h.f with h | h | h
    · omega
    · omega
    · obtain ⟨h1, _, _, h2, h7, tr, h3, h4⟩ := h
      have := (List.getElem?_eq_some_iff.1 h3).1
      omega
theorem askErr_put {s : SC} {q : List PC} (h : askErr s q = 0) : ∀ p ∈ q, PutOk p := fun p hp => by
  obtain ⟨h1, h2, h3⟩ := askErr_zero h
  obtain ⟨k, hk⟩ := List.getElem?_of_mem hp
  have hk1 := (List.getElem?_eq_some_iff.1 hk).1
  obtain ⟨d, hd⟩ : ∃ d, s.dims[k]? = some d := ⟨_, List.getElem?_eq_getElem (by omega)⟩
  exact (pickErr_zero (picksErr_ok h3 h2 k d p hd hk)).put ((schErr_zero h1).2.2.1 d (List.mem_of_getElem? hd))
theorem pickPut_le {p : PC} (h : PutOk p) : (pickPut p).length ≤ 7000 := by
  have h1 := nput_le9 p.f.toNat
  have h2 := nput_le9 p.t.toNat
  have h3 := nput_le9 (if p.g = true then p.by_.toNat + 1 else 0)
  unfold pickPut
  simp only [List.length_append]
  rcases h.f with h | ⟨h, h4, h5⟩ | ⟨h, h4, h5⟩
  · rw [if_neg (by omega), if_neg (by omega)]
    simp only [List.length_nil]
    omega
  · have h6 := ptext_le h4
    have h7 := ptext_le h5
    rw [if_pos h]
    simp only [List.length_append]
    omega
  · have h6 := tput_le h4
    rw [if_neg (by omega), if_pos h]
    simp only [List.length_append]
    omega

set_option maxRecDepth 100000 in
set_option maxHeartbeats 1000000 in
theorem pickput_any (p : Pk) (w : World) (hp : p.rd w) (h : PutOk p.con) :
    Calls Try.prog 59 #[.agg p.cs] w fun e w' => e = .returned (.string ⟨(pickPut p.con).toArray⟩) ∧ Bel w w' := by
  have HP := Lib.hid hp.set
  have hsl : Hid (p.set.l.length = p.set.n) := hp.set.len
  have H := Lib.hid ((SL.start No w).alloc p.cs 33)
  (try simp only [List.set_cons_zero, List.set_cons_succ, List.cons_append, List.nil_append, List.eraseIdx_cons_zero, List.eraseIdx_cons_succ, List.setIfInBounds_toArray, World.size_alloc, selR, List.getD_cons_zero, List.getD_cons_succ] at H)
  obtain ⟨pf, pt, lo, hi, ⟨A3, n3, c3, set⟩, g, pb⟩ := p
  obtain ⟨hf, ⟨hb0, hb1⟩, ⟨ht0, ht1⟩⟩ := h
  simp only [Pk.cs, Pk.con] at *
  clear hp
  have hb2 : I64 (pb + 1) := by unfold I64; omega
  have hq1 := nput_le9 pt.toNat
  have hq2 := nput_le9 (if g = true then pb.toNat + 1 else 0)
  have hq3 := nput_le9 (pb.toNat + 1)
  have hq4 := nput_le9 0
  have wpb : IntKind.i64.wrap (pb + 1) = pb + 1 := IntWalk.i64_in _ (by omega)
  have cc0 := (H.out.blk 0 rfl).cell 0; simp only [List.getElem?_toArray, List.getElem?_cons_zero, List.getElem?_cons_succ] at cc0
  rcases hf with rfl | ⟨rfl, hlo, hhi⟩ | ⟨rfl, hr, hn⟩
  · go_enter Try.func59, Try.ntmps59
    go_wp2_with fail
    refine (putNum_any 0 _ (by omega) (by omega)).mono ?_; rintro e w1 ⟨rfl, hb1⟩
    replace H := Lib.hid (H.out.bel hb1); (try simp only [List.set_cons_zero, List.set_cons_succ, List.cons_append, List.nil_append, List.eraseIdx_cons_zero, List.eraseIdx_cons_succ, List.setIfInBounds_toArray, World.size_alloc, selR, List.getD_cons_zero, List.getD_cons_succ] at H)
    clear hb1
    clear cc0
    have cc0 := (H.out.blk 0 rfl).cell 0; simp only [List.getElem?_toArray, List.getElem?_cons_zero, List.getElem?_cons_succ] at cc0
    have cc5 := (H.out.blk 0 rfl).cell 5; simp only [List.getElem?_toArray, List.getElem?_cons_zero, List.getElem?_cons_succ] at cc5
    have cc6 := (H.out.blk 0 rfl).cell 6; simp only [List.getElem?_toArray, List.getElem?_cons_zero, List.getElem?_cons_succ] at cc6
    cases g with
    | true =>
      go_wp2_with fail
      refine (putNum_any (pb + 1) _ (by omega) (by omega)).mono ?_; rintro e w9 ⟨rfl, hb9⟩
      replace H := Lib.hid (H.out.bel hb9); (try simp only [List.set_cons_zero, List.set_cons_succ, List.cons_append, List.nil_append, List.eraseIdx_cons_zero, List.eraseIdx_cons_succ, List.setIfInBounds_toArray, World.size_alloc, selR, List.getD_cons_zero, List.getD_cons_succ] at H)
      rw [show (pb + 1).toNat = pb.toNat + 1 by omega]
      go_wp2
      go_ret
      refine ⟨?_, H.out.to⟩
      unfold pickPut
      simp [str_append]
    | false =>
      go_wp2_with fail
      refine (putNum_any 0 _ (by omega) (by omega)).mono ?_; rintro e w9 ⟨rfl, hb9⟩
      replace H := Lib.hid (H.out.bel hb9); (try simp only [List.set_cons_zero, List.set_cons_succ, List.cons_append, List.nil_append, List.eraseIdx_cons_zero, List.eraseIdx_cons_succ, List.setIfInBounds_toArray, World.size_alloc, selR, List.getD_cons_zero, List.getD_cons_succ] at H)
      go_wp2
      go_ret
      refine ⟨?_, H.out.to⟩
      unfold pickPut
      simp [str_append]
  · have hp1 := ptext_le hlo
    have hp2 := ptext_le hhi
    have hq5 := nput_le9 1
    go_enter Try.func59, Try.ntmps59
    go_wp2_with fail
    refine (putNum_any 1 _ (by omega) (by omega)).mono ?_; rintro e w1 ⟨rfl, hb1⟩
    replace H := Lib.hid (H.out.bel hb1); (try simp only [List.set_cons_zero, List.set_cons_succ, List.cons_append, List.nil_append, List.eraseIdx_cons_zero, List.eraseIdx_cons_succ, List.setIfInBounds_toArray, World.size_alloc, selR, List.getD_cons_zero, List.getD_cons_succ] at H)
    clear hb1
    clear cc0
    have cc0 := (H.out.blk 0 rfl).cell 0; simp only [List.getElem?_toArray, List.getElem?_cons_zero, List.getElem?_cons_succ] at cc0
    have cc1 := (H.out.blk 0 rfl).cell 1; simp only [List.getElem?_toArray, List.getElem?_cons_zero, List.getElem?_cons_succ] at cc1
    have cc2 := (H.out.blk 0 rfl).cell 2; simp only [List.getElem?_toArray, List.getElem?_cons_zero, List.getElem?_cons_succ] at cc2
    have cc3 := (H.out.blk 0 rfl).cell 3; simp only [List.getElem?_toArray, List.getElem?_cons_zero, List.getElem?_cons_succ] at cc3
    go_upto_region 4 with fail
    have f_cc1 := fun u : Over w1 => Over.cell cc1 u
    have f_cc2 := fun u : Over w1 => Over.cell cc2 u
    have f_cc3 := fun u : Over w1 => Over.cell cc3 u
    refine wp_region_over (by kernel_rfl) (by kernel_rfl) ?_
    (try simp only [Act.put, List.setIfInBounds_toArray, List.set_cons_zero, List.set_cons_succ])
    repeat (go_big_quiet_step ((first | (go_at_call 75; rename_i u; exact calls_over (putNum_any pt _ (by omega) (by omega))) | (go_at_call 101; rename_i u; exact calls_over (putText_any _ _ (by omega))))))
    refine wpQuiet_nil ?_
    rintro w5 ⟨⟨_, hw5⟩, rfl⟩
    (try dsimp only)
    replace H := Lib.hid (H.out.bel hw5); (try simp only [List.set_cons_zero, List.set_cons_succ, List.cons_append, List.nil_append, List.eraseIdx_cons_zero, List.eraseIdx_cons_succ, List.setIfInBounds_toArray, World.size_alloc, selR, List.getD_cons_zero, List.getD_cons_succ] at H)
    clear f_cc1 f_cc2 f_cc3 cc1 cc2 cc3
    clear cc0
    have cc5 := (H.out.blk 0 rfl).cell 5; simp only [List.getElem?_toArray, List.getElem?_cons_zero, List.getElem?_cons_succ] at cc5
    have cc6 := (H.out.blk 0 rfl).cell 6; simp only [List.getElem?_toArray, List.getElem?_cons_zero, List.getElem?_cons_succ] at cc6
    cases g with
    | true =>
      go_wp2_with fail
      refine (putNum_any (pb + 1) _ (by omega) (by omega)).mono ?_; rintro e w9 ⟨rfl, hb9⟩
      replace H := Lib.hid (H.out.bel hb9); (try simp only [List.set_cons_zero, List.set_cons_succ, List.cons_append, List.nil_append, List.eraseIdx_cons_zero, List.eraseIdx_cons_succ, List.setIfInBounds_toArray, World.size_alloc, selR, List.getD_cons_zero, List.getD_cons_succ] at H)
      rw [show (pb + 1).toNat = pb.toNat + 1 by omega]
      go_wp2
      go_ret
      refine ⟨?_, H.out.to⟩
      unfold pickPut
      simp [str_append]
    | false =>
      go_wp2_with fail
      refine (putNum_any 0 _ (by omega) (by omega)).mono ?_; rintro e w9 ⟨rfl, hb9⟩
      replace H := Lib.hid (H.out.bel hb9); (try simp only [List.set_cons_zero, List.set_cons_succ, List.cons_append, List.nil_append, List.eraseIdx_cons_zero, List.eraseIdx_cons_succ, List.setIfInBounds_toArray, World.size_alloc, selR, List.getD_cons_zero, List.getD_cons_succ] at H)
      go_wp2
      go_ret
      refine ⟨?_, H.out.to⟩
      unfold pickPut
      simp [str_append]
  · have hp1 := tput_le hr
    have hq5 := nput_le9 2
    have hsn := hsl.out
    have HV : Hid (tputV set = (tput set, 0)) := by show _ = _; unfold tputV; rw [if_pos hr]
    go_enter Try.func59, Try.ntmps59
    go_wp2_with fail
    refine (putNum_any 2 _ (by omega) (by omega)).mono ?_; rintro e w1 ⟨rfl, hb1⟩
    replace H := Lib.hid (H.out.bel hb1); (try simp only [List.set_cons_zero, List.set_cons_succ, List.cons_append, List.nil_append, List.eraseIdx_cons_zero, List.eraseIdx_cons_succ, List.setIfInBounds_toArray, World.size_alloc, selR, List.getD_cons_zero, List.getD_cons_succ] at H)
    clear hb1
    clear cc0
    have cc0 := (H.out.blk 0 rfl).cell 0; simp only [List.getElem?_toArray, List.getElem?_cons_zero, List.getElem?_cons_succ] at cc0
    have cc4 := (H.out.blk 0 rfl).cell 4; simp only [List.getElem?_toArray, List.getElem?_cons_zero, List.getElem?_cons_succ] at cc4
    go_wp2_with fail
    refine (tput_any A3 n3 c3 set _ (HP.out.mono H.out.to).texts (HP.out.mono H.out.to).txok (by omega)).mono ?_; rintro e w4 ⟨rfl, hb4⟩
    replace H := Lib.hid (H.out.bel hb4); (try simp only [List.set_cons_zero, List.set_cons_succ, List.cons_append, List.nil_append, List.eraseIdx_cons_zero, List.eraseIdx_cons_succ, List.setIfInBounds_toArray, World.size_alloc, selR, List.getD_cons_zero, List.getD_cons_succ] at H)
    rw [HV.out]
    clear hb4 cc0 cc4
    have cc1 := (H.out.blk 0 rfl).cell 1; simp only [List.getElem?_toArray, List.getElem?_cons_zero, List.getElem?_cons_succ] at cc1
    go_wp2_with fail
    refine (putNum_any pt _ (by omega) (by omega)).mono ?_; rintro e w6 ⟨rfl, hb1⟩
    replace H := Lib.hid (H.out.bel hb1); (try simp only [List.set_cons_zero, List.set_cons_succ, List.cons_append, List.nil_append, List.eraseIdx_cons_zero, List.eraseIdx_cons_succ, List.setIfInBounds_toArray, World.size_alloc, selR, List.getD_cons_zero, List.getD_cons_succ] at H)
    clear hb1
    clear cc1
    have cc5 := (H.out.blk 0 rfl).cell 5; simp only [List.getElem?_toArray, List.getElem?_cons_zero, List.getElem?_cons_succ] at cc5
    have cc6 := (H.out.blk 0 rfl).cell 6; simp only [List.getElem?_toArray, List.getElem?_cons_zero, List.getElem?_cons_succ] at cc6
    cases g with
    | true =>
      go_wp2_with fail
      refine (putNum_any (pb + 1) _ (by omega) (by omega)).mono ?_; rintro e w9 ⟨rfl, hb9⟩
      replace H := Lib.hid (H.out.bel hb9); (try simp only [List.set_cons_zero, List.set_cons_succ, List.cons_append, List.nil_append, List.eraseIdx_cons_zero, List.eraseIdx_cons_succ, List.setIfInBounds_toArray, World.size_alloc, selR, List.getD_cons_zero, List.getD_cons_succ] at H)
      rw [show (pb + 1).toNat = pb.toNat + 1 by omega]
      go_wp2
      go_ret
      refine ⟨?_, H.out.to⟩
      unfold pickPut
      simp [str_append]
    | false =>
      go_wp2_with fail
      refine (putNum_any 0 _ (by omega) (by omega)).mono ?_; rintro e w9 ⟨rfl, hb9⟩
      replace H := Lib.hid (H.out.bel hb9); (try simp only [List.set_cons_zero, List.set_cons_succ, List.cons_append, List.nil_append, List.eraseIdx_cons_zero, List.eraseIdx_cons_succ, List.setIfInBounds_toArray, World.size_alloc, selR, List.getD_cons_zero, List.getD_cons_succ] at H)
      go_wp2
      go_ret
      refine ⟨?_, H.out.to⟩
      unfold pickPut
      simp [str_append]

end Go.Proofs.Ytigjghfonpfdlaa
