/- Sizes of nodes; cells read. -/
import Derived.Test.YtlclllkjnhgbjaaCelP
import Derived.Test.YtlclllkjnhgbjaaSep
import Derived.Test.YtlclllkjnhgbjaaBb
import Derived.Test.YtlclllkjnhgbjaaAreB
import Derived.Test.YtlclllkjnhgbjaaBa
namespace Go.Proofs.Ytlclllkjnhgbjaa
open Go.RowKit
set_option linter.unusedVariables false
set_option linter.unusedSimpArgs false


def szN (o : Option Nat) : Int := ((o.getD 0 : Nat) : Int)
def szOk (o : Option Nat) : Bool := o.isSome
def szErr (o : Option Nat) : Int := if o.isSome then 0 else 15
theorem pcell_ok {nd : Nat} {ms dim key : Int} {l r : List UInt8} {c : Cl} (h : pcell nd ms dim key l = .ok (c, r)) (hk : I64 key) : c.ok ∧ r.length ≤ l.length ∧ c.key = key := by
  unfold pcell at h
  split at h
  · cases hp : pag ms l with
    | error e => rw [hp] at h; cases h
    | ok q =>
      obtain ⟨a, r2⟩ := q
      rw [hp, pbind2_ok] at h
      injection h with h
      injection h with h1 h2
      subst h1
      subst h2
      obtain ⟨e1, _, e3⟩ := pag_back hp
      exact ⟨⟨hk, z_i64, e3⟩, by rw [e1, List.length_append]; omega, rfl⟩
  · cases hp : pnum 1048576 l with
    | error e => rw [hp] at h; cases h
    | ok q =>
      obtain ⟨a, r2⟩ := q
      rw [hp, pbind2_ok] at h
      injection h with h
      injection h with h1 h2
      subst h1
      subst h2
      have := pnum_ok hp
      exact ⟨⟨hk, by unfold I64; show _ ≤ (a : Int) ∧ (a : Int) ≤ _; omega, ag_zero_ok⟩, by omega, rfl⟩
theorem pcell_err {nd : Nat} {ms dim key k : Int} {l : List UInt8} (h : pcell nd ms dim key l = .error k) : k = 3 ∨ k = 5 := by
  unfold pcell at h
  split at h
  · cases hp : pag ms l with
    | error e => rw [hp] at h; injection h with h; subst h; exact .inl (pag_err hp)
    | ok q => rw [hp] at h; cases h
  · cases hp : pnum 1048576 l with
    | error e => rw [hp] at h; injection h with h; subst h; exact pnum_err hp
    | ok q => rw [hp] at h; cases h

set_option maxRecDepth 100000 in
set_option maxHeartbeats 1000000 in
theorem csize_any (l : List UInt8) (w : World) (hl : l.length ≤ 1000001) :
    Calls Try.prog 18 #[.string ⟨l.toArray⟩] w fun e w' => e = .returned (.tuple #[.int .i64 (szN (nodeSize l)), .int .i64 (szErr (nodeSize l))]) ∧ Bel w w' := by
  obtain ⟨n, z, ok, hn⟩ : ∃ n z ok, ntake l = (n, z, ok) := ⟨_, _, _, rfl⟩
  have hz := (ntake_size l).2.1
  have hlt := ntake_lt l
  rw [hn] at hz hlt
  simp only at hz hlt
  have HT := Lib.hid (fun w' => take_val hn w' hl)
  obtain ⟨R, hR⟩ : ∃ R, R = nodeSize l := ⟨_, rfl⟩
  have HR : Hid (R = if ok = true ∧ n ≤ 1048576 then some (n + z) else none) := by show _ = _; rw [hR]; unfold nodeSize; rw [hn]
  rw [← hR]
  clear hR hn
  go_enter Try.func18, Try.ntmps18
  go_wp2_with fail
  refine (HT.out _).mono ?_; rintro e w1 ⟨rfl, hb1⟩
  have HB := Lib.hid hb1
  clear hb1 HT
  cases ok with
  | false =>
    have HR2 : Hid (R = none) := by show _ = _; rw [HR.out, if_neg (by simp)]
    clear HR
    go_wp2_with fail
    go_ret2
    rw [HR2.out]
    exact ⟨rfl, HB.out⟩
  | true =>
    by_cases h : n ≤ 1048576
    · have HR2 : Hid (R = some (n + z)) := by show _ = _; rw [HR.out, if_pos ⟨rfl, h⟩]
      have d1 : decide ((1048576 : Int) < (n : Int)) = false := by simp; omega
      have d2 : decide (1048576 < n) = false := by simp; omega
      have i0 : (0 : Int) ≤ n := by omega
      have i1 : (n : Int) ≤ 1048576 := by omega
      have i2 : (z : Int) ≤ 9 := by omega
      clear HR h hlt hz
      go_wp2_with fail
      go_ret2
      rw [HR2.out]
      exact ⟨rfl, HB.out⟩
    · have HR2 : Hid (R = none) := by show _ = _; rw [HR.out, if_neg (by omega)]
      have d1 : decide ((1048576 : Int) < (n : Int)) = true := by simp; omega
      have d2 : decide (1048576 < n) = true := by simp; omega
      clear HR h hz
      go_wp2_with fail
      go_ret2
      rw [HR2.out]
      exact ⟨rfl, HB.out⟩

set_option maxRecDepth 100000 in
set_option maxHeartbeats 1000000 in
theorem rcsize_any (l : List UInt8) (w : World) (hl : l.length ≤ 1000001) :
    Calls Try.prog 19 #[.string ⟨l.toArray⟩] w fun e w' => e = .returned (.tuple #[.int .i64 (szN (nodeSize l)), .bool (szOk (nodeSize l))]) ∧ Bel w w' := by
  obtain ⟨n, z, ok, hn⟩ : ∃ n z ok, ntake l = (n, z, ok) := ⟨_, _, _, rfl⟩
  have hz := (ntake_size l).2.1
  have hlt := ntake_lt l
  rw [hn] at hz hlt
  simp only at hz hlt
  have HT := Lib.hid (fun w' => rtake_val hn w' hl)
  obtain ⟨R, hR⟩ : ∃ R, R = nodeSize l := ⟨_, rfl⟩
  have HR : Hid (R = if ok = true ∧ n ≤ 1048576 then some (n + z) else none) := by show _ = _; rw [hR]; unfold nodeSize; rw [hn]
  rw [← hR]
  clear hR hn
  go_enter Try.func19, Try.ntmps19
  go_wp2_with fail
  refine (HT.out _).mono ?_; rintro e w1 ⟨rfl, hb1⟩
  have HB := Lib.hid hb1
  clear hb1 HT
  cases ok with
  | false =>
    have HR2 : Hid (R = none) := by show _ = _; rw [HR.out, if_neg (by simp)]
    clear HR
    go_wp2_with fail
    go_ret2
    rw [HR2.out]
    exact ⟨rfl, HB.out⟩
  | true =>
    by_cases h : n ≤ 1048576
    · have HR2 : Hid (R = some (n + z)) := by show _ = _; rw [HR.out, if_pos ⟨rfl, h⟩]
      have d1 : decide ((1048576 : Int) < (n : Int)) = false := by simp; omega
      have d2 : decide (1048576 < n) = false := by simp; omega
      have i0 : (0 : Int) ≤ n := by omega
      have i1 : (n : Int) ≤ 1048576 := by omega
      have i2 : (z : Int) ≤ 9 := by omega
      clear HR h hlt hz
      go_wp2_with fail
      go_ret2
      rw [HR2.out]
      exact ⟨rfl, HB.out⟩
    · have HR2 : Hid (R = none) := by show _ = _; rw [HR.out, if_neg (by omega)]
      have d1 : decide ((1048576 : Int) < (n : Int)) = true := by simp; omega
      have d2 : decide (1048576 < n) = true := by simp; omega
      clear HR h hz
      go_wp2_with fail
      go_ret2
      rw [HR2.out]
      exact ⟨rfl, HB.out⟩

set_option maxRecDepth 100000 in
set_option maxHeartbeats 2000000 in
theorem cread_any (b : Nat) (s l : List UInt8) (sh : Shp) (d key : Int) (w : World) (hR : Rdr w b s l) (hs : ∀ w', w.grownBy w' (some b) → sh.rd w') (hd : I64 d) (hk : I64 key) :
    Calls Try.prog 81 #[.pointer (some ⟨b, 0, none⟩), .agg sh.cs, .int .i64 d, .int .i64 key] w (RPost b s (pcell sh.sz.n sh.ms d key l) (fun c => .agg c.cs) w) := by
  have HL := Lib.hid (fun w' (hb : w.grownBy w' (some b)) => last_any sh d w' (hs w' hb) hd)
  have hms := (hs w (grown_of_bel (Bel.refl w) _)).ms
  have hbw := hR.lt
  have H := Lib.hid (((SL.rdr1 w hR).alloc sh.cs 24).alloc #[.int .i64 0, .int .i64 0, .int .i64 0, .int .i64 0, .int .i64 0, .int .i64 0, .int .i64 0, .int .i64 0, .int .i64 0, .int .i64 0, .int .i64 0, .int .i64 0] 32)
  (try simp only [List.set_cons_zero, List.set_cons_succ, List.cons_append, List.nil_append, List.eraseIdx_cons_zero, List.eraseIdx_cons_succ, List.setIfInBounds_toArray, World.size_alloc, selR, List.getD_cons_zero, List.getD_cons_succ] at H)
  have hcs : sh.cs = #[.slice sh.sz.A sh.sz.n sh.sz.c, .int .i64 sh.ms] := rfl
  have HCS := Lib.hid hcs
  obtain ⟨R, hRR⟩ : ∃ R, R = pcell sh.sz.n sh.ms d key l := ⟨_, rfl⟩
  have HRR : Hid (R = if d = (sh.sz.n : Int) - 1 then pbind2 (pag sh.ms l) (fun a => ⟨key, 0, a⟩) else pbind2 (pnum 1048576 l) (fun n => ⟨key, (n : Int), .zero⟩)) := hRR
  rw [← hRR]
  clear hRR hcs hR hs
  go_enter Try.func81, Try.ntmps81
  go_upto_region 1 with fail
  rw [← HCS.out] at *
  generalize w.heap.size + 1 = y at *
  generalize w.heap.size = x at *
  generalize World.alloc (World.alloc _ _) _ = w1 at *
  go_wp2_with ((with_reducible show wpList _ _ _ (⟨some 9, _, _, _, _, _⟩ :: _) _ _); (refine wpList_load_blk rfl rowShp2 (.tmp 5) rfl _ rfl (H.out.blk 1 rfl) rfl ?_))
  refine (HL.out _ H.out.fr.grown).mono ?_; rintro e w2 ⟨rfl, hb2⟩
  replace H := Lib.hid (H.out.bel hb2); (try simp only [List.set_cons_zero, List.set_cons_succ, List.cons_append, List.nil_append, List.eraseIdx_cons_zero, List.eraseIdx_cons_succ, List.setIfInBounds_toArray, World.size_alloc, selR, List.getD_cons_zero, List.getD_cons_succ] at H)
  clear hb2 HL
  cases hl : (d == (sh.sz.n : Int) - 1) with
  | true =>
    have hR2 : Hid (R = pbind2 (pag sh.ms l) (fun a => ⟨key, 0, a⟩)) := by show _ = _; rw [HRR.out, if_pos (by simpa using hl)]
    have HT := Lib.hid (fun w (hr : Rdr w b s l) => aread_any b s l sh.ms w hr hms)
    have cm : w2.cell? ⟨x, 1, none⟩ = some (.int .i64 sh.ms) := (H.out.blk 1 rfl).cell 1
    clear HRR
    go_wp2_with fail
    clear cm
    cases hx : pag sh.ms l with
    | error e1 =>
      have HE : Hid (R = .error e1) := by show _ = _; rw [hR2.out, hx]; rfl
      rw [hx] at HT
      clear hx
      refine (HT.out _ (H.out.rdr 0 rfl)).mono ?_; rintro e w3 ⟨rfl, hg, l3, hr⟩
      replace H := Lib.hid (H.out.setRdr 0 rfl hg hr); (try simp only [List.set_cons_zero, List.set_cons_succ, List.cons_append, List.nil_append, List.eraseIdx_cons_zero, List.eraseIdx_cons_succ, List.setIfInBounds_toArray, World.size_alloc, selR, List.getD_cons_zero, List.getD_cons_succ] at H)
      clear hg hr
      go_wp2_with fail
      refine ⟨rfl, ?_⟩
      rw [HE.out]
      exact ⟨rfl, H.out.fr.grown, l3, H.out.rdr 0 rfl⟩
    | ok q =>
      obtain ⟨a, r⟩ := q
      have HN : Hid (R = .ok (⟨key, 0, a⟩, r)) := by show _ = _; rw [hR2.out, hx]; rfl
      rw [hx] at HT
      clear hx
      refine (HT.out _ (H.out.rdr 0 rfl)).mono ?_; rintro e w3 ⟨rfl, hg, hr⟩
      replace H := Lib.hid (H.out.setRdr 0 rfl hg hr); (try simp only [List.set_cons_zero, List.set_cons_succ, List.cons_append, List.nil_append, List.eraseIdx_cons_zero, List.eraseIdx_cons_succ, List.setIfInBounds_toArray, World.size_alloc, selR, List.getD_cons_zero, List.getD_cons_succ] at H)
      clear hg hr HT
      have hbd : ∀ w : World, (Instr.build 32 #[(0, .int .i64 key), (2, .agg a.cs)]).run Try.prog w = .ok (.agg (Cl.mk key 0 a).cs) w := fun _ => by kernel_rfl
      go_wp2_with (first | ((with_reducible show wpList _ _ _ (⟨some 17, _, _, _, _, _⟩ :: _) _ _); refine wpList_build2N rfl (.tmp 12) (.tmp 16) rfl rfl rfl hbd ?_) | ((with_reducible show wpList _ _ _ (⟨_, .store _ (.tmp 8) _, _, _, _, _⟩ :: _) _ _); (refine wpList_store_blk rfl rowCl (.tmp 8) (.tmp 17) rfl _ rfl (H.out.blk 2 rfl) rfl ((Cl.mk key 0 a).cs) rfl rfl (cl_one _) ?_; intro wq bq hgq; replace H := Lib.hid (H.out.setBlk 2 rfl hgq bq); (try simp only [List.set_cons_zero, List.set_cons_succ, List.cons_append, List.nil_append, List.eraseIdx_cons_zero, List.eraseIdx_cons_succ, List.setIfInBounds_toArray, World.size_alloc, selR, List.getD_cons_zero, List.getD_cons_succ] at H); clear hgq bq)))
      refine bodyPost_ret (results_blk1 rfl rowCl rfl (H.out.blk 2 rfl) rfl) rfl ?_
      rw [HN.out]
      exact ⟨rfl, H.out.fr.grown, H.out.rdr 0 rfl⟩
  | false =>
    have hR2 : Hid (R = pbind2 (pnum 1048576 l) (fun n => ⟨key, (n : Int), .zero⟩)) := by show _ = _; rw [HRR.out, if_neg (by simpa using hl)]
    have HT := Lib.hid (fun w (hr : Rdr w b s l) => num_any b s l 1048576 w hr (by omega) (by omega))
    clear HRR
    go_wp2_with fail
    cases hx : pnum 1048576 l with
    | error e1 =>
      have HE : Hid (R = .error e1) := by show _ = _; rw [hR2.out, hx]; rfl
      rw [hx] at HT
      clear hx
      refine (HT.out _ (H.out.rdr 0 rfl)).mono ?_; rintro e w3 ⟨rfl, hg, l3, hr⟩
      replace H := Lib.hid (H.out.setRdr 0 rfl hg hr); (try simp only [List.set_cons_zero, List.set_cons_succ, List.cons_append, List.nil_append, List.eraseIdx_cons_zero, List.eraseIdx_cons_succ, List.setIfInBounds_toArray, World.size_alloc, selR, List.getD_cons_zero, List.getD_cons_succ] at H)
      clear hg hr
      go_wp2_with fail
      refine ⟨rfl, ?_⟩
      rw [HE.out]
      exact ⟨rfl, H.out.fr.grown, l3, H.out.rdr 0 rfl⟩
    | ok q =>
      obtain ⟨a, r⟩ := q
      have HN : Hid (R = .ok (⟨key, (a : Int), .zero⟩, r)) := by show _ = _; rw [hR2.out, hx]; rfl
      rw [hx] at HT
      clear hx
      refine (HT.out _ (H.out.rdr 0 rfl)).mono ?_; rintro e w3 ⟨rfl, hg, hr⟩
      replace H := Lib.hid (H.out.setRdr 0 rfl hg hr); (try simp only [List.set_cons_zero, List.set_cons_succ, List.cons_append, List.nil_append, List.eraseIdx_cons_zero, List.eraseIdx_cons_succ, List.setIfInBounds_toArray, World.size_alloc, selR, List.getD_cons_zero, List.getD_cons_succ] at H)
      clear hg hr HT
      have hbd : ∀ w : World, (Instr.build 32 #[(0, .int .i64 key), (1, .int .i64 (a : Nat))]).run Try.prog w = .ok (.agg (Cl.mk key (a : Nat) .zero).cs) w := fun _ => by kernel_rfl
      go_wp2_with (first | ((with_reducible show wpList _ _ _ (⟨some 21, _, _, _, _, _⟩ :: _) _ _); refine wpList_build2N rfl (.tmp 18) (.tmp 20) rfl rfl rfl hbd ?_) | ((with_reducible show wpList _ _ _ (⟨_, .store _ (.tmp 8) _, _, _, _, _⟩ :: _) _ _); (refine wpList_store_blk rfl rowCl (.tmp 8) (.tmp 21) rfl _ rfl (H.out.blk 2 rfl) rfl ((Cl.mk key (a : Nat) .zero).cs) rfl rfl (cl_one _) ?_; intro wq bq hgq; replace H := Lib.hid (H.out.setBlk 2 rfl hgq bq); (try simp only [List.set_cons_zero, List.set_cons_succ, List.cons_append, List.nil_append, List.eraseIdx_cons_zero, List.eraseIdx_cons_succ, List.setIfInBounds_toArray, World.size_alloc, selR, List.getD_cons_zero, List.getD_cons_succ] at H); clear hgq bq)))
      refine bodyPost_ret (results_blk1 rfl rowCl rfl (H.out.blk 2 rfl) rfl) rfl ?_
      rw [HN.out]
      exact ⟨rfl, H.out.fr.grown, H.out.rdr 0 rfl⟩

end Go.Proofs.Ytlclllkjnhgbjaa
