/- How an arena lies in memory; Add. -/
import Derived.Test.YtlclllkjnhgbjaaAreC
import Derived.Test.YtlclllkjnhgbjaaNodE
import Derived.Test.YtlclllkjnhgbjaaFocus
namespace Go.Proofs.Ytlclllkjnhgbjaa
open Go.RowKit
set_option linter.unusedVariables false
set_option linter.unusedSimpArgs false


theorem own_capA {w : World} {base : Nat} {e : TypeId} {size n : Nat} {v : Value} {xs : List Value} (h : w.ownsRow base e size v n xs) : ∀ A c, v = .slice A n c → c ≤ maxLen := by
  intro A c hv
  rcases h.2 with ⟨rfl, _⟩ | ⟨g, cap, cur, rfl, _, _, _, hc, _⟩
  · injection hv with _ _ h3; rw [← h3]; exact Nat.zero_le _
  · injection hv with _ _ h3; rw [← h3]; exact hc
theorem flat_vs {α : Type} [Cel α] (l : List (Row α)) : l.flatMap Cel.cells = l.map Row.v := flat_one Row.v l
theorem own_ok {α : Type} [Cel α] {w : World} {e : TypeId} {x : Row α} (h : w.ownsRow 0 e (Cel.size α) (.slice x.A x.n x.c) x.n (x.l.flatMap Cel.cells)) (ha : ∀ a ∈ x.l, Cel.ok w a) (hb : x.n * Cel.bytes α ≤ 140737488351232) : x.ok w := by
  obtain ⟨A, c, hv, hc⟩ := own_slice h
  have hk := own_capA h _ _ rfl
  injection hv with h1 h2 h3
  exact ⟨Rd.of_own h, ha, by rw [h3]; exact hc, hk, hb⟩
theorem nd1_one (n : Nd) : ∀ u ∈ n.cs.toList, u.oneCell' = true := fun u hu => Array.all_eq_true_iff_forall_mem.1 (nd_one n) u (by simpa using hu)
/-- What a node owns. -/
abbrev rNd (n : Nd) : Res := ⟨fun g => (rRow 44 1 (.slice n.ls.A n.ls.n n.ls.c) n.ls.n (n.ls.l.map Row.v)).D g ∨ (rListD rCs n.ls.l).D g,
  fun w => ((rRow 44 1 (.slice n.ls.A n.ls.n n.ls.c) n.ls.n (n.ls.l.map Row.v)).holds w ∧ (rListD rCs n.ls.l).holds w) ∧ (I64 n.dim ∧ n.all.ok) ∧ (∀ y ∈ n.ls.l, y.n ≤ 1000000 ∧ ∀ c ∈ y.l, c.ok) ∧ n.ls.n ≤ 1000000⟩
theorem SL.mkNd {S : Nat → Prop} {w0 w : World} {l : List Res} (h : SL S w0 w l) (i j : Nat) {n : Nd} (hij : i ≠ j) (hi : l[i]? = some (rRow 44 1 (.slice n.ls.A n.ls.n n.ls.c) n.ls.n (n.ls.l.map Row.v))) (hj : l[j]? = some (rListD rCs n.ls.l))
    (h1 : I64 n.dim ∧ n.all.ok) (h2 : ∀ y ∈ n.ls.l, y.n ≤ 1000000 ∧ ∀ c ∈ y.l, c.ok) (h3 : n.ls.n ≤ 1000000) : SL S w0 w ((l.set i (rNd n)).eraseIdx j) := by
  have a := h.get i hi
  have c := h.get j hj
  exact h.both i j hij hi hj (rNd n) ⟨fun g hg => hg.elim (a.1 g) (c.1 g), fun w' hs hk => ⟨⟨a.keep hs fun g hg => hk g (.inl hg), c.keep hs fun g hg => hk g (.inr hg)⟩, h1, h2, h3⟩⟩ (fun g hg => hg)
theorem nd_of_own {w : World} {n : Nd} (h : (rNd n).holds w) : n.rd w := by
  obtain ⟨⟨h1, h2⟩, ⟨h3, h4⟩, h5, h6⟩ := h.now
  have o1 : w.ownsRow 0 44 1 (.slice n.ls.A n.ls.n n.ls.c) n.ls.n (n.ls.l.map Row.v) := h1.now
  refine ⟨h3, ⟨by rw [flat_vs]; exact Rd.of_own o1, fun y hy => ?_, by omega⟩, h4, by omega⟩
  have o2 : w.ownsRow 0 32 12 (.slice y.A y.n y.c) y.n (y.l.flatMap Cel.cells) := (h2.now.1 y hy).now
  exact own_ok o2 (h5 y hy).2 (by show y.n * 96 ≤ _; have := (h5 y hy).1; omega)
/-- An arena. -/
structure Arn where
  sz : Row (Row Int)
  ms : Int
  nd : Row Nd
  most : Int
abbrev Arn.shp (x : Arn) : Shp := ⟨x.sz, x.ms⟩
abbrev Arn.cs (x : Arn) : Array Value := #[.slice x.sz.A x.sz.n x.sz.c, .int .i64 x.ms, .slice x.nd.A x.nd.n x.nd.c, .int .i64 x.most]
structure Arn.ok (x : Arn) : Prop where
  ms : I64 x.ms
  m0 : 0 ≤ x.most
  m1 : x.most ≤ 131072
  s1 : 1 ≤ x.sz.n
  s16 : x.sz.n ≤ 16
  sv : ∀ y ∈ x.sz.l, y.l.length ≤ 4 ∧ ∀ z ∈ y.l, I64 z
  nn : x.nd.n ≤ 131072
/-- What an arena owns. -/
abbrev arP (b : Nat) (x : Arn) : List Res := [rBlk b 117 x.cs, rRow 59 1 (.slice x.sz.A x.sz.n x.sz.c) x.sz.n (x.sz.l.map Row.v), rListD rIs x.sz.l, rRow 34 14 (.slice x.nd.A x.nd.n x.nd.c) x.nd.n (x.nd.l.flatMap Cel.cells), rListD rNd x.nd.l]
theorem ar_shp {w : World} {x : Arn} (ok : x.ok) (h1 : (rRow 59 1 (.slice x.sz.A x.sz.n x.sz.c) x.sz.n (x.sz.l.map Row.v)).holds w) (h2 : (rListD rIs x.sz.l).holds w) : x.shp.rd w := by
  have o1 : w.ownsRow 0 59 1 (.slice x.sz.A x.sz.n x.sz.c) x.sz.n (x.sz.l.map Row.v) := h1.now
  refine ⟨⟨by show Rd _ _ _ _ (x.sz.l.flatMap _); rw [flat_vs]; exact Rd.of_own o1, fun y hy => ?_, by have := ok.s16; show x.sz.n ≤ _; omega⟩, ok.ms⟩
  have o2 : w.ownsRow 0 3 1 (.slice y.A y.n y.c) y.n (y.l.map (Value.int .i64)) := (h2.now.1 y hy).now
  have hl : y.l.length = y.n := by have := o2.1; rw [List.length_map] at this; omega
  have h4 := (ok.sv y hy).1
  exact own_ok (by rw [flat_ints]; exact o2) (ok.sv y hy).2 (by show y.n * 8 ≤ _; omega)
theorem ar_nds {w : World} {x : Arn} (ok : x.ok) (h1 : (rRow 34 14 (.slice x.nd.A x.nd.n x.nd.c) x.nd.n (x.nd.l.flatMap Cel.cells)).holds w) (h2 : (rListD rNd x.nd.l).holds w) : x.nd.rd w := by
  have o1 : w.ownsRow 0 34 14 (.slice x.nd.A x.nd.n x.nd.c) x.nd.n (x.nd.l.flatMap Cel.cells) := h1.now
  exact ⟨Rd.of_own o1, fun y hy => nd_of_own (h2.now.1 y hy), by have := ok.nn; omega⟩
theorem arP_snoc {b : Nat} {x : Arn} {A : Option Addr} {k c : Nat} {n : Nd} : arP b ⟨x.sz, x.ms, ⟨A, k, c, x.nd.l ++ [n]⟩, x.most⟩ = [rBlk b 117 #[.slice x.sz.A x.sz.n x.sz.c, .int .i64 x.ms, .slice A k c, .int .i64 x.most], rRow 59 1 (.slice x.sz.A x.sz.n x.sz.c) x.sz.n (x.sz.l.map Row.v), rListD rIs x.sz.l, rRow 34 14 (.slice A k c) k (x.nd.l.flatMap Cel.cells ++ n.cs.toList), rListD rNd (x.nd.l ++ [n])] := by
  have e : (x.nd.l ++ [n]).flatMap (Cel.cells : Nd → List Value) = x.nd.l.flatMap Cel.cells ++ n.cs.toList := by rw [List.flatMap_append, List.flatMap_cons, List.flatMap_nil, List.append_nil]; rfl
  unfold arP
  rw [e]
/-- What Add says. -/
def addE (lb : Bool) (x : Arn) (n : Nd) : Int := if nodeErr x.shp.con x.ms n.con ≠ 0 then nodeErr x.shp.con x.ms n.con else if lb = false then 9 else if x.most ≤ (x.nd.n : Int) then 7 else 0
def AddPost (b : Nat) (x : Arn) (n : Nd) (lb : Bool) (w : World) (e : Ending) (w' : World) : Prop :=
  if addE lb x n = 0 then ∃ (n2 : Nd) (A : Option Addr) (c : Nat), e = .returned (.tuple #[.int .i64 x.nd.n, .int .i64 0]) ∧ n2.con = n.con ∧ SL (DomL (arP b x)) w w' (arP b ⟨x.sz, x.ms, ⟨A, x.nd.n + 1, c, x.nd.l ++ [n2]⟩, x.most⟩)
  else e = .returned (.tuple #[.int .i64 0, .int .i64 (addE lb x n)]) ∧ Bel w w'
set_option maxRecDepth 100000 in
set_option maxHeartbeats 4000000 in
theorem aadd_any (b : Nat) (x : Arn) (n : Nd) (lb : Bool) (w : World) (HP : SL (DomL (arP b x)) w w (arP b x)) (ok : x.ok) (hn : n.rd w) (hb1 : n.ls.n ≤ 1000000) (hb2 : ∀ y ∈ n.ls.l, y.n ≤ 1000000)
    (hl : nodeErr x.shp.con x.ms n.con = 0 → ∀ w', Bel w w' → Calls Try.prog 88 #[.pointer (some ⟨b, 0, none⟩), .agg n.cs] w' fun e w2 => e = .returned (.bool lb) ∧ Bel w' w2) :
    Calls Try.prog 51 #[.pointer (some ⟨b, 0, none⟩), .agg n.cs] w (AddPost b x n lb w) := by
  have HND : Hid (I64 n.dim ∧ n.all.ok) := ⟨hn.dim, hn.all⟩
  have hsr := ar_shp ok (HP.get 1 rfl) (HP.get 2 rfl)
  have HCK := Lib.hid (fun w' (hb : Bel w w') => ncheck_any x.shp n w' (hsr.mono hb) (hn.mono hb))
  have HCN := Lib.hid (fun w' (hb : Bel w w') => nclone_any n w' (hn.mono hb) hb1 hb2)
  have HLD := Lib.hid hl
  have hcc := (HP.blk 0 rfl).cell 0
  have HC0 : Hid (∀ w', Bel w w' → w'.cell? ⟨b, 0, none⟩ = some (.slice x.sz.A x.sz.n x.sz.c)) := fun w' hb => (hb.cell (p := ⟨b, 0, none⟩) (World.block_lt_of_cell? _ _ hcc)).trans hcc
  have HB := Lib.hid ((Bel.refl w).alloc (.cells n.cs 34))
  have H := Lib.hid (HP.alloc n.cs 34)
  simp only [arP] at H
  (try simp only [List.set_cons_zero, List.set_cons_succ, List.cons_append, List.nil_append, List.eraseIdx_cons_zero, List.eraseIdx_cons_succ, List.setIfInBounds_toArray, World.size_alloc, selR, List.getD_cons_zero, List.getD_cons_succ] at H)
  have hs1 := ok.s1
  have hm0 := ok.m0
  have hm1 := ok.m1
  have hnn := ok.nn
  have hP : arP b x = arP b x := rfl
  clear HP hsr hl hcc hn hb2 hP
  obtain ⟨E, hE⟩ : ∃ E, E = nodeErr x.shp.con x.ms n.con := ⟨_, rfl⟩
  rw [← hE] at HCK
  go_enter Try.func51, Try.ntmps51
  go_wp2_with fail
  refine (there_yes b x.sz.A x.sz.n x.sz.c _ hs1 (HC0.out _ HB.out)).mono ?_; rintro e w1 ⟨rfl, hw1⟩
  replace H := Lib.hid (H.out.bel hw1); (try simp only [List.set_cons_zero, List.set_cons_succ, List.cons_append, List.nil_append, List.eraseIdx_cons_zero, List.eraseIdx_cons_succ, List.setIfInBounds_toArray, World.size_alloc, selR, List.getD_cons_zero, List.getD_cons_succ] at H)
  replace HB := Lib.hid (HB.out.trans hw1)
  clear hw1
  generalize w.heap.size = y at *
  have HR1 : Hid (w1.rangeAt b 0 x.shp.cs.toList) := fun j v hv => by
    match j, hv with
    | 0, hv => exact (H.out.blk 0 rfl).range 0 v hv
    | 1, hv => exact (H.out.blk 0 rfl).range 1 v hv
    | j + 2, hv => simp at hv
  have hbb : b < w1.heap.size := (H.out.blk 0 rfl).lt
  have c0 := HC0.out _ HB.out
  go_upto_region 3 with fail
  have f_c0 := fun u : Over w1 => Over.cell c0 u
  refine wp_region_over (by kernel_rfl) (by kernel_rfl) ?_
  (try simp only [Act.put, List.setIfInBounds_toArray, List.set_cons_zero, List.set_cons_succ])
  repeat (first
    | ((with_reducible show wpQuiet _ _ _ _ (⟨some 13, _, _, _, _, _⟩ :: _) _); refine wpQuiet_load_row (by first | rfl | go_simp) rowShp2 (.tmp 12) rfl b (0) rfl x.shp.cs rfl hbb HR1.out ?_; simp only [Act.put, List.setIfInBounds_toArray, List.set_cons_zero, List.set_cons_succ])
    | ((with_reducible show wpQuiet _ _ _ _ (⟨some 14, _, _, _, _, _⟩ :: _) _); refine wpQuiet_load_row (by first | rfl | go_simp) rowNd (.tmp 3) rfl _ (0) rfl _ rfl (H.out.blk 5 rfl).lt (H.out.blk 5 rfl).range ?_; simp only [Act.put, List.setIfInBounds_toArray, List.set_cons_zero, List.set_cons_succ])
    | go_big_quiet_step (((go_at_call 34; rename_i u; exact calls_over (HCK.out _ (HB.out.trans u.bel))))))
  refine wpQuiet_nil ?_
  rintro w5 ⟨⟨_, hw5⟩, rfl⟩
  (try dsimp only)
  replace H := Lib.hid (H.out.bel hw5); (try simp only [List.set_cons_zero, List.set_cons_succ, List.cons_append, List.nil_append, List.eraseIdx_cons_zero, List.eraseIdx_cons_succ, List.setIfInBounds_toArray, World.size_alloc, selR, List.getD_cons_zero, List.getD_cons_succ] at H)
  clear f_c0 c0
  replace HB := Lib.hid (HB.out.trans hw5)
  clear hw5 HR1 hbb HCK
  by_cases h1 : E ≠ 0
  · have HV : Hid (∀ e w', e = .returned (.tuple #[.int .i64 0, .int .i64 E]) → Bel w w' → AddPost b x n lb w e w') := fun e w' he hb => by unfold AddPost; rw [if_neg (by unfold addE; rw [← hE, if_pos h1]; exact h1), show addE lb x n = E by unfold addE; rw [← hE, if_pos h1]]; exact ⟨he, hb⟩
    have d1 : (E != 0) = true := by simpa using h1
    clear h1 hE HCN HLD
    go_wp2_with fail
    refine bodyPost_ret (v := .tuple #[.int .i64 0, .int .i64 E]) (by kernel_rfl) rfl ?_
    exact HV.out _ _ rfl HB.out
  obtain rfl : E = 0 := Classical.not_not.1 h1
  have HE := Lib.hid hE
  clear h1 hE
  go_wp2_with ((with_reducible show wpList _ _ _ (⟨some 20, _, _, _, _, _⟩ :: _) _ _); (refine wpList_load_blk rfl rowNd (.tmp 3) rfl _ rfl (H.out.blk 5 rfl) rfl ?_))
  refine (HLD.out HE.out.symm _ HB.out).mono ?_; rintro e w6 ⟨rfl, hb6⟩
  replace H := Lib.hid (H.out.bel hb6); (try simp only [List.set_cons_zero, List.set_cons_succ, List.cons_append, List.nil_append, List.eraseIdx_cons_zero, List.eraseIdx_cons_succ, List.setIfInBounds_toArray, World.size_alloc, selR, List.getD_cons_zero, List.getD_cons_succ] at H)
  replace HB := Lib.hid (HB.out.trans hb6)
  clear hb6 HLD
  cases lb with
  | false =>
    have h9 : addE false x n = 9 := by unfold addE; rw [← HE.out]; rfl
    have HV : Hid (∀ e w', e = .returned (.tuple #[.int .i64 0, .int .i64 9]) → Bel w w' → AddPost b x n false w e w') := fun e w' he hb => by unfold AddPost; rw [h9, if_neg (by decide)]; exact ⟨he, hb⟩
    clear HE HCN h9
    go_wp2_with fail
    refine bodyPost_ret (v := .tuple #[.int .i64 0, .int .i64 9]) (by kernel_rfl) rfl ?_
    exact HV.out _ _ rfl HB.out
  | true =>
    have c2 : w6.cell? ⟨b, 2, none⟩ = some (.slice x.nd.A x.nd.n x.nd.c) := (H.out.blk 0 rfl).cell 2
    have c3 : w6.cell? ⟨b, 3, none⟩ = some (.int .i64 x.most) := (H.out.blk 0 rfl).cell 3
    by_cases h7 : x.most ≤ (x.nd.n : Int)
    · have h9 : addE true x n = 7 := by unfold addE; rw [← HE.out, if_neg (by simp), if_neg (by simp), if_pos h7]
      have HV : Hid (∀ e w', e = .returned (.tuple #[.int .i64 0, .int .i64 7]) → Bel w w' → AddPost b x n true w e w') := fun e w' he hb => by unfold AddPost; rw [h9, if_neg (by decide)]; exact ⟨he, hb⟩
      have d1 : decide (x.most ≤ (x.nd.n : Int)) = true := by simpa using h7
      clear HE HCN h9 h7
      go_upto_region 8 with fail
      have f_c2 := fun u : Over w6 => Over.cell c2 u
      have f_c3 := fun u : Over w6 => Over.cell c3 u
      refine wp_region_over (by kernel_rfl) (by kernel_rfl) ?_
      (try simp only [Act.put, List.setIfInBounds_toArray, List.set_cons_zero, List.set_cons_succ])
      repeat (go_big_quiet_step (fail))
      refine wpQuiet_nil ?_
      rintro w5 ⟨⟨_, hw5⟩, rfl⟩
      (try dsimp only)
      replace H := Lib.hid (H.out.bel hw5); (try simp only [List.set_cons_zero, List.set_cons_succ, List.cons_append, List.nil_append, List.eraseIdx_cons_zero, List.eraseIdx_cons_succ, List.setIfInBounds_toArray, World.size_alloc, selR, List.getD_cons_zero, List.getD_cons_succ] at H)
      clear f_c2 f_c3 c2 c3
      replace HB := Lib.hid (HB.out.trans hw5)
      clear hw5
      go_wp2_with fail
      refine bodyPost_ret (v := .tuple #[.int .i64 0, .int .i64 7]) (by kernel_rfl) rfl ?_
      exact HV.out _ _ rfl HB.out
    have h9 : addE true x n = 0 := by unfold addE; rw [← HE.out, if_neg (by simp), if_neg (by simp), if_neg h7]
    have HP2 : Hid (∀ n2 A c w', Nd.con n2 = n.con → SL (DomL (arP b x)) w w' (arP b ⟨x.sz, x.ms, ⟨A, x.nd.n + 1, c, x.nd.l ++ [n2]⟩, x.most⟩) → AddPost b x n true w (.returned (.tuple #[.int .i64 x.nd.n, .int .i64 0])) w') := fun n2 A c w' h2 h3 => by unfold AddPost; rw [h9, if_pos rfl]; exact ⟨n2, A, c, rfl, h2, h3⟩
    have d1 : decide (x.most ≤ (x.nd.n : Int)) = false := by simpa using h7
    have hn7 : x.nd.n < 131072 := by omega
    clear HE h9 h7
    go_upto_region 8 with fail
    have f_c2 := fun u : Over w6 => Over.cell c2 u
    have f_c3 := fun u : Over w6 => Over.cell c3 u
    refine wp_region_over (by kernel_rfl) (by kernel_rfl) ?_
    (try simp only [Act.put, List.setIfInBounds_toArray, List.set_cons_zero, List.set_cons_succ])
    repeat (go_big_quiet_step (fail))
    refine wpQuiet_nil ?_
    rintro w5 ⟨⟨_, hw5⟩, rfl⟩
    (try dsimp only)
    replace H := Lib.hid (H.out.bel hw5); (try simp only [List.set_cons_zero, List.set_cons_succ, List.cons_append, List.nil_append, List.eraseIdx_cons_zero, List.eraseIdx_cons_succ, List.setIfInBounds_toArray, World.size_alloc, selR, List.getD_cons_zero, List.getD_cons_succ] at H)
    clear f_c2 f_c3 c2 c3
    replace HB := Lib.hid (HB.out.trans hw5)
    clear hw5
    go_upto_region 10 with fail
    have HBD : Hid (Bel w (World.drew w5)) := HB.out.drew
    have e1 : ((x.nd.n : Int) + 1) - 1 = x.nd.n := by omega
    clear d1 HB
    refine wp_region_held_drew (S := fun _ => True) (by kernel_rfl) trivial (fun hHeld => ?_)
    replace H := Lib.hid (H.out.drew); (try simp only [List.set_cons_zero, List.set_cons_succ, List.cons_append, List.nil_append, List.eraseIdx_cons_zero, List.eraseIdx_cons_succ, List.setIfInBounds_toArray, World.size_alloc, selR, List.getD_cons_zero, List.getD_cons_succ] at H)
    generalize World.drew _ = w8 at *
    refine wpAnyH_take (i := 0) (v := ?vq7_0) (get_o0) (by kernel_rfl) (by kernel_rfl) (by kernel_rfl) (by exact fun _ _ _ h => h) (Or.inl ⟨by rfl, ?hyq7_0⟩) (by assumption) ?_
    case hyq7_0 => (intro w hSw; (try dsimp only at hSw); go_simp) <;> with_reducible rfl
    try simp only [Act.put, List.setIfInBounds_toArray, List.set_cons_zero, List.set_cons_succ]
    refine wpAnyH_take (i := 1) (v := ?vq7_1) (get_os (get_o0)) (by kernel_rfl) (by kernel_rfl) (by kernel_rfl) (by exact fun _ _ _ h => h) (Or.inl ⟨by rfl, ?hyq7_1⟩) (by assumption) ?_
    case hyq7_1 => (intro w hSw; (try dsimp only at hSw); go_simp) <;> with_reducible rfl
    try simp only [Act.put, List.setIfInBounds_toArray, List.set_cons_zero, List.set_cons_succ]
    refine wpAnyH_take (i := 2) (v := ?vq7_2) (get_os (get_os (get_o0))) (by kernel_rfl) (by kernel_rfl) (by kernel_rfl) (by exact fun _ _ _ h => h) (Or.inl ⟨by rfl, ?hyq7_2⟩) (by assumption) ?_
    case hyq7_2 => (intro w hSw; (try dsimp only at hSw); go_simp) <;> with_reducible rfl
    try simp only [Act.put, List.setIfInBounds_toArray, List.set_cons_zero, List.set_cons_succ]
    refine wpAnyH_take (i := 3) (v := ?vq7_3) (get_os (get_os (get_os (get_o0)))) (by kernel_rfl) (by kernel_rfl) (by kernel_rfl) (by exact fun _ _ _ h => h) (Or.inl ⟨by rfl, ?hyq7_3⟩) (by assumption) ?_
    case hyq7_3 => (intro w hSw; (try dsimp only at hSw); go_simp) <;> with_reducible rfl
    try simp only [Act.put, List.setIfInBounds_toArray, List.set_cons_zero, List.set_cons_succ]
    refine wpAnyH_ready (rs := [4, 5]) (by kernel_rfl) (by simp) ?_
    refine (AllReadyH.cons (get_os (get_os (get_os (get_os (get_o0))))) (fun KK hKK => ?_) (AllReadyH.cons (get_os (get_os (get_os (get_os (get_os (get_o0)))))) (fun KK hKK => ?_) AllReadyH.nil))
    · have ca4 := (H.out.blk 0 rfl).cell 2; simp only [List.getElem?_toArray, List.getElem?_cons_zero, List.getElem?_cons_succ] at ca4
      go_simp
      clear ca4
      refine hKK.out _ _ trivial (fun hHeld => ?_)
      clear hKK KK
      try simp only [Act.put, List.setIfInBounds_toArray, List.set_cons_zero, List.set_cons_succ]
      refine wpAnyH_ready (rs := [5]) (by kernel_rfl) (by simp) ?_
      refine (AllReadyH.cons (get_os (get_os (get_os (get_os (get_os (get_o0)))))) (fun KK hKK => ?_) AllReadyH.nil)
      refine step_load_blk rfl rowNd (.tmp 3) rfl _ rfl (H.out.blk 5 rfl) rfl ?_
      refine hKK.out _ _ trivial (fun hHeld => ?_)
      clear hKK KK
      try simp only [Act.put, List.setIfInBounds_toArray, List.set_cons_zero, List.set_cons_succ]
      refine wpAnyH_ready (rs := [6]) (by kernel_rfl) (by simp) ?_
      refine (AllReadyH.cons (get_os (get_os (get_os (get_os (get_os (get_os (get_o0))))))) (fun KK hKK => ?_) AllReadyH.nil)
      go_simp
      refine (HCN.out _ HBD.out).mono ?_; rintro e' w9 ⟨NA2, nc2, NL, rfl, hNL, hNB, hNn, hN⟩
      replace H := Lib.hid (H.out.join hN); (try simp only [List.set_cons_zero, List.set_cons_succ, List.cons_append, List.nil_append, List.eraseIdx_cons_zero, List.eraseIdx_cons_succ, List.setIfInBounds_toArray, World.size_alloc, selR, List.getD_cons_zero, List.getD_cons_succ] at H)
      have HNL := Lib.hid hNL
      have HNB := Lib.hid hNB
      clear hN hNL hNB hNn
      refine hKK.out _ _ trivial (fun hHeld => ?_)
      clear hKK KK
      try simp only [Act.put, List.setIfInBounds_toArray, List.set_cons_zero, List.set_cons_succ]
      refine wpAnyH_ready (rs := [7]) (by kernel_rfl) (by simp) ?_
      refine (AllReadyH.cons (get_os (get_os (get_os (get_os (get_os (get_os (get_os (get_o0)))))))) (fun KK hKK => ?_) AllReadyH.nil)
      refine step_buildSlice1 rfl E_nd (.tmp 39) rfl ((Nd.mk n.dim ⟨NA2, n.ls.n, nc2, NL⟩ n.all).cs) rfl rfl (by omega) ?_
      replace H := Lib.hid (H.out.addRow ((Bel.refl _).alloc _) (own_made _ 34 ((Nd.mk n.dim ⟨NA2, n.ls.n, nc2, NL⟩ n.all).cs) _ rfl)); (try simp only [List.set_cons_zero, List.set_cons_succ, List.cons_append, List.nil_append, List.eraseIdx_cons_zero, List.eraseIdx_cons_succ, List.setIfInBounds_toArray, World.size_alloc, selR, List.getD_cons_zero, List.getD_cons_succ] at H)
      refine hKK.out _ _ trivial (fun hHeld => ?_)
      clear hKK KK
      try simp only [Act.put, List.setIfInBounds_toArray, List.set_cons_zero, List.set_cons_succ]
      refine wpAnyH_ready (rs := [8]) (by kernel_rfl) (by simp) ?_
      refine (AllReadyH.cons (get_os (get_os (get_os (get_os (get_os (get_os (get_os (get_os (get_o0))))))))) (fun KK hKK => ?_) AllReadyH.nil)
      refine step_append0 rfl (.tmp 37) (.tmp 40) _ rfl E_nd 0 (Nat.zero_le _) _ x.nd.n _ rfl (H.out.row 3 rfl) _ 1 1 _ rfl (Rd.of_own (H.out.row 8 rfl)) (by simp [Value.oneCell']) (by unfold maxLen; omega) (by omega) ?_
      intro vq wq howq hgq hatq
      replace H := Lib.hid (H.out.setRow 3 rfl hgq howq hatq); (try simp only [List.set_cons_zero, List.set_cons_succ, List.cons_append, List.nil_append, List.eraseIdx_cons_zero, List.eraseIdx_cons_succ, List.setIfInBounds_toArray, World.size_alloc, selR, List.getD_cons_zero, List.getD_cons_succ] at H)
      clear howq hgq hatq
      obtain ⟨A2, c2, rfl, _⟩ := own_slice (H.out.row 3 rfl)
      refine hKK.out _ _ trivial (fun hHeld => ?_)
      clear hKK KK
      try simp only [Act.put, List.setIfInBounds_toArray, List.set_cons_zero, List.set_cons_succ]
      refine wpAnyH_take (i := 9) (v := ?vq8_) (get_os (get_os (get_os (get_os (get_os (get_os (get_os (get_os (get_os (get_o0)))))))))) (by kernel_rfl) (by kernel_rfl) (by kernel_rfl) (by exact fun _ _ _ h => h) (Or.inl ⟨by rfl, ?hyq8_⟩) (by assumption) ?_
      case hyq8_ => (intro w hSw; (try dsimp only at hSw); go_simp) <;> with_reducible rfl
      try simp only [Act.put, List.setIfInBounds_toArray, List.set_cons_zero, List.set_cons_succ]
      refine wpAnyH_take (i := 10) (v := ?vq9_) (get_ot (get_o0)) (by kernel_rfl) (by kernel_rfl) (by kernel_rfl) (by exact fun _ _ _ h => h) (Or.inl ⟨by rfl, ?hyq9_⟩) (by assumption) ?_
      case hyq9_ => (intro w hSw; (try dsimp only at hSw); go_simp) <;> with_reducible rfl
      try simp only [Act.put, List.setIfInBounds_toArray, List.set_cons_zero, List.set_cons_succ]
      refine wpAnyH_ready (rs := [11]) (by kernel_rfl) (by simp) ?_
      refine (AllReadyH.cons (get_ot (get_os (get_o0))) (fun KK hKK => ?_) AllReadyH.nil)
      have ca11 := (H.out.blk 0 rfl).cell 2; simp only [List.getElem?_toArray, List.getElem?_cons_zero, List.getElem?_cons_succ] at ca11; have fa11 := (H.out.blk 0 rfl).frozen 2
      go_simp
      replace H := Lib.hid (H.out.setCell 0 rfl 2 (.slice A2 (x.nd.n + 1) c2)); (try simp only [List.set_cons_zero, List.set_cons_succ, List.cons_append, List.nil_append, List.eraseIdx_cons_zero, List.eraseIdx_cons_succ, List.setIfInBounds_toArray, World.size_alloc, selR, List.getD_cons_zero, List.getD_cons_succ] at H)
      clear ca11 fa11
      refine hKK.out _ _ trivial (fun hHeld => ?_)
      clear hKK KK
      try simp only [Act.put, List.setIfInBounds_toArray, List.set_cons_zero, List.set_cons_succ]
      refine wpAnyH_done (by kernel_rfl) ?_ _
      clear hHeld
      replace H := Lib.hid (H.out.mkNd 6 7 (n := (Nd.mk n.dim ⟨NA2, n.ls.n, nc2, NL⟩ n.all)) (by omega) rfl rfl HND.out (fun y hy => HNB.out y hy) hb1); (try simp only [List.set_cons_zero, List.set_cons_succ, List.cons_append, List.nil_append, List.eraseIdx_cons_zero, List.eraseIdx_cons_succ, List.setIfInBounds_toArray, World.size_alloc, selR, List.getD_cons_zero, List.getD_cons_succ] at H)
      replace H := Lib.hid (H.out.snocD 4 6 (a := (Nd.mk n.dim ⟨NA2, n.ls.n, nc2, NL⟩ n.all)) (by omega) rfl rfl); (try simp only [List.set_cons_zero, List.set_cons_succ, List.cons_append, List.nil_append, List.eraseIdx_cons_zero, List.eraseIdx_cons_succ, List.setIfInBounds_toArray, World.size_alloc, selR, List.getD_cons_zero, List.getD_cons_succ] at H)
      replace H := Lib.hid (H.out.sel [0, 1, 2, 3, 4] (by decide) (by simp)); (try simp only [List.set_cons_zero, List.set_cons_succ, List.cons_append, List.nil_append, List.eraseIdx_cons_zero, List.eraseIdx_cons_succ, List.setIfInBounds_toArray, World.size_alloc, selR, List.getD_cons_zero, List.getD_cons_succ] at H)
      clear HBD HCN
      have cz := (H.out.blk 0 rfl).cell 2; simp only [List.getElem?_toArray, List.getElem?_cons_zero, List.getElem?_cons_succ] at cz
      go_wp2_with fail
      (try rw [e1])
      refine bodyPost_ret (v := .tuple #[.int .i64 x.nd.n, .int .i64 0]) (by kernel_rfl) rfl ?_
      exact HP2.out (Nd.mk n.dim ⟨NA2, n.ls.n, nc2, NL⟩ n.all) _ _ _ (by show NC.mk _ _ _ = _; rw [HNL.out]) (by rw [arP_snoc]; exact H.out)
    · refine step_load_blk rfl rowNd (.tmp 3) rfl _ rfl (H.out.blk 5 rfl) rfl ?_
      refine hKK.out _ _ trivial (fun hHeld => ?_)
      clear hKK KK
      try simp only [Act.put, List.setIfInBounds_toArray, List.set_cons_zero, List.set_cons_succ]
      refine wpAnyH_ready (rs := [4, 6]) (by kernel_rfl) (by simp) ?_
      refine (AllReadyH.cons (get_os (get_os (get_os (get_os (get_o0))))) (fun KK hKK => ?_) (AllReadyH.cons (get_os (get_os (get_os (get_os (get_os (get_os (get_o0))))))) (fun KK hKK => ?_) AllReadyH.nil))
      · have ca4 := (H.out.blk 0 rfl).cell 2; simp only [List.getElem?_toArray, List.getElem?_cons_zero, List.getElem?_cons_succ] at ca4
        go_simp
        clear ca4
        refine hKK.out _ _ trivial (fun hHeld => ?_)
        clear hKK KK
        try simp only [Act.put, List.setIfInBounds_toArray, List.set_cons_zero, List.set_cons_succ]
        refine wpAnyH_ready (rs := [6]) (by kernel_rfl) (by simp) ?_
        refine (AllReadyH.cons (get_os (get_os (get_os (get_os (get_os (get_os (get_o0))))))) (fun KK hKK => ?_) AllReadyH.nil)
        go_simp
        refine (HCN.out _ HBD.out).mono ?_; rintro e' w9 ⟨NA2, nc2, NL, rfl, hNL, hNB, hNn, hN⟩
        replace H := Lib.hid (H.out.join hN); (try simp only [List.set_cons_zero, List.set_cons_succ, List.cons_append, List.nil_append, List.eraseIdx_cons_zero, List.eraseIdx_cons_succ, List.setIfInBounds_toArray, World.size_alloc, selR, List.getD_cons_zero, List.getD_cons_succ] at H)
        have HNL := Lib.hid hNL
        have HNB := Lib.hid hNB
        clear hN hNL hNB hNn
        refine hKK.out _ _ trivial (fun hHeld => ?_)
        clear hKK KK
        try simp only [Act.put, List.setIfInBounds_toArray, List.set_cons_zero, List.set_cons_succ]
        refine wpAnyH_ready (rs := [7]) (by kernel_rfl) (by simp) ?_
        refine (AllReadyH.cons (get_os (get_os (get_os (get_os (get_os (get_os (get_os (get_o0)))))))) (fun KK hKK => ?_) AllReadyH.nil)
        refine step_buildSlice1 rfl E_nd (.tmp 39) rfl ((Nd.mk n.dim ⟨NA2, n.ls.n, nc2, NL⟩ n.all).cs) rfl rfl (by omega) ?_
        replace H := Lib.hid (H.out.addRow ((Bel.refl _).alloc _) (own_made _ 34 ((Nd.mk n.dim ⟨NA2, n.ls.n, nc2, NL⟩ n.all).cs) _ rfl)); (try simp only [List.set_cons_zero, List.set_cons_succ, List.cons_append, List.nil_append, List.eraseIdx_cons_zero, List.eraseIdx_cons_succ, List.setIfInBounds_toArray, World.size_alloc, selR, List.getD_cons_zero, List.getD_cons_succ] at H)
        refine hKK.out _ _ trivial (fun hHeld => ?_)
        clear hKK KK
        try simp only [Act.put, List.setIfInBounds_toArray, List.set_cons_zero, List.set_cons_succ]
        refine wpAnyH_ready (rs := [8]) (by kernel_rfl) (by simp) ?_
        refine (AllReadyH.cons (get_os (get_os (get_os (get_os (get_os (get_os (get_os (get_os (get_o0))))))))) (fun KK hKK => ?_) AllReadyH.nil)
        refine step_append0 rfl (.tmp 37) (.tmp 40) _ rfl E_nd 0 (Nat.zero_le _) _ x.nd.n _ rfl (H.out.row 3 rfl) _ 1 1 _ rfl (Rd.of_own (H.out.row 8 rfl)) (by simp [Value.oneCell']) (by unfold maxLen; omega) (by omega) ?_
        intro vq wq howq hgq hatq
        replace H := Lib.hid (H.out.setRow 3 rfl hgq howq hatq); (try simp only [List.set_cons_zero, List.set_cons_succ, List.cons_append, List.nil_append, List.eraseIdx_cons_zero, List.eraseIdx_cons_succ, List.setIfInBounds_toArray, World.size_alloc, selR, List.getD_cons_zero, List.getD_cons_succ] at H)
        clear howq hgq hatq
        obtain ⟨A2, c2, rfl, _⟩ := own_slice (H.out.row 3 rfl)
        refine hKK.out _ _ trivial (fun hHeld => ?_)
        clear hKK KK
        try simp only [Act.put, List.setIfInBounds_toArray, List.set_cons_zero, List.set_cons_succ]
        refine wpAnyH_take (i := 9) (v := ?vq10_) (get_os (get_os (get_os (get_os (get_os (get_os (get_os (get_os (get_os (get_o0)))))))))) (by kernel_rfl) (by kernel_rfl) (by kernel_rfl) (by exact fun _ _ _ h => h) (Or.inl ⟨by rfl, ?hyq10_⟩) (by assumption) ?_
        case hyq10_ => (intro w hSw; (try dsimp only at hSw); go_simp) <;> with_reducible rfl
        try simp only [Act.put, List.setIfInBounds_toArray, List.set_cons_zero, List.set_cons_succ]
        refine wpAnyH_take (i := 10) (v := ?vq11_) (get_ot (get_o0)) (by kernel_rfl) (by kernel_rfl) (by kernel_rfl) (by exact fun _ _ _ h => h) (Or.inl ⟨by rfl, ?hyq11_⟩) (by assumption) ?_
        case hyq11_ => (intro w hSw; (try dsimp only at hSw); go_simp) <;> with_reducible rfl
        try simp only [Act.put, List.setIfInBounds_toArray, List.set_cons_zero, List.set_cons_succ]
        refine wpAnyH_ready (rs := [11]) (by kernel_rfl) (by simp) ?_
        refine (AllReadyH.cons (get_ot (get_os (get_o0))) (fun KK hKK => ?_) AllReadyH.nil)
        have ca11 := (H.out.blk 0 rfl).cell 2; simp only [List.getElem?_toArray, List.getElem?_cons_zero, List.getElem?_cons_succ] at ca11; have fa11 := (H.out.blk 0 rfl).frozen 2
        go_simp
        replace H := Lib.hid (H.out.setCell 0 rfl 2 (.slice A2 (x.nd.n + 1) c2)); (try simp only [List.set_cons_zero, List.set_cons_succ, List.cons_append, List.nil_append, List.eraseIdx_cons_zero, List.eraseIdx_cons_succ, List.setIfInBounds_toArray, World.size_alloc, selR, List.getD_cons_zero, List.getD_cons_succ] at H)
        clear ca11 fa11
        refine hKK.out _ _ trivial (fun hHeld => ?_)
        clear hKK KK
        try simp only [Act.put, List.setIfInBounds_toArray, List.set_cons_zero, List.set_cons_succ]
        refine wpAnyH_done (by kernel_rfl) ?_ _
        clear hHeld
        replace H := Lib.hid (H.out.mkNd 6 7 (n := (Nd.mk n.dim ⟨NA2, n.ls.n, nc2, NL⟩ n.all)) (by omega) rfl rfl HND.out (fun y hy => HNB.out y hy) hb1); (try simp only [List.set_cons_zero, List.set_cons_succ, List.cons_append, List.nil_append, List.eraseIdx_cons_zero, List.eraseIdx_cons_succ, List.setIfInBounds_toArray, World.size_alloc, selR, List.getD_cons_zero, List.getD_cons_succ] at H)
        replace H := Lib.hid (H.out.snocD 4 6 (a := (Nd.mk n.dim ⟨NA2, n.ls.n, nc2, NL⟩ n.all)) (by omega) rfl rfl); (try simp only [List.set_cons_zero, List.set_cons_succ, List.cons_append, List.nil_append, List.eraseIdx_cons_zero, List.eraseIdx_cons_succ, List.setIfInBounds_toArray, World.size_alloc, selR, List.getD_cons_zero, List.getD_cons_succ] at H)
        replace H := Lib.hid (H.out.sel [0, 1, 2, 3, 4] (by decide) (by simp)); (try simp only [List.set_cons_zero, List.set_cons_succ, List.cons_append, List.nil_append, List.eraseIdx_cons_zero, List.eraseIdx_cons_succ, List.setIfInBounds_toArray, World.size_alloc, selR, List.getD_cons_zero, List.getD_cons_succ] at H)
        clear HBD HCN
        have cz := (H.out.blk 0 rfl).cell 2; simp only [List.getElem?_toArray, List.getElem?_cons_zero, List.getElem?_cons_succ] at cz
        go_wp2_with fail
        (try rw [e1])
        refine bodyPost_ret (v := .tuple #[.int .i64 x.nd.n, .int .i64 0]) (by kernel_rfl) rfl ?_
        exact HP2.out (Nd.mk n.dim ⟨NA2, n.ls.n, nc2, NL⟩ n.all) _ _ _ (by show NC.mk _ _ _ = _; rw [HNL.out]) (by rw [arP_snoc]; exact H.out)
      · go_simp
        refine (HCN.out _ HBD.out).mono ?_; rintro e' w9 ⟨NA2, nc2, NL, rfl, hNL, hNB, hNn, hN⟩
        replace H := Lib.hid (H.out.join hN); (try simp only [List.set_cons_zero, List.set_cons_succ, List.cons_append, List.nil_append, List.eraseIdx_cons_zero, List.eraseIdx_cons_succ, List.setIfInBounds_toArray, World.size_alloc, selR, List.getD_cons_zero, List.getD_cons_succ] at H)
        have HNL := Lib.hid hNL
        have HNB := Lib.hid hNB
        clear hN hNL hNB hNn
        refine hKK.out _ _ trivial (fun hHeld => ?_)
        clear hKK KK
        try simp only [Act.put, List.setIfInBounds_toArray, List.set_cons_zero, List.set_cons_succ]
        refine wpAnyH_ready (rs := [4, 7]) (by kernel_rfl) (by simp) ?_
        refine (AllReadyH.cons (get_os (get_os (get_os (get_os (get_o0))))) (fun KK hKK => ?_) (AllReadyH.cons (get_os (get_os (get_os (get_os (get_os (get_os (get_os (get_o0)))))))) (fun KK hKK => ?_) AllReadyH.nil))
        · have ca4 := (H.out.blk 0 rfl).cell 2; simp only [List.getElem?_toArray, List.getElem?_cons_zero, List.getElem?_cons_succ] at ca4
          go_simp
          clear ca4
          refine hKK.out _ _ trivial (fun hHeld => ?_)
          clear hKK KK
          try simp only [Act.put, List.setIfInBounds_toArray, List.set_cons_zero, List.set_cons_succ]
          refine wpAnyH_ready (rs := [7]) (by kernel_rfl) (by simp) ?_
          refine (AllReadyH.cons (get_os (get_os (get_os (get_os (get_os (get_os (get_os (get_o0)))))))) (fun KK hKK => ?_) AllReadyH.nil)
          refine step_buildSlice1 rfl E_nd (.tmp 39) rfl ((Nd.mk n.dim ⟨NA2, n.ls.n, nc2, NL⟩ n.all).cs) rfl rfl (by omega) ?_
          replace H := Lib.hid (H.out.addRow ((Bel.refl _).alloc _) (own_made _ 34 ((Nd.mk n.dim ⟨NA2, n.ls.n, nc2, NL⟩ n.all).cs) _ rfl)); (try simp only [List.set_cons_zero, List.set_cons_succ, List.cons_append, List.nil_append, List.eraseIdx_cons_zero, List.eraseIdx_cons_succ, List.setIfInBounds_toArray, World.size_alloc, selR, List.getD_cons_zero, List.getD_cons_succ] at H)
          refine hKK.out _ _ trivial (fun hHeld => ?_)
          clear hKK KK
          try simp only [Act.put, List.setIfInBounds_toArray, List.set_cons_zero, List.set_cons_succ]
          refine wpAnyH_ready (rs := [8]) (by kernel_rfl) (by simp) ?_
          refine (AllReadyH.cons (get_os (get_os (get_os (get_os (get_os (get_os (get_os (get_os (get_o0))))))))) (fun KK hKK => ?_) AllReadyH.nil)
          refine step_append0 rfl (.tmp 37) (.tmp 40) _ rfl E_nd 0 (Nat.zero_le _) _ x.nd.n _ rfl (H.out.row 3 rfl) _ 1 1 _ rfl (Rd.of_own (H.out.row 8 rfl)) (by simp [Value.oneCell']) (by unfold maxLen; omega) (by omega) ?_
          intro vq wq howq hgq hatq
          replace H := Lib.hid (H.out.setRow 3 rfl hgq howq hatq); (try simp only [List.set_cons_zero, List.set_cons_succ, List.cons_append, List.nil_append, List.eraseIdx_cons_zero, List.eraseIdx_cons_succ, List.setIfInBounds_toArray, World.size_alloc, selR, List.getD_cons_zero, List.getD_cons_succ] at H)
          clear howq hgq hatq
          obtain ⟨A2, c2, rfl, _⟩ := own_slice (H.out.row 3 rfl)
          refine hKK.out _ _ trivial (fun hHeld => ?_)
          clear hKK KK
          try simp only [Act.put, List.setIfInBounds_toArray, List.set_cons_zero, List.set_cons_succ]
          refine wpAnyH_take (i := 9) (v := ?vq12_) (get_os (get_os (get_os (get_os (get_os (get_os (get_os (get_os (get_os (get_o0)))))))))) (by kernel_rfl) (by kernel_rfl) (by kernel_rfl) (by exact fun _ _ _ h => h) (Or.inl ⟨by rfl, ?hyq12_⟩) (by assumption) ?_
          case hyq12_ => (intro w hSw; (try dsimp only at hSw); go_simp) <;> with_reducible rfl
          try simp only [Act.put, List.setIfInBounds_toArray, List.set_cons_zero, List.set_cons_succ]
          refine wpAnyH_take (i := 10) (v := ?vq13_) (get_ot (get_o0)) (by kernel_rfl) (by kernel_rfl) (by kernel_rfl) (by exact fun _ _ _ h => h) (Or.inl ⟨by rfl, ?hyq13_⟩) (by assumption) ?_
          case hyq13_ => (intro w hSw; (try dsimp only at hSw); go_simp) <;> with_reducible rfl
          try simp only [Act.put, List.setIfInBounds_toArray, List.set_cons_zero, List.set_cons_succ]
          refine wpAnyH_ready (rs := [11]) (by kernel_rfl) (by simp) ?_
          refine (AllReadyH.cons (get_ot (get_os (get_o0))) (fun KK hKK => ?_) AllReadyH.nil)
          have ca11 := (H.out.blk 0 rfl).cell 2; simp only [List.getElem?_toArray, List.getElem?_cons_zero, List.getElem?_cons_succ] at ca11; have fa11 := (H.out.blk 0 rfl).frozen 2
          go_simp
          replace H := Lib.hid (H.out.setCell 0 rfl 2 (.slice A2 (x.nd.n + 1) c2)); (try simp only [List.set_cons_zero, List.set_cons_succ, List.cons_append, List.nil_append, List.eraseIdx_cons_zero, List.eraseIdx_cons_succ, List.setIfInBounds_toArray, World.size_alloc, selR, List.getD_cons_zero, List.getD_cons_succ] at H)
          clear ca11 fa11
          refine hKK.out _ _ trivial (fun hHeld => ?_)
          clear hKK KK
          try simp only [Act.put, List.setIfInBounds_toArray, List.set_cons_zero, List.set_cons_succ]
          refine wpAnyH_done (by kernel_rfl) ?_ _
          clear hHeld
          replace H := Lib.hid (H.out.mkNd 6 7 (n := (Nd.mk n.dim ⟨NA2, n.ls.n, nc2, NL⟩ n.all)) (by omega) rfl rfl HND.out (fun y hy => HNB.out y hy) hb1); (try simp only [List.set_cons_zero, List.set_cons_succ, List.cons_append, List.nil_append, List.eraseIdx_cons_zero, List.eraseIdx_cons_succ, List.setIfInBounds_toArray, World.size_alloc, selR, List.getD_cons_zero, List.getD_cons_succ] at H)
          replace H := Lib.hid (H.out.snocD 4 6 (a := (Nd.mk n.dim ⟨NA2, n.ls.n, nc2, NL⟩ n.all)) (by omega) rfl rfl); (try simp only [List.set_cons_zero, List.set_cons_succ, List.cons_append, List.nil_append, List.eraseIdx_cons_zero, List.eraseIdx_cons_succ, List.setIfInBounds_toArray, World.size_alloc, selR, List.getD_cons_zero, List.getD_cons_succ] at H)
          replace H := Lib.hid (H.out.sel [0, 1, 2, 3, 4] (by decide) (by simp)); (try simp only [List.set_cons_zero, List.set_cons_succ, List.cons_append, List.nil_append, List.eraseIdx_cons_zero, List.eraseIdx_cons_succ, List.setIfInBounds_toArray, World.size_alloc, selR, List.getD_cons_zero, List.getD_cons_succ] at H)
          clear HBD HCN
          have cz := (H.out.blk 0 rfl).cell 2; simp only [List.getElem?_toArray, List.getElem?_cons_zero, List.getElem?_cons_succ] at cz
          go_wp2_with fail
          (try rw [e1])
          refine bodyPost_ret (v := .tuple #[.int .i64 x.nd.n, .int .i64 0]) (by kernel_rfl) rfl ?_
          exact HP2.out (Nd.mk n.dim ⟨NA2, n.ls.n, nc2, NL⟩ n.all) _ _ _ (by show NC.mk _ _ _ = _; rw [HNL.out]) (by rw [arP_snoc]; exact H.out)
        · refine step_buildSlice1 rfl E_nd (.tmp 39) rfl ((Nd.mk n.dim ⟨NA2, n.ls.n, nc2, NL⟩ n.all).cs) rfl rfl (by omega) ?_
          replace H := Lib.hid (H.out.addRow ((Bel.refl _).alloc _) (own_made _ 34 ((Nd.mk n.dim ⟨NA2, n.ls.n, nc2, NL⟩ n.all).cs) _ rfl)); (try simp only [List.set_cons_zero, List.set_cons_succ, List.cons_append, List.nil_append, List.eraseIdx_cons_zero, List.eraseIdx_cons_succ, List.setIfInBounds_toArray, World.size_alloc, selR, List.getD_cons_zero, List.getD_cons_succ] at H)
          refine hKK.out _ _ trivial (fun hHeld => ?_)
          clear hKK KK
          try simp only [Act.put, List.setIfInBounds_toArray, List.set_cons_zero, List.set_cons_succ]
          refine wpAnyH_ready (rs := [4]) (by kernel_rfl) (by simp) ?_
          refine (AllReadyH.cons (get_os (get_os (get_os (get_os (get_o0))))) (fun KK hKK => ?_) AllReadyH.nil)
          have ca4 := (H.out.blk 0 rfl).cell 2; simp only [List.getElem?_toArray, List.getElem?_cons_zero, List.getElem?_cons_succ] at ca4
          go_simp
          clear ca4
          refine hKK.out _ _ trivial (fun hHeld => ?_)
          clear hKK KK
          try simp only [Act.put, List.setIfInBounds_toArray, List.set_cons_zero, List.set_cons_succ]
          refine wpAnyH_ready (rs := [8]) (by kernel_rfl) (by simp) ?_
          refine (AllReadyH.cons (get_os (get_os (get_os (get_os (get_os (get_os (get_os (get_os (get_o0))))))))) (fun KK hKK => ?_) AllReadyH.nil)
          refine step_append0 rfl (.tmp 37) (.tmp 40) _ rfl E_nd 0 (Nat.zero_le _) _ x.nd.n _ rfl (H.out.row 3 rfl) _ 1 1 _ rfl (Rd.of_own (H.out.row 8 rfl)) (by simp [Value.oneCell']) (by unfold maxLen; omega) (by omega) ?_
          intro vq wq howq hgq hatq
          replace H := Lib.hid (H.out.setRow 3 rfl hgq howq hatq); (try simp only [List.set_cons_zero, List.set_cons_succ, List.cons_append, List.nil_append, List.eraseIdx_cons_zero, List.eraseIdx_cons_succ, List.setIfInBounds_toArray, World.size_alloc, selR, List.getD_cons_zero, List.getD_cons_succ] at H)
          clear howq hgq hatq
          obtain ⟨A2, c2, rfl, _⟩ := own_slice (H.out.row 3 rfl)
          refine hKK.out _ _ trivial (fun hHeld => ?_)
          clear hKK KK
          try simp only [Act.put, List.setIfInBounds_toArray, List.set_cons_zero, List.set_cons_succ]
          refine wpAnyH_take (i := 9) (v := ?vq14_) (get_os (get_os (get_os (get_os (get_os (get_os (get_os (get_os (get_os (get_o0)))))))))) (by kernel_rfl) (by kernel_rfl) (by kernel_rfl) (by exact fun _ _ _ h => h) (Or.inl ⟨by rfl, ?hyq14_⟩) (by assumption) ?_
          case hyq14_ => (intro w hSw; (try dsimp only at hSw); go_simp) <;> with_reducible rfl
          try simp only [Act.put, List.setIfInBounds_toArray, List.set_cons_zero, List.set_cons_succ]
          refine wpAnyH_take (i := 10) (v := ?vq15_) (get_ot (get_o0)) (by kernel_rfl) (by kernel_rfl) (by kernel_rfl) (by exact fun _ _ _ h => h) (Or.inl ⟨by rfl, ?hyq15_⟩) (by assumption) ?_
          case hyq15_ => (intro w hSw; (try dsimp only at hSw); go_simp) <;> with_reducible rfl
          try simp only [Act.put, List.setIfInBounds_toArray, List.set_cons_zero, List.set_cons_succ]
          refine wpAnyH_ready (rs := [11]) (by kernel_rfl) (by simp) ?_
          refine (AllReadyH.cons (get_ot (get_os (get_o0))) (fun KK hKK => ?_) AllReadyH.nil)
          have ca11 := (H.out.blk 0 rfl).cell 2; simp only [List.getElem?_toArray, List.getElem?_cons_zero, List.getElem?_cons_succ] at ca11; have fa11 := (H.out.blk 0 rfl).frozen 2
          go_simp
          replace H := Lib.hid (H.out.setCell 0 rfl 2 (.slice A2 (x.nd.n + 1) c2)); (try simp only [List.set_cons_zero, List.set_cons_succ, List.cons_append, List.nil_append, List.eraseIdx_cons_zero, List.eraseIdx_cons_succ, List.setIfInBounds_toArray, World.size_alloc, selR, List.getD_cons_zero, List.getD_cons_succ] at H)
          clear ca11 fa11
          refine hKK.out _ _ trivial (fun hHeld => ?_)
          clear hKK KK
          try simp only [Act.put, List.setIfInBounds_toArray, List.set_cons_zero, List.set_cons_succ]
          refine wpAnyH_done (by kernel_rfl) ?_ _
          clear hHeld
          replace H := Lib.hid (H.out.mkNd 6 7 (n := (Nd.mk n.dim ⟨NA2, n.ls.n, nc2, NL⟩ n.all)) (by omega) rfl rfl HND.out (fun y hy => HNB.out y hy) hb1); (try simp only [List.set_cons_zero, List.set_cons_succ, List.cons_append, List.nil_append, List.eraseIdx_cons_zero, List.eraseIdx_cons_succ, List.setIfInBounds_toArray, World.size_alloc, selR, List.getD_cons_zero, List.getD_cons_succ] at H)
          replace H := Lib.hid (H.out.snocD 4 6 (a := (Nd.mk n.dim ⟨NA2, n.ls.n, nc2, NL⟩ n.all)) (by omega) rfl rfl); (try simp only [List.set_cons_zero, List.set_cons_succ, List.cons_append, List.nil_append, List.eraseIdx_cons_zero, List.eraseIdx_cons_succ, List.setIfInBounds_toArray, World.size_alloc, selR, List.getD_cons_zero, List.getD_cons_succ] at H)
          replace H := Lib.hid (H.out.sel [0, 1, 2, 3, 4] (by decide) (by simp)); (try simp only [List.set_cons_zero, List.set_cons_succ, List.cons_append, List.nil_append, List.eraseIdx_cons_zero, List.eraseIdx_cons_succ, List.setIfInBounds_toArray, World.size_alloc, selR, List.getD_cons_zero, List.getD_cons_succ] at H)
          clear HBD HCN
          have cz := (H.out.blk 0 rfl).cell 2; simp only [List.getElem?_toArray, List.getElem?_cons_zero, List.getElem?_cons_succ] at cz
          go_wp2_with fail
          (try rw [e1])
          refine bodyPost_ret (v := .tuple #[.int .i64 x.nd.n, .int .i64 0]) (by kernel_rfl) rfl ?_
          exact HP2.out (Nd.mk n.dim ⟨NA2, n.ls.n, nc2, NL⟩ n.all) _ _ _ (by show NC.mk _ _ _ = _; rw [HNL.out]) (by rw [arP_snoc]; exact H.out)

end Go.Proofs.Ytlclllkjnhgbjaa
