/- The walk of the law TakeReads. -/
import Derived.Test.YtllgcehgdpgnnaaTakeJ
namespace Go.Proofs.Ytllgcehgdpgnnaa
open Go.RowKit
set_option linter.unusedVariables false
set_option linter.unusedSimpArgs false

instance instCelHrd : Cel (Int × List UInt8) where
  size := 2
  bytes := 24
  cells := hcs
  ok _ _ := True
  len _ := rfl
  pos := by omega
  mono _ h := h
set_option maxRecDepth 100000 in
theorem guard_hrd : Try.prog.eqGuardType Try.prog.depth 51 = false := by kernel_rfl
set_option maxRecDepth 100000 in
theorem neq_hrd (x : Int × List UInt8) (W : World) : (binOp .neq 51 (.agg #[.int .i64 x.1, .string ⟨x.2.toArray⟩]) (.agg #[.int .i64 x.1, .string ⟨x.2.toArray⟩])).run Try.prog W = .ok (.bool false) W := by
  go_simp

/-- The document's reading under way: the scan's block, and what was told. -/
structure QW (w7 : World) (s : List UInt8) (t kk : Int) (v : Value) (ds : List (Int × List UInt8)) (wr : World) : Prop where
  bel : Bel w7 wr
  q : Blk wr w7.heap.size 55 (scs s t kk)
  own : wr.ownsRow (w7.heap.size + 1) 51 2 v ds.length (ds.flatMap hcs)
section
variable {w7 w1 w2 : World} {s : List UInt8} {t kk t' k' : Int} {v v' : Value} {ds : List (Int × List UInt8)}
theorem QW.more (h : QW w7 s t kk v ds w1) (hb : Bel w1 w2) : QW w7 s t kk v ds w2 := ⟨h.bel.trans hb, h.q.bel hb, own_bel h.own hb⟩
theorem QW.setQ (h : QW w7 s t kk v ds w1) (hg : w1.grownBy w2 (some w7.heap.size)) (hA : Blk w2 w7.heap.size 55 (scs s t' k')) : QW w7 s t' k' v ds w2 :=
  ⟨h.bel.grownAt hg (Nat.le_refl _), hA, h.own.kept hg (own_apart h.own (by omega))⟩
theorem QW.far (h : QW w7 s t kk v ds w1) {g : Nat} (hg : w1.grownBy w2 (some g)) (h1 : w7.heap.size < g) (h2 : ∀ b, v.ownBlock = some b → b ≠ g) : QW w7 s t kk v ds w2 :=
  ⟨h.bel.grownAt hg (by omega), h.q.grown hg (by intro e; injection e with e; omega), h.own.kept hg (by
    rcases ho : v.ownBlock with _ | k
    · exact .inl rfl
    · exact .inr fun e => h2 k ho (Option.some.inj e))⟩
theorem QW.app {x : Int × List UInt8} (h : QW w7 s t kk v ds w1) (ho : w2.ownsRow (w7.heap.size + 1) 51 2 v' (ds.length + 1) (ds.flatMap hcs ++ hcs x)) (hg : w1.grownBy w2 v.ownBlock) : QW w7 s t kk v' (ds ++ [x]) w2 :=
  ⟨h.bel.grown hg (fun k e => by have := own_ge h.own e; omega), h.q.grown hg (fun e => by have := own_ge h.own e.symm; omega), by simpa using ho⟩
end

set_option maxRecDepth 100000 in
set_option maxHeartbeats 2000000 in
theorem walkl_takeReads (w : World) (s : List UInt8) (hs : s.length ≤ 1000) (A : Option Addr) (n c : Nat) (sts : List Stp) (hr : Rd w 3 A n (sts.flatMap Cel.cells)) (hok : ∀ a ∈ sts, a.ok) (hn : n ≤ 100) :
    Calls Try.prog 5 #[.string ⟨s.toArray⟩, .slice A n c] w fun e w' => e = .returned (.bool true) ∧ Bel w w' := by
  have hmf : ∀ (fn : Fn) (first cap : Array Value) (w : World), (Instr.makeFunc fn first cap).run Try.prog w = .ok (.func fn first cap) w := fun _ _ _ _ => rfl
  have hlen : Hid (sts.length = n) := rd_len hr
  have bm := Blk.new w 44 #[.slice A n c]
  have hW := (Bel.refl w).alloc (.cells #[.slice A n c] 44)
  have d1 : decide ((1000 : Int) < s.length) = false := by simp; omega
  have d2 : decide ((100 : Int) < n) = false := by simp; omega
  go_enter Try.func5, Try.ntmps5
  go_wp2_with fail
  clear d1 d2
  have hr1 := hr.bel hW
  have hm1 := bm.cell 0
  simp only [List.getElem?_toArray, List.getElem?_cons_zero] at hm1
  have hz1 : (w.alloc (.cells #[.slice A n c] 44)).heap.size = w.heap.size + 1 := by simp
  generalize w.alloc (.cells #[.slice A n c] 44) = W1 at *
  have hV := (Bel.refl W1).alloc (.cells #[.slice none 0 0] 45)
  have hVz : (W1.alloc (.cells #[.slice none 0 0] 45)).heap.size = W1.heap.size + 1 := by simp
  have o0 := Blk.new W1 45 #[.slice none 0 0]
  rw [hz1] at o0
  generalize W1.alloc (.cells #[.slice none 0 0] 45) = V at *
  refine (all_any 28 #[.pointer (some ⟨w.heap.size, 0, none⟩), .pointer (some ⟨w.heap.size + 1, 0, none⟩)] s V (by omega) (RH W1 V.heap.size (w.heap.size + 1) (preads sts s)) (cf_any Try.func28 (by kernel_rfl) (by kernel_rfl)) (fun w4 h1 h2 h3 h4 h5 => reads1_any W1 V.heap.size (w.heap.size + 1) w.heap.size s A n c sts w4 (.begin hV h1 h3 h4 h5) (by omega) (by omega) hm1 hr1 hok hn (o0.bel h1))).mono ?_
  rintro e w7 ⟨k5, w5, rfl, ⟨hb5, hk5, v, hv, hown⟩, hbut, _⟩
  have hb7 := hb5.but2 (B := V.heap.size) (by omega) hbut
  have v7 := hv.but2 hbut (by omega) (by omega)
  have own7 := own_but2 hown hbut (by omega)
  have HB7 := Lib.hid (hW.trans hb7)
  have HR7 := Lib.hid (hr1.bel hb7)
  have m7 := (hb7.cell (World.block_lt_of_cell? _ _ hm1)).trans hm1
  have hz7 : w.heap.size + 1 < w7.heap.size := v7.lt
  have hz8 : w.heap.size < w7.heap.size := by omega
  obtain ⟨g, hg⟩ : ∃ g, g = w.heap.size + 1 := ⟨_, rfl⟩
  have HGG := Lib.hid hg
  rw [← hg] at v7
  obtain ⟨AG, cG, rfl, _⟩ := own_slice own7
  have HG := Lib.hid (Rd.of_own own7)
  have BG := Lib.hid v7
  have HK5 := Lib.hid hk5
  have HOK := Lib.hid hok
  clear hk5 hv hown hbut hb5 hb7 v7 own7 hm1 hr1 hr hok hW hV hVz hz1 o0 bm
  rw [← hg]
  clear hg
  have q0 : QW w7 s 0 0 (.slice none 0 0) [] (w7.alloc (.cells (scs s 0 0) 55)) := ⟨(Bel.refl _).alloc _, Blk.new w7 _ _, ⟨rfl, .inl ⟨rfl, rfl⟩⟩⟩
  have Q0 := Lib.hid q0
  have HE0 : Hid (preads sts s = ([] ++ (preads (sts.drop 0) (s.drop 0)).1, (preads (sts.drop 0) (s.drop 0)).2)) := by show _ = _; simp
  have hg7 : g < w7.heap.size := by have := HGG.out; omega
  clear q0
  go_wp2_with ((with_reducible show wpList _ _ _ (⟨_, .store _ (.tmp 8) _, _, _, _, _⟩ :: _) _ _); refine wpList_store_new rfl rowScn (.tmp 8) (.tmp 27) rfl rfl rfl (scs s 0 0) rfl rfl (scs_one _ _ _) ?_)
  go_loopg [6, 30] n (fun gg s6 i wr => ∃ (k : Nat) (ds : List (Int × List UInt8)) (t : Nat), gg = n - k ∧ k ≤ n ∧ i = .int .i64 k ∧ t ≤ s.length ∧ Hid (ds.length = k) ∧ Hid (QW w7 s t 0 s6 ds wr) ∧ Hid (preads sts s = (ds ++ (preads (sts.drop k) (s.drop t)).1, (preads (sts.drop k) (s.drop t)).2)))
  case atStart => exact ⟨0, [], 0, rfl, by omega, rfl, by omega, rfl, Q0, HE0⟩
  case round =>
    clear Q0 HE0 m7
    obtain ⟨k, ds, t, hgk, hk, rfl, ht, hdk, H, hE⟩ := hrel
    have Hgk := Lib.hid hgk
    clear hgk
    by_cases hlt : k < n
    · obtain ⟨ab, ao, a, rfl, _, hak, hrg⟩ := rd_range (HR7.out.bel H.out.bel) hlt
      have ha := HOK.out a (List.mem_of_getElem? hak)
      have HRG := Lib.hid hrg
      have HAK := Lib.hid hak
      have bq := H.out.q
      have hzr := bq.lt
      have p2 := Blk.new wr 49 a.cs
      have H2 := Lib.hid (H.out.more ((Bel.refl wr).alloc (.cells a.cs 49)))
      have bq2 := H2.out.q
      clear hrg hak bq H
      go_wp2_with (first | ((with_reducible show wpList _ _ _ (⟨some 33, _, _, _, _, _⟩ :: _) _ _); refine wpList_load_row_at rfl rowStp (.tmp 32) rfl ab (ao + k * 3) rfl a.cs rfl HRG.out ?_) | ((with_reducible show wpList _ _ _ (⟨_, .store _ (.tmp 10) _, _, _, _, _⟩ :: _) _ _); refine wpList_store_new rfl rowStp (.tmp 10) (.tmp 33) rfl rfl rfl a.cs rfl rfl (by simp [Value.oneCell']) ?_) | ((with_reducible show wpList _ _ _ (⟨some 35, _, _, _, _, _⟩ :: _) _ _); refine wpList_load_blk rfl rowScn (.tmp 8) rfl w7.heap.size rfl bq2 rfl ?_) | ((with_reducible show wpList _ _ _ (⟨some 36, _, _, _, _, _⟩ :: _) _ _); refine wpList_load_blk rfl rowStp (.tmp 10) rfl wr.heap.size rfl p2 rfl ?_))
      refine (told_any s t a (by omega) ht _ ha).mono ?_; rintro e w3 ⟨t3, k3, x, rfl, hb3, hS⟩
      have H3 := Lib.hid (H2.out.more hb3)
      have y4 := (Blk.new w3 55 (scs [] 0 0)).alloc (.cells #[.int .i64 0, .string ⟨#[]⟩] 51)
      have z4 := Blk.new (w3.alloc (.cells (scs [] 0 0) 55)) 51 #[.int .i64 0, .string ⟨#[]⟩]
      rw [World.size_alloc] at z4
      have H4 := Lib.hid ((H3.out.more ((Bel.refl _).alloc (.cells (scs [] 0 0) 55))).more ((Bel.refl _).alloc (.cells #[.int .i64 0, .string ⟨#[]⟩] 51)))
      have hv3 : ∀ b, u6.ownBlock = some b → b < w3.heap.size := fun b hb => own_lt H3.out.own hb
      have hq3 : w7.heap.size < w3.heap.size := H3.out.q.lt
      clear p2 bq2 hb3 H2
      by_cases hk3 : k3 = 0
      · subst hk3
        rcases hS.out with ⟨hbad, _⟩ | ⟨_, t4, rfl, ht4, hp⟩
        · exact absurd rfl hbad
        have HN : Hid (preads sts s = ((ds ++ [x]) ++ (preads (sts.drop (k + 1)) (s.drop t4)).1, (preads (sts.drop (k + 1)) (s.drop t4)).2)) := by show _ = _; rw [hE.out, preads_ok HAK.out hp]; simp
        clear hp hE hS
        go_wp2_with (first | ((with_reducible show wpList _ _ _ (⟨_, .store _ (.tmp 11) _, _, _, _, _⟩ :: _) _ _); refine wpList_store_blk rfl rowScn (.tmp 11) (.tmp 38) rfl w3.heap.size rfl y4 rfl (scs s t4 0) rfl rfl (scs_one _ _ _) ?_; intro w5 y5 hg5; have z5 := z4.grown hg5 (by simp); have H5 := Lib.hid (H4.out.far hg5 (by omega) (fun b hb => by have := hv3 b hb; omega)); clear hg5 y4 z4 H4) | ((with_reducible show wpList _ _ _ (⟨_, .store _ (.tmp 12) _, _, _, _, _⟩ :: _) _ _); refine wpList_store_blk rfl rowHrd (.tmp 12) (.tmp 39) rfl (w3.heap.size + 1) rfl z5 rfl #[.int .i64 x.1, .string ⟨x.2.toArray⟩] rfl rfl (by simp [Value.oneCell']) ?_; intro w6 z6 hg6; have y6 := y5.grown hg6 (by simp); have H6 := Lib.hid (H5.out.far hg6 (by omega) (fun b hb => by have := hv3 b hb; omega)); clear hg6 y5 z5 H5) | ((with_reducible show wpList _ _ _ (⟨some 40, _, _, _, _, _⟩ :: _) _ _); refine wpList_load_blk rfl rowScn (.tmp 11) rfl w3.heap.size rfl y6 rfl ?_) | ((with_reducible show wpList _ _ _ (⟨_, .store _ (.tmp 8) _, _, _, _, _⟩ :: _) _ _); refine wpList_store_blk rfl rowScn (.tmp 8) (.tmp 40) rfl w7.heap.size rfl H6.out.q rfl (scs s t4 0) rfl rfl (scs_one _ _ _) ?_; intro w8 q8 hg8; have H8 := Lib.hid (H6.out.setQ hg8 q8); have z8 := z6.grown hg8 (by intro e; injection e with e; omega); obtain ⟨e0, e1, e2, _, _, _⟩ := q8.three; clear q8 hg8 y6 z6 H6) | ((with_reducible show wpList _ _ _ (⟨some 45, _, _, _, _, _⟩ :: _) _ _); refine wpList_load_blk rfl rowHrd (.tmp 12) rfl (w3.heap.size + 1) rfl z8 rfl ?_) | ((with_reducible show wpList _ _ _ (⟨some 46, _, _, _, _, _⟩ :: _) _ _); refine wpList_buildSlice1 rfl E_hrd (.tmp 45) rfl #[.int .i64 x.1, .string ⟨x.2.toArray⟩] rfl rfl (by omega) ?_) | ((with_reducible show wpList _ _ _ (⟨some 47, _, _, _, _, _⟩ :: _) _ _); refine wpList_append0 rfl (.tmp 44) (.tmp 46) _ rfl E_hrd (w7.heap.size + 1) (by have := H8.out.q.lt; simp; omega) u6 ds.length (ds.flatMap hcs) rfl (H8.out.more ((Bel.refl _).alloc _)).own _ 1 1 [.int .i64 x.1, .string ⟨x.2.toArray⟩] rfl (rd_new _ _ _ 1 2 rfl) (by simp [Value.oneCell']) (by have := hdk.out; unfold maxLen; omega) (by have := hdk.out; omega) ?_; intro v9 w9 hown9 hg9 hat9))
        go_roundg (n - (k + 1))
        case rel => exact ⟨k + 1, ds ++ [x], t4, rfl, by omega, by go_num, ht4, by show _ = _; have := hdk.out; simp [this], (H8.out.more ((Bel.refl _).alloc _)).app hown9 hg9, HN⟩
        case measure => rw [Hgk.out]; omega
      · have hp : pask a (s.drop t) = .error k3 := by
          rcases hS.out with ⟨_, hp⟩ | ⟨h, _⟩
          · exact hp
          · exact absurd h hk3
        have HP : Hid (preads sts s = (ds, .error k3)) := by show _ = _; rw [hE.out, preads_err HAK.out hp]; simp
        have hk4 : (k3 != 0) = true := by simpa using hk3
        have HEnd : Hid (endOf s t3 k3 = k5) := by show _ = _; rw [HK5.out, HP.out]; unfold endOf; rw [if_pos hk3]; rfl
        clear hp hE hS hk3
        go_upto_region 14 with (first | ((with_reducible show wpList _ _ _ (⟨_, .store _ (.tmp 11) _, _, _, _, _⟩ :: _) _ _); refine wpList_store_blk rfl rowScn (.tmp 11) (.tmp 38) rfl w3.heap.size rfl y4 rfl (scs s t3 k3) rfl rfl (scs_one _ _ _) ?_; intro w5 y5 hg5; have z5 := z4.grown hg5 (by simp); have H5 := Lib.hid (H4.out.far hg5 (by omega) (fun b hb => by have := hv3 b hb; omega)); clear hg5 y4 z4 H4) | ((with_reducible show wpList _ _ _ (⟨_, .store _ (.tmp 12) _, _, _, _, _⟩ :: _) _ _); refine wpList_store_blk rfl rowHrd (.tmp 12) (.tmp 39) rfl (w3.heap.size + 1) rfl z5 rfl #[.int .i64 x.1, .string ⟨x.2.toArray⟩] rfl rfl (by simp [Value.oneCell']) ?_; intro w6 z6 hg6; have y6 := y5.grown hg6 (by simp); have H6 := Lib.hid (H5.out.far hg6 (by omega) (fun b hb => by have := hv3 b hb; omega)); clear hg6 y5 z5 H5) | ((with_reducible show wpList _ _ _ (⟨some 40, _, _, _, _, _⟩ :: _) _ _); refine wpList_load_blk rfl rowScn (.tmp 11) rfl w3.heap.size rfl y6 rfl ?_) | ((with_reducible show wpList _ _ _ (⟨_, .store _ (.tmp 8) _, _, _, _, _⟩ :: _) _ _); refine wpList_store_blk rfl rowScn (.tmp 8) (.tmp 40) rfl w7.heap.size rfl H6.out.q rfl (scs s t3 k3) rfl rfl (scs_one _ _ _) ?_; intro w8 q8 hg8; have H8 := Lib.hid (H6.out.setQ hg8 q8); have z8 := z6.grown hg8 (by intro e; injection e with e; omega); obtain ⟨e0, e1, e2, _, _, _⟩ := q8.three; clear q8 hg8 y6 z6 H6))
        rw [HP.out] at HG BG
        dsimp only at HG BG
        have hd100 : ds.length ≤ 100 := by have := hdk.out; omega
        have G1 := Lib.hid (HG.out.bel H8.out.bel)
        have gb := (BG.out.bel H8.out.bel).cell 0
        simp only [List.getElem?_toArray, List.getElem?_cons_zero] at gb
        have bq := H8.out.q
        obtain ⟨A6, c6, rfl, _⟩ := own_slice H8.out.own
        have G2 := Lib.hid (Rd.of_own H8.out.own)
        have hgz : g < w8.heap.size := World.block_lt_of_cell? _ _ gb
        go_wp2_with ((with_reducible show wpList _ _ _ (⟨some 50, _, _, _, _, _⟩ :: _) _ _); refine wpList_load_blk rfl rowScn (.tmp 8) rfl w7.heap.size rfl bq rfl ?_)
        refine (rend_any s t3 k3 _).mono ?_; rintro e w9 ⟨rfl, hb9⟩
        rw [HEnd.out]
        replace gb := (hb9.cell hgz).trans gb
        have g1 := Lib.hid (G1.out.bel hb9)
        have g2 := Lib.hid (G2.out.bel hb9)
        have HB9 := Lib.hid (H8.out.bel.trans hb9)
        clear hb9 bq H8 G1 G2 hgz
        go_wp2_with fail
        go_loopg [62] ds.length (fun gg i wr => ∃ k : Nat, gg = ds.length - k ∧ k ≤ ds.length ∧ i = .int .i64 k ∧ Hid (Bel w9 wr))
        case atStart => exact ⟨0, rfl, by omega, rfl, Bel.refl _⟩
        case round =>
          obtain ⟨k, hgk, hk, rfl, hB⟩ := hrel
          have Hgk := Lib.hid hgk
          clear hgk
          have gk1 := (hB.out.cell (World.block_lt_of_cell? _ _ gb)).trans gb
          by_cases hlt : k < ds.length
          · obtain ⟨b1, o1, x, rfl, hlt1, hx1, hr1⟩ := rd_range (α := Int × List UInt8) (g1.out.bel hB.out) hlt
            obtain ⟨b2, o2, y, rfl, hlt2, hy2, hr2⟩ := rd_range (α := Int × List UInt8) (g2.out.bel hB.out) hlt
            obtain rfl : x = y := by rw [hx1] at hy2; injection hy2
            have R1 := Lib.hid hr1
            have R2 := Lib.hid hr2
            have i0 : (0 : Int) ≤ k := by omega
            have i1 : (k : Int) < ds.length := by omega
            clear hx1 hy2 hr1 hr2
            go_wp2_with fail
            have d0 := fun u : Over wr => Over.cell gk1 u
            refine wp_region_over (by kernel_rfl) (by kernel_rfl) ?_
            repeat (first
              | ((with_reducible show wpQuiet _ _ _ _ (⟨some 68, _, _, _, _, _⟩ :: _) _); refine wpQuiet_load_row rfl rowHrd (.tmp 67) rfl b1 (o1 + k * 2) rfl #[.int .i64 x.1, .string ⟨x.2.toArray⟩] rfl hlt1 R1.out ?_; simp only [Act.put, List.setIfInBounds_toArray, List.set_cons_zero, List.set_cons_succ])
              | ((with_reducible show wpQuiet _ _ _ _ (⟨some 72, _, _, _, _, _⟩ :: _) _); refine wpQuiet_load_row rfl rowHrd (.tmp 71) rfl b2 (o2 + k * 2) rfl #[.int .i64 x.1, .string ⟨x.2.toArray⟩] rfl hlt2 R2.out ?_; simp only [Act.put, List.setIfInBounds_toArray, List.set_cons_zero, List.set_cons_succ])
              | ((with_reducible show wpQuiet _ _ _ _ (⟨some 73, _, _, _, _, _⟩ :: _) _); refine wpQuiet_cmp_row rfl .neq 51 51 (.tmp 68) (.tmp 72) rfl rfl rfl guard_hrd (neq_hrd x) ?_; simp only [Act.put, List.setIfInBounds_toArray, List.set_cons_zero, List.set_cons_succ])
              | go_big_quiet_step (fail))
            refine wpQuiet_nil ?_
            rintro _ ⟨u, rfl⟩
            clear d0
            go_wp2_with fail
            go_roundg (ds.length - (k + 1))
            case rel => exact ⟨k + 1, rfl, by omega, by go_num, hB.out.trans u.bel⟩
            case measure => rw [Hgk.out]; omega
          · go_wp2_with fail
            refine (awake04_any _).mono ?_; rintro e w10 ⟨rfl, hb10⟩
            go_wp2
            go_ret
            exact ⟨rfl, ((HB7.out.trans HB9.out).trans hB.out).trans hb10⟩
    · have HP : Hid (preads sts s = (ds, .ok ((), s.drop t))) := by
        show _ = _
        rw [hE.out, List.drop_of_length_le (by have := hlen.out; omega)]
        simp [preads]
      have HEnd : Hid (endOf s t 0 = k5) := by
        show _ = _
        rw [HK5.out, HP.out]
        unfold endOf endErr
        rw [if_neg (by omega)]
        simp only
        by_cases h : (t : Int) = s.length
        · rw [if_pos h, if_pos (List.drop_of_length_le (by omega))]
        · rw [if_neg h, if_neg (by intro e; have := congrArg List.length e; simp at this; omega)]
      clear hE
      rw [HP.out] at HG BG
      dsimp only at HG BG
      go_upto_region 14 with fail
      have hd100 : ds.length ≤ 100 := by have := hdk.out; omega
      have G1 := Lib.hid (HG.out.bel H.out.bel)
      have gb := (BG.out.bel H.out.bel).cell 0
      simp only [List.getElem?_toArray, List.getElem?_cons_zero] at gb
      have bq := H.out.q
      obtain ⟨A6, c6, rfl, _⟩ := own_slice H.out.own
      have G2 := Lib.hid (Rd.of_own H.out.own)
      have hgz : g < wr.heap.size := World.block_lt_of_cell? _ _ gb
      go_wp2_with ((with_reducible show wpList _ _ _ (⟨some 50, _, _, _, _, _⟩ :: _) _ _); refine wpList_load_blk rfl rowScn (.tmp 8) rfl w7.heap.size rfl bq rfl ?_)
      refine (rend_any s t 0 _).mono ?_; rintro e w9 ⟨rfl, hb9⟩
      rw [HEnd.out]
      replace gb := (hb9.cell hgz).trans gb
      have g1 := Lib.hid (G1.out.bel hb9)
      have g2 := Lib.hid (G2.out.bel hb9)
      have HB9 := Lib.hid (H.out.bel.trans hb9)
      clear hb9 bq H G1 G2 hgz
      go_wp2_with fail
      go_loopg [62] ds.length (fun gg i wr => ∃ k : Nat, gg = ds.length - k ∧ k ≤ ds.length ∧ i = .int .i64 k ∧ Hid (Bel w9 wr))
      case atStart => exact ⟨0, rfl, by omega, rfl, Bel.refl _⟩
      case round =>
        obtain ⟨k, hgk, hk, rfl, hB⟩ := hrel
        have Hgk := Lib.hid hgk
        clear hgk
        have gk1 := (hB.out.cell (World.block_lt_of_cell? _ _ gb)).trans gb
        by_cases hlt : k < ds.length
        · obtain ⟨b1, o1, x, rfl, hlt1, hx1, hr1⟩ := rd_range (α := Int × List UInt8) (g1.out.bel hB.out) hlt
          obtain ⟨b2, o2, y, rfl, hlt2, hy2, hr2⟩ := rd_range (α := Int × List UInt8) (g2.out.bel hB.out) hlt
          obtain rfl : x = y := by rw [hx1] at hy2; injection hy2
          have R1 := Lib.hid hr1
          have R2 := Lib.hid hr2
          have i0 : (0 : Int) ≤ k := by omega
          have i1 : (k : Int) < ds.length := by omega
          clear hx1 hy2 hr1 hr2
          go_wp2_with fail
          have d0 := fun u : Over wr => Over.cell gk1 u
          refine wp_region_over (by kernel_rfl) (by kernel_rfl) ?_
          repeat (first
            | ((with_reducible show wpQuiet _ _ _ _ (⟨some 68, _, _, _, _, _⟩ :: _) _); refine wpQuiet_load_row rfl rowHrd (.tmp 67) rfl b1 (o1 + k * 2) rfl #[.int .i64 x.1, .string ⟨x.2.toArray⟩] rfl hlt1 R1.out ?_; simp only [Act.put, List.setIfInBounds_toArray, List.set_cons_zero, List.set_cons_succ])
            | ((with_reducible show wpQuiet _ _ _ _ (⟨some 72, _, _, _, _, _⟩ :: _) _); refine wpQuiet_load_row rfl rowHrd (.tmp 71) rfl b2 (o2 + k * 2) rfl #[.int .i64 x.1, .string ⟨x.2.toArray⟩] rfl hlt2 R2.out ?_; simp only [Act.put, List.setIfInBounds_toArray, List.set_cons_zero, List.set_cons_succ])
            | ((with_reducible show wpQuiet _ _ _ _ (⟨some 73, _, _, _, _, _⟩ :: _) _); refine wpQuiet_cmp_row rfl .neq 51 51 (.tmp 68) (.tmp 72) rfl rfl rfl guard_hrd (neq_hrd x) ?_; simp only [Act.put, List.setIfInBounds_toArray, List.set_cons_zero, List.set_cons_succ])
            | go_big_quiet_step (fail))
          refine wpQuiet_nil ?_
          rintro _ ⟨u, rfl⟩
          clear d0
          go_wp2_with fail
          go_roundg (ds.length - (k + 1))
          case rel => exact ⟨k + 1, rfl, by omega, by go_num, hB.out.trans u.bel⟩
          case measure => rw [Hgk.out]; omega
        · go_wp2_with fail
          refine (awake04_any _).mono ?_; rintro e w10 ⟨rfl, hb10⟩
          go_wp2
          go_ret
          exact ⟨rfl, ((HB7.out.trans HB9.out).trans hB.out).trans hb10⟩

theorem walk_takeReads (w : World) (b : ByteArray) (hb : b.size ≤ 9223372036854775807) (x : Row Stp) (hx : x.ok w) :
    Calls Try.prog 5 #[.string b, x.v] w fun e w' => e = .returned (.bool true) ∧ Bel w w' := by
  obtain ⟨⟨l⟩⟩ := b
  have hb' : l.length ≤ 9223372036854775807 := by simpa [ByteArray.size] using hb
  by_cases h1 : l.length ≤ 1000
  · by_cases h2 : x.n ≤ 100
    · exact walkl_takeReads w l h1 x.A x.n x.c x.l hx.rd hx.all h2
    · have hn := hx.size
      obtain ⟨A, n, c, sts⟩ := x
      simp only [Row.v] at *
      have d1 : decide ((1000 : Int) < l.length) = false := by simp; omega
      have d2 : decide ((100 : Int) < n) = true := by simp; omega
      clear hx
      go_enter Try.func5, Try.ntmps5
      go_wp2_with fail
      refine (awake04_any _).mono ?_; rintro e w5 ⟨rfl, hb5⟩
      go_wp2
      go_ret
      exact ⟨rfl, ((Bel.refl w).alloc _).trans hb5⟩
  · have hn := hx.size
    obtain ⟨A, n, c, sts⟩ := x
    simp only [Row.v] at *
    have d1 : decide ((1000 : Int) < l.length) = true := by simp; omega
    clear hx
    go_enter Try.func5, Try.ntmps5
    go_wp2_with fail
    refine (awake04_any _).mono ?_; rintro e w5 ⟨rfl, hb5⟩
    go_wp2
    go_ret
    exact ⟨rfl, ((Bel.refl w).alloc _).trans hb5⟩

end Go.Proofs.Ytllgcehgdpgnnaa
