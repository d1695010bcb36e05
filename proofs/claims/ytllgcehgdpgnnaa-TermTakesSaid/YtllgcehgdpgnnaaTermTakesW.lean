/- The walk of the law TermTakes. -/
import Derived.Test.YtllgcehgdpgnnaaTermX
import Derived.Test.YtllgcehgdpgnnaaTermPutsW
namespace Go.Proofs.Ytllgcehgdpgnnaa
open Go.RowKit
set_option linter.unusedVariables false
set_option linter.unusedSimpArgs false

/-- A row read, and how many bytes are left, laid in two blocks of the law's own. -/
def RT2 (w0 : World) (B g gl : Nat) (o : PR (List (List UInt8))) (k : Int) (w' : World) : Prop :=
  Bel w0 w' ∧ k = prErr o ∧ ∃ v n, Blk w' g 37 #[v] ∧ Blk w' gl 3 #[.int .i64 n] ∧ ∀ ts l, o = .ok (ts, l) → n = (l.length : Int) ∧ w'.ownsRow (B + 3) 9 1 v ts.length (ts.map tx)

theorem own_apart' {w : World} {base : Nat} {e : TypeId} {size n : Nat} {v : Value} {xs : List Value} (h : w.ownsRow base e size v n xs) {g : Nat} (hg : g < base) : v.ownBlock = none ∨ v.ownBlock ≠ some g := own_apart h hg
theorem pfix_all (l : List UInt8) : pfix (l.length : Int) l = .ok (l, []) := by
  unfold pfix
  rw [if_neg (by omega), Int.toNat_natCast, List.take_length, List.drop_length]

set_option maxRecDepth 100000 in
set_option maxHeartbeats 1000000 in
theorem tt1_any (w0 : World) (B g gl gm : Nat) (s : List UInt8) (most : Int) (w : World) (m0 : -9223372036854775808 ≤ most) (m1 : most ≤ 9223372036854775807) (hI : InAll w0 B s s w) (hg0 : w0.heap.size ≤ g) (hgB : g < B) (hl0 : w0.heap.size ≤ gl) (hlB : gl < B) (hne : g ≠ gl)
    (hm : w.cell? ⟨gm, 0, none⟩ = some (.int .i64 most)) (v0 : Value) (hb : Blk w g 37 #[v0]) (hbl : Blk w gl 3 #[.int .i64 0]) :
    Calls Try.prog 51 #[.pointer (some ⟨B + 1, 0, none⟩), .pointer (some ⟨gm, 0, none⟩), .pointer (some ⟨g, 0, none⟩), .pointer (some ⟨gl, 0, none⟩)] w (AllPost B s (RT2 w0 B g gl (tread most s))) := by
  have HI := Lib.hid hI
  have Hb := Lib.hid hb
  have Hbl := Lib.hid hbl
  have HT := Lib.hid (tread_any (B + 1) s s most w hI.r m0 m1)
  have hlt : B + 2 < w.heap.size := hI.p.lt
  clear hI hb hbl
  go_enter Try.func51, Try.ntmps51
  go_wp2_with fail
  cases ho : tread most s with
  | error k =>
    have Ho := Lib.hid ho
    rw [ho] at HT
    refine HT.out.mono ?_; rintro e w1 ⟨rfl, hg, l1, hr⟩
    clear ho
    go_wp2_with fail
    refine ⟨rfl, ?_⟩
    refine (HI.out.read hg hr).err ⟨(HI.out.read hg hr).bel, rfl, v0, 0, Hb.out.grown hg (by simp; omega), Hbl.out.grown hg (by simp; omega), fun _ _ h => by cases h⟩
  | ok q =>
    obtain ⟨ts, l1⟩ := q
    have Ho := Lib.hid ho
    rw [ho] at HT
    refine HT.out.mono ?_; rintro e w1 ⟨v, rfl, hx⟩
    have b1 := Hb.out.grown hx.g (by simp; omega)
    have bl1 := Hbl.out.grown hx.g (by simp; omega)
    have c1 := b1.cell 0
    have f1 := b1.frozen 0
    have B1 := Lib.hid b1
    have BL1 := Lib.hid bl1
    have I1 := Lib.hid (HI.out.read hx.g hx.r)
    have O1 := Lib.hid hx.own
    simp only [List.getElem?_toArray, List.getElem?_cons_zero] at c1
    obtain ⟨A, c, rfl, _⟩ := own_slice hx.own
    clear b1 bl1 hx ho
    go_wp2_with fail
    have I2 := Lib.hid (I1.out.kept (grownBy_setCell w1 g 0 (.slice A ts.length c)) hg0 (by omega) (by omega) (by omega))
    have B2 : Hid (Blk (w1.setCell ⟨g, 0, none⟩ (.slice A ts.length c)) g 37 #[.slice A ts.length c]) := by
      have := B1.out.set_ 0 (.slice A ts.length c)
      show Blk _ _ _ _
      simpa using this
    have BL2 := Lib.hid (BL1.out.far (p := ⟨g, 0, none⟩) (by simp; omega) (.slice A ts.length c))
    have O2 : Hid ((w1.setCell ⟨g, 0, none⟩ (.slice A ts.length c)).ownsRow (B + 3) 9 1 (.slice A ts.length c) ts.length (ts.map tx)) := own_less (own_set O1.out (fun b hb => by have := own_ge O1.out hb; show b ≠ g; omega) _) (by omega)
    generalize w1.setCell ⟨g, 0, none⟩ (.slice A ts.length c) = W2 at *
    clear c1 f1 B1 BL1 I1 O1
    have hl1 := I2.out.r.len
    refine (left_any (B + 1) s l1 _ I2.out.r).mono ?_; rintro e w3 ⟨rfl, hb3⟩
    have bl3 := BL2.out.bel hb3
    have c3 := bl3.cell 0
    have f3 := bl3.frozen 0
    simp only [List.getElem?_toArray, List.getElem?_cons_zero] at c3
    have I3 := Lib.hid (I2.out.more hb3)
    have B3 := Lib.hid (B2.out.bel hb3)
    have BL3 := Lib.hid bl3
    have O3 := Lib.hid (own_bel O2.out hb3)
    clear I2 B2 BL2 O2 bl3 hb3
    go_wp2_with fail
    have I4 := Lib.hid (I3.out.kept (grownBy_setCell w3 gl 0 (.int .i64 l1.length)) hl0 (by omega) (by omega) (by omega))
    have BL4 : Hid (Blk (w3.setCell ⟨gl, 0, none⟩ (.int .i64 l1.length)) gl 3 #[.int .i64 l1.length]) := by
      have := BL3.out.set_ 0 (.int .i64 l1.length)
      show Blk _ _ _ _
      simpa using this
    have B4 := Lib.hid (B3.out.far (p := ⟨gl, 0, none⟩) (by simp; omega) (.int .i64 l1.length))
    have O4 := Lib.hid (own_set O3.out (p := ⟨gl, 0, none⟩) (fun b hb => by have := own_ge O3.out hb; show b ≠ gl; omega) (.int .i64 l1.length))
    generalize w3.setCell ⟨gl, 0, none⟩ (.int .i64 l1.length) = W4 at *
    clear c3 f3 I3 B3 BL3 O3
    have HF := Lib.hid (fix_any (B + 1) s l1 (l1.length : Int) _ I4.out.r (by omega) (by omega))
    rw [pfix_all] at HF
    refine HF.out.mono ?_; rintro e w5 ⟨rfl, hg5, hr5⟩
    go_wp2_with fail
    go_end0
    have I5 := I4.out.read hg5 hr5
    refine I5.ok ⟨I5.bel, by rw [Ho.out]; rfl, .slice A ts.length c, l1.length, B4.out.grown hg5 (by simp; omega), BL4.out.grown hg5 (by simp; omega), ?_⟩
    intro ts' l' h
    rw [Ho.out] at h
    injection h with h
    injection h with h1 h2
    subst h1
    subst h2
    exact ⟨rfl, O4.out.kept hg5 (own_apart' O4.out (by omega))⟩

theorem nput_pos (n : Nat) : 1 ≤ (nput n).length := by rw [nput_length]; exact nsize_pos n
theorem tputs_ge (ts : List (List UInt8)) : ∀ was, ts.length ≤ (tputs was ts).length := by
  induction ts with
  | nil => intro was; simp
  | cons t r ih =>
    intro was
    have h1 := ih t
    have h2 := nput_pos (alike was t)
    rw [tputs]
    simp only [List.length_append, List.length_cons]
    omega
theorem tput_ge (ts : List (List UInt8)) : ts.length ≤ (tput ts).length := by
  unfold tput
  rw [List.length_append]
  have := tputs_ge ts []
  omega

set_option maxRecDepth 100000 in
set_option maxHeartbeats 1000000 in
theorem walkl_termTakes (w : World) (s : List UInt8) (most : Int) (hs : s.length ≤ 9223372036854775807) (m0 : -9223372036854775808 ≤ most) (m1 : most ≤ 9223372036854775807) :
    Calls Try.prog 9 #[.string ⟨s.toArray⟩, .int .i64 most] w fun e w' => e = .returned (.bool true) ∧ Bel w w' := by
  have hmf : ∀ (fn : Fn) (first cap : Array Value) (w : World), (Instr.makeFunc fn first cap).run Try.prog w = .ok (.func fn first cap) w := fun _ _ _ _ => rfl
  have bm := Blk.new w 3 #[.int .i64 most]
  have hW := (Bel.refl w).alloc (.cells #[.int .i64 most] 3)
  by_cases hl : s.length ≤ 2000
  · cases ho : tread most s with
    | error k =>
      have Ho := Lib.hid ho
      have HT : Hid (ttake most s = ([], k)) := by show _ = _; unfold ttake; rw [ho]
      have hk := tread_err ho
      have HEnd : Hid (∀ t, endOf s t k = k) := by show ∀ t, _ = _; intro t; unfold endOf; rw [if_pos (by omega)]
      have dk : (k == 0) = false := by rcases hk with h | h <;> subst h <;> rfl
      have dk2 : (k != 0) = true := by rcases hk with h | h <;> subst h <;> rfl
      clear ho hk
      go_enter Try.func9, Try.ntmps9
      go_wp2_with fail
      refine (ttake_any s most _ m0 m1 (by omega)).mono ?_
      rw [HT.out]
      rintro e w2 ⟨A, c, rfl, hb2, hr2⟩
      have c2 := (bm.bel hb2).cell 0
      simp only [List.getElem?_toArray, List.getElem?_cons_zero] at c2
      have HB2 := Lib.hid (hW.trans hb2)
      have BM2 := Lib.hid (bm.bel hb2)
      have HR2 := Lib.hid hr2
      clear hb2 hr2 bm hW
      dsimp only [List.length_nil] at *
      go_wp2_with fail
      refine (rtread_any s most _ (by omega) m0 m1).mono ?_
      rw [Ho.out]
      rintro e w3 ⟨hb3, t, C, d, ds, rfl, hr3, hds⟩
      dsimp only [prErr]
      have HB3 := Lib.hid (HB2.out.trans hb3)
      have BM3 := Lib.hid (BM2.out.bel hb3)
      have HR3 := Lib.hid (HR2.out.bel hb3)
      have HD3 := Lib.hid hr3
      clear c2 hb3 hr3 hds HB2 BM2 HR2
      go_wp2_with (((with_reducible show wpList _ _ _ (⟨_, .store _ (.tmp 7) _, _, _, _, _⟩ :: _) _ _); refine wpList_store_new rfl rowScn (.tmp 7) (.tmp 30) rfl rfl rfl (scs s t k) rfl rfl (scs_one _ _ _) ?_))
      refine (rend_any s t k _).mono ?_; rintro e w4 ⟨rfl, hb4⟩
      rw [HEnd.out]
      have bR4 := (Blk.new w3 55 (scs s t k)).bel hb4
      have HB4 := Lib.hid ((HB3.out.alloc (.cells (scs s t k) 55)).trans hb4)
      have BM4 := Lib.hid ((BM3.out.alloc (.cells (scs s t k) 55)).bel hb4)
      have HR4 := Lib.hid ((HR3.out.bel ((Bel.refl _).alloc (.cells (scs s t k) 55))).bel hb4)
      have HD4 := Lib.hid ((HD3.out.bel ((Bel.refl _).alloc (.cells (scs s t k) 55))).bel hb4)
      have BR4 := Lib.hid bR4
      have hz4 : w3.heap.size < w4.heap.size := bR4.lt
      clear bR4 hb4 HB3 BM3 HR3 HD3
      go_wp2_with fail
      refine (texts_any A 0 c [] none 0 0 [] _ HR4.out Rd.nil (by omega) (by omega)).mono ?_; rintro e w5 ⟨rfl, hb5⟩
      rw [beq_self_eq_true]
      have HB5 := Lib.hid (HB4.out.trans hb5)
      have BM5 := Lib.hid (BM4.out.bel hb5)
      have HR5 := Lib.hid (HR4.out.bel hb5)
      have BR5 := Lib.hid (BR4.out.bel hb5)
      clear hb5 HB4 BM4 HR4 HD4 BR4 hz4
      go_wp2_with fail
      have hV : Bel w5 ((w5.alloc (Obj.cells #[Value.slice none 0 0] 37)).alloc (Obj.cells #[Value.int IntKind.i64 0] 3)) := ((Bel.refl w5).alloc _).alloc _
      have hVz : ((w5.alloc (Obj.cells #[Value.slice none 0 0] 37)).alloc (Obj.cells #[Value.int IntKind.i64 0] 3)).heap.size = w5.heap.size + 2 := by simp
      have o0 := (Blk.new w5 37 #[.slice none 0 0]).alloc (.cells #[.int .i64 0] 3)
      have o1 := Blk.new (w5.alloc (.cells #[.slice none 0 0] 37)) 3 #[.int .i64 0]
      simp only [World.size_alloc] at o1
      generalize ((w5.alloc (Obj.cells #[Value.slice none 0 0] 37)).alloc (Obj.cells #[Value.int IntKind.i64 0] 3)) = V at *
      refine (all_any 51 #[.pointer (some ⟨w.heap.size, 0, none⟩), .pointer (some ⟨w5.heap.size, 0, none⟩), .pointer (some ⟨w5.heap.size + 1, 0, none⟩)] s V (by omega) (RT2 w5 V.heap.size w5.heap.size (w5.heap.size + 1) (tread most s)) (cf_any Try.func51 (by kernel_rfl) (by kernel_rfl)) (fun w6 h1 h2 h3 h4 h5 => tt1_any w5 V.heap.size w5.heap.size (w5.heap.size + 1) w.heap.size s most w6 m0 m1 (.begin hV h1 h3 h4 h5) (Nat.le_refl _) (by omega) (by omega) (by omega) (by omega) ((BM5.out.bel (hV.trans h1)).cell 0) _ (o0.bel h1) (o1.bel h1))).mono ?_
      rintro e w7 ⟨k6, w6, rfl, ⟨hb6, hk6, v, n6, hv, hn6, ho6⟩, hbut, _⟩
      have hb7 := hb6.but2 (B := V.heap.size) (by omega) hbut
      have v7 := (hv.but2 hbut (by omega) (by omega)).cell 0
      have n7 := (hn6.but2 hbut (by omega) (by omega)).cell 0
      have r7 := (BR5.out.bel hb7).three
      obtain ⟨r70, r71, r72, _, _, _⟩ := r7
      simp only [List.getElem?_toArray, List.getElem?_cons_zero] at v7 n7
      rw [Ho.out] at hk6 ho6
      dsimp only [prErr] at hk6
      subst hk6
      have HB7 := Lib.hid (HB5.out.trans hb7)
      have HR7 := Lib.hid (HR5.out.bel hb7)
      clear ho6 hv hn6 hbut hb6 hb7 hV hVz o0 o1 HB5 BM5 HR5 BR5
      go_wp2_with fail
      refine (awake05_any _).mono ?_; rintro e w10 ⟨rfl, hb10⟩
      go_wp2
      go_ret
      exact ⟨rfl, HB7.out.trans hb10⟩
    | ok q =>
      obtain ⟨ts, l⟩ := q
      have Ho := Lib.hid ho
      by_cases hl0 : l = []
      · subst hl0
        have HT : Hid (ttake most s = (ts, 0)) := by show _ = _; unfold ttake; rw [ho]; simp
        obtain ⟨hE, hback⟩ := tread_back ho
        rw [List.append_nil] at hback
        have HBack := Lib.hid hback.symm
        have HV : Hid (tputV ts = (tput ts, 0)) := by show _ = _; unfold tputV; rw [if_pos hE]
        have HL : Hid (ts.length ≤ 2000) := by show _ ≤ _; have := tput_ge ts; rw [← hback] at this; omega
        have HL2 : Hid (ts.length ≤ 9223372036854775806) := by show _ ≤ _; have := HL.out; omega
        have HTx : Hid (TxOk ts) := by show TxOk ts; intro t ht; have := rowErr_len hE ht; omega
        clear ho hE hback
        go_enter Try.func9, Try.ntmps9
        go_wp2_with fail
        refine (ttake_any s most _ m0 m1 (by omega)).mono ?_
        rw [HT.out]
        rintro e w2 ⟨A, c, rfl, hb2, hr2⟩
        have c2 := (bm.bel hb2).cell 0
        simp only [List.getElem?_toArray, List.getElem?_cons_zero] at c2
        have HB2 := Lib.hid (hW.trans hb2)
        have BM2 := Lib.hid (bm.bel hb2)
        have HR2 := Lib.hid hr2
        clear hb2 hr2 bm hW
        dsimp only [List.length_nil] at *
        go_wp2_with fail
        refine (rtread_any s most _ (by omega) m0 m1).mono ?_
        rw [Ho.out]
        rintro e w3 ⟨hb3, t, C, d, ds, rfl, hr3, hds⟩
        obtain ⟨rfl, tn, rfl, htn, hnil⟩ := hds _ _ rfl
        have HNil := Lib.hid hnil
        clear hnil
        dsimp only [prErr]
        have HB3 := Lib.hid (HB2.out.trans hb3)
        have BM3 := Lib.hid (BM2.out.bel hb3)
        have HR3 := Lib.hid (HR2.out.bel hb3)
        have HD3 := Lib.hid hr3
        clear c2 hb3 hr3 hds HB2 BM2 HR2
        go_wp2_with (((with_reducible show wpList _ _ _ (⟨_, .store _ (.tmp 7) _, _, _, _, _⟩ :: _) _ _); refine wpList_store_new rfl rowScn (.tmp 7) (.tmp 30) rfl rfl rfl (scs s tn 0) rfl rfl (scs_one _ _ _) ?_))
        refine (rend_any s tn 0 _).mono ?_; rintro e w4 ⟨rfl, hb4⟩
        have hEnd : endOf s tn 0 = 0 := by unfold endOf; rw [if_neg (by omega), if_pos (by have := congrArg List.length HNil.out; simp at this; omega)]
        rw [hEnd]
        clear hEnd
        have bR4 := (Blk.new w3 55 (scs s tn 0)).bel hb4
        have HB4 := Lib.hid ((HB3.out.alloc (.cells (scs s tn 0) 55)).trans hb4)
        have BM4 := Lib.hid ((BM3.out.alloc (.cells (scs s tn 0) 55)).bel hb4)
        have HR4 := Lib.hid ((HR3.out.bel ((Bel.refl _).alloc (.cells (scs s tn 0) 55))).bel hb4)
        have HD4 := Lib.hid ((HD3.out.bel ((Bel.refl _).alloc (.cells (scs s tn 0) 55))).bel hb4)
        have BR4 := Lib.hid bR4
        have hz4 : w3.heap.size < w4.heap.size := bR4.lt
        clear bR4 hb4 HB3 BM3 HR3 HD3
        go_wp2_with fail
        refine (texts_any A ds.length c ds C ds.length d ds _ HR4.out HD4.out HL2.out HL2.out).mono ?_; rintro e w5 ⟨rfl, hb5⟩
        rw [beq_self_eq_true]
        have HB5 := Lib.hid (HB4.out.trans hb5)
        have BM5 := Lib.hid (BM4.out.bel hb5)
        have HR5 := Lib.hid (HR4.out.bel hb5)
        have BR5 := Lib.hid (BR4.out.bel hb5)
        clear hb5 HB4 BM4 HR4 HD4 BR4 hz4
        go_wp2_with fail
        have hV : Bel w5 ((w5.alloc (Obj.cells #[Value.slice none 0 0] 37)).alloc (Obj.cells #[Value.int IntKind.i64 0] 3)) := ((Bel.refl w5).alloc _).alloc _
        have hVz : ((w5.alloc (Obj.cells #[Value.slice none 0 0] 37)).alloc (Obj.cells #[Value.int IntKind.i64 0] 3)).heap.size = w5.heap.size + 2 := by simp
        have o0 := (Blk.new w5 37 #[.slice none 0 0]).alloc (.cells #[.int .i64 0] 3)
        have o1 := Blk.new (w5.alloc (.cells #[.slice none 0 0] 37)) 3 #[.int .i64 0]
        simp only [World.size_alloc] at o1
        generalize ((w5.alloc (Obj.cells #[Value.slice none 0 0] 37)).alloc (Obj.cells #[Value.int IntKind.i64 0] 3)) = V at *
        refine (all_any 51 #[.pointer (some ⟨w.heap.size, 0, none⟩), .pointer (some ⟨w5.heap.size, 0, none⟩), .pointer (some ⟨w5.heap.size + 1, 0, none⟩)] s V (by omega) (RT2 w5 V.heap.size w5.heap.size (w5.heap.size + 1) (tread most s)) (cf_any Try.func51 (by kernel_rfl) (by kernel_rfl)) (fun w6 h1 h2 h3 h4 h5 => tt1_any w5 V.heap.size w5.heap.size (w5.heap.size + 1) w.heap.size s most w6 m0 m1 (.begin hV h1 h3 h4 h5) (Nat.le_refl _) (by omega) (by omega) (by omega) (by omega) ((BM5.out.bel (hV.trans h1)).cell 0) _ (o0.bel h1) (o1.bel h1))).mono ?_
        rintro e w7 ⟨k6, w6, rfl, ⟨hb6, hk6, v, n6, hv, hn6, ho6⟩, hbut, _⟩
        have hb7 := hb6.but2 (B := V.heap.size) (by omega) hbut
        have v7 := (hv.but2 hbut (by omega) (by omega)).cell 0
        have n7 := (hn6.but2 hbut (by omega) (by omega)).cell 0
        have r7 := (BR5.out.bel hb7).three
        obtain ⟨r70, r71, r72, _, _, _⟩ := r7
        simp only [List.getElem?_toArray, List.getElem?_cons_zero] at v7 n7
        rw [Ho.out] at hk6 ho6
        dsimp only [prErr] at hk6
        subst hk6
        obtain ⟨rfl, hown6⟩ := ho6 _ _ rfl
        have HO7 := Lib.hid (own_but2 hown6 hbut (by omega))
        clear hown6
        have HB7 := Lib.hid (HB5.out.trans hb7)
        have HR7 := Lib.hid (HR5.out.bel hb7)
        have hs0 : (tn : Int) = s.length := by have := congrArg List.length HNil.out; simp at this; omega
        have HS0 := Lib.hid hs0
        clear hs0
        rw [HS0.out] at r71
        clear ho6 hv hn6 hbut hb6 hb7 hV hVz o0 o1 HB5 BM5 HR5 BR5
        obtain ⟨E, ec, rfl, _⟩ := own_slice HO7.out
        go_wp2_with fail
        refine (tput_any A ds.length c ds _ HR7.out (HTx.out) (by have := HL.out; omega)).mono ?_; rintro e w8 ⟨rfl, hb8⟩
        rw [HV.out]
        have v8 := (hb8.cell (World.block_lt_of_cell? _ _ v7)).trans v7
        clear v7 n7 r70 r71 r72
        have HBK := Lib.hid HBack.out
        dsimp only
        have e8 : (tput ds == s) = true := by rw [HBack.out, beq_self_eq_true]
        go_wp2_with fail
        refine (texts_any E ds.length ec ds A ds.length c ds _ ((Rd.of_own HO7.out).bel hb8) (HR7.out.bel hb8) HL2.out HL2.out).mono ?_; rintro e w9 ⟨rfl, hb9⟩
        rw [beq_self_eq_true]
        go_wp2_with fail
        refine (awake05_any _).mono ?_; rintro e w10 ⟨rfl, hb10⟩
        go_wp2
        go_ret
        exact ⟨rfl, ((HB7.out.trans hb8).trans hb9).trans hb10⟩
      · have HT : Hid (ttake most s = ([], 3)) := by show _ = _; unfold ttake; rw [ho]; simp [hl0]
        have Hl0 := Lib.hid hl0
        clear ho hl0
        go_enter Try.func9, Try.ntmps9
        go_wp2_with fail
        refine (ttake_any s most _ m0 m1 (by omega)).mono ?_
        rw [HT.out]
        rintro e w2 ⟨A, c, rfl, hb2, hr2⟩
        have c2 := (bm.bel hb2).cell 0
        simp only [List.getElem?_toArray, List.getElem?_cons_zero] at c2
        have HB2 := Lib.hid (hW.trans hb2)
        have BM2 := Lib.hid (bm.bel hb2)
        have HR2 := Lib.hid hr2
        clear hb2 hr2 bm hW
        dsimp only [List.length_nil] at *
        go_wp2_with fail
        refine (rtread_any s most _ (by omega) m0 m1).mono ?_
        rw [Ho.out]
        rintro e w3 ⟨hb3, t, C, d, ds, rfl, hr3, hds⟩
        obtain ⟨rfl, tn, rfl, htn, rfl⟩ := hds _ _ rfl
        dsimp only [prErr]
        have HB3 := Lib.hid (HB2.out.trans hb3)
        have BM3 := Lib.hid (BM2.out.bel hb3)
        have HR3 := Lib.hid (HR2.out.bel hb3)
        have HD3 := Lib.hid hr3
        clear c2 hb3 hr3 hds HB2 BM2 HR2
        go_wp2_with (((with_reducible show wpList _ _ _ (⟨_, .store _ (.tmp 7) _, _, _, _, _⟩ :: _) _ _); refine wpList_store_new rfl rowScn (.tmp 7) (.tmp 30) rfl rfl rfl (scs s tn 0) rfl rfl (scs_one _ _ _) ?_))
        refine (rend_any s tn 0 _).mono ?_; rintro e w4 ⟨rfl, hb4⟩
        have hEnd : endOf s tn 0 = 3 := by unfold endOf; rw [if_neg (by omega), if_neg (fun h => Hl0.out (List.drop_of_length_le (by omega)))]
        rw [hEnd]
        clear hEnd
        have bR4 := (Blk.new w3 55 (scs s tn 0)).bel hb4
        have HB4 := Lib.hid ((HB3.out.alloc (.cells (scs s tn 0) 55)).trans hb4)
        have BM4 := Lib.hid ((BM3.out.alloc (.cells (scs s tn 0) 55)).bel hb4)
        have HR4 := Lib.hid ((HR3.out.bel ((Bel.refl _).alloc (.cells (scs s tn 0) 55))).bel hb4)
        have HD4 := Lib.hid ((HD3.out.bel ((Bel.refl _).alloc (.cells (scs s tn 0) 55))).bel hb4)
        have BR4 := Lib.hid bR4
        have hz4 : w3.heap.size < w4.heap.size := bR4.lt
        clear bR4 hb4 HB3 BM3 HR3 HD3
        go_wp2_with fail
        refine (texts_any A 0 c [] none 0 0 [] _ HR4.out Rd.nil (by omega) (by omega)).mono ?_; rintro e w5 ⟨rfl, hb5⟩
        rw [beq_self_eq_true]
        have HB5 := Lib.hid (HB4.out.trans hb5)
        have BM5 := Lib.hid (BM4.out.bel hb5)
        have HR5 := Lib.hid (HR4.out.bel hb5)
        have BR5 := Lib.hid (BR4.out.bel hb5)
        clear hb5 HB4 BM4 HR4 HD4 BR4 hz4
        go_wp2_with fail
        have hV : Bel w5 ((w5.alloc (Obj.cells #[Value.slice none 0 0] 37)).alloc (Obj.cells #[Value.int IntKind.i64 0] 3)) := ((Bel.refl w5).alloc _).alloc _
        have hVz : ((w5.alloc (Obj.cells #[Value.slice none 0 0] 37)).alloc (Obj.cells #[Value.int IntKind.i64 0] 3)).heap.size = w5.heap.size + 2 := by simp
        have o0 := (Blk.new w5 37 #[.slice none 0 0]).alloc (.cells #[.int .i64 0] 3)
        have o1 := Blk.new (w5.alloc (.cells #[.slice none 0 0] 37)) 3 #[.int .i64 0]
        simp only [World.size_alloc] at o1
        generalize ((w5.alloc (Obj.cells #[Value.slice none 0 0] 37)).alloc (Obj.cells #[Value.int IntKind.i64 0] 3)) = V at *
        refine (all_any 51 #[.pointer (some ⟨w.heap.size, 0, none⟩), .pointer (some ⟨w5.heap.size, 0, none⟩), .pointer (some ⟨w5.heap.size + 1, 0, none⟩)] s V (by omega) (RT2 w5 V.heap.size w5.heap.size (w5.heap.size + 1) (tread most s)) (cf_any Try.func51 (by kernel_rfl) (by kernel_rfl)) (fun w6 h1 h2 h3 h4 h5 => tt1_any w5 V.heap.size w5.heap.size (w5.heap.size + 1) w.heap.size s most w6 m0 m1 (.begin hV h1 h3 h4 h5) (Nat.le_refl _) (by omega) (by omega) (by omega) (by omega) ((BM5.out.bel (hV.trans h1)).cell 0) _ (o0.bel h1) (o1.bel h1))).mono ?_
        rintro e w7 ⟨k6, w6, rfl, ⟨hb6, hk6, v, n6, hv, hn6, ho6⟩, hbut, _⟩
        have hb7 := hb6.but2 (B := V.heap.size) (by omega) hbut
        have v7 := (hv.but2 hbut (by omega) (by omega)).cell 0
        have n7 := (hn6.but2 hbut (by omega) (by omega)).cell 0
        have r7 := (BR5.out.bel hb7).three
        obtain ⟨r70, r71, r72, _, _, _⟩ := r7
        simp only [List.getElem?_toArray, List.getElem?_cons_zero] at v7 n7
        rw [Ho.out] at hk6 ho6
        dsimp only [prErr] at hk6
        subst hk6
        obtain ⟨rfl, hown6⟩ := ho6 _ _ rfl
        have HO7 := Lib.hid (own_but2 hown6 hbut (by omega))
        clear hown6
        have HB7 := Lib.hid (HB5.out.trans hb7)
        have HR7 := Lib.hid (HR5.out.bel hb7)
        clear ho6 hv hn6 hbut hb6 hb7 hV hVz o0 o1 HB5 BM5 HR5 BR5
        have el : ((s.drop tn).length : Int) = (s.length : Int) - tn := by rw [List.length_drop]; omega
        rw [el] at n7
        clear el
        go_wp2_with fail
        refine (awake05_any _).mono ?_; rintro e w10 ⟨rfl, hb10⟩
        go_wp2
        go_ret
        exact ⟨rfl, HB7.out.trans hb10⟩
  · go_enter Try.func9, Try.ntmps9
    go_wp2_with fail
    refine (awake05_any _).mono ?_; rintro e w2 ⟨rfl, hb⟩
    go_wp2
    go_ret
    exact ⟨rfl, hW.trans hb⟩

theorem walk_termTakes (b : ByteArray) (hb : b.size ≤ 9223372036854775807) (n : Int) (wn : (Lit.int .i64 n).wf = true) (w : World) :
    Calls Try.prog 9 #[.string b, .int .i64 n] w fun e w' => e = .returned (.bool true) ∧ Bel w w' := by
  obtain ⟨⟨l⟩⟩ := b
  obtain ⟨n0, n1⟩ := bounds_i64 wn
  exact walkl_termTakes w l n (by simpa [ByteArray.size] using hb) n0 n1

end Go.Proofs.Ytllgcehgdpgnnaa
