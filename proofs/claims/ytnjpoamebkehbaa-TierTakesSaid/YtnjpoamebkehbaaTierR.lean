/- tier.Read: a tier read by a reader. -/
import Derived.Test.YtnjpoamebkehbaaTierZ
import Derived.Test.YtnjpoamebkehbaaStep
import Derived.Test.YtnjpoamebkehbaaTermT
import Derived.Test.YtnjpoamebkehbaaTermX
namespace Go.Proofs.Ytnjpoamebkehbaa
open Go.RowKit
set_option linter.unusedVariables false
set_option linter.unusedSimpArgs false

section
variable {P : Program} {w : World}
theorem step_buildSlice1v {ops : Array Oper} {o : Oper} {a : Act} {K : Act → World → Prop} {Q : Exit → Act → World → Prop} {X : Prop} (hgd : o.guard = none) {t e : TypeId} {size bytes : Nat} (E : ElemInfo P t e size bytes) (x : Operand) (ho : o.op = .buildSlice t 1 #[(0, x)])
    (v : Value) (hx : a.eval x = v) (cs : Array Value) (hc : v.cells = cs) (hv : cs.size = size) (hs : size ≤ 1000)
    (h : K (a.put o.dst (.slice (some ⟨w.heap.size, 0, none⟩) 1 1)) (w.alloc (.cells cs e))) :
    if Region.wanted o (yielded ops a.tmps) = true then Oper.wp P o a w K Q else X := by
  subst hc
  have hw : Region.wanted o (yielded ops a.tmps) = true := by simp [Region.wanted, hgd]
  rw [if_pos hw]
  unfold Oper.wp execOp
  have hr := run_buildSlice1 E v hv hs w
  simp only [ho, List.map_toArray, List.map_cons, List.map_nil, hx, Sem.run_bind, hr, Result.andThen_ok, Sem.run_pure]
  exact h
end

/-- A tier's reading under way. -/
structure TrW (w : World) (b y : Nat) (s l nm : List UInt8) (v : Value) (ts : List (List UInt8)) (u : Value) (ups : List Int) (wr : World) : Prop where
  g : w.grownBy wr (some b)
  r : Rdr wr b s l
  Z : Blk wr w.heap.size 30 #[.string ⟨#[]⟩, .slice none 0 0, .slice none 0 0]
  Y : Blk wr y 30 #[.string ⟨nm.toArray⟩, v, u]
  ts : wr.ownsRow (w.heap.size + 1) 9 1 v ts.length (ts.map tx)
  up : wr.ownsRow (w.heap.size + 1) 3 1 u ups.length (ups.map (Value.int .i64))
theorem ne_it : (3 : TypeId) ≠ 9 := by decide
theorem ne_ir : (3 : TypeId) ≠ 30 := by decide
theorem ne_sr : (9 : TypeId) ≠ 30 := by decide
theorem kept_ne {w w' : World} {base : Nat} {e : TypeId} {size n g : Nat} {v : Value} {xs : List Value} (h : w.ownsRow base e size v n xs) (hg : w.grownBy w' (some g)) (hne : v.ownBlock ≠ some g) : w'.ownsRow base e size v n xs :=
  h.kept hg (by
    rcases ho : v.ownBlock with _ | k
    · exact .inl rfl
    · exact .inr (by rw [← ho]; exact hne))
section
variable {w w1 w2 : World} {b y : Nat} {s l l' nm : List UInt8} {v u u' : Value} {ts : List (List UInt8)} {ups : List Int}
theorem TrW.read (h : TrW w b y s l nm v ts u ups w1) (hb : b < w.heap.size) (hg : w1.grownBy w2 (some b)) (hr : Rdr w2 b s l') (hy : w.heap.size < y := by assumption) : TrW w b y s l' nm v ts u ups w2 :=
  ⟨h.g.trans hg, hr, h.Z.grown hg (by intro e; injection e with e; omega), h.Y.grown hg (by intro e; injection e with e; omega), h.ts.kept hg (own_apart h.ts (by omega)), h.up.kept hg (own_apart h.up (by omega))⟩
theorem TrW.more (h : TrW w b y s l nm v ts u ups w1) (hb : Bel w1 w2) : TrW w b y s l nm v ts u ups w2 :=
  ⟨h.g.trans (grown_of_bel hb _), h.r.bel hb, h.Z.bel hb, h.Y.bel hb, own_bel h.ts hb, own_bel h.up hb⟩
theorem TrW.app {x : Int} (h : TrW w b y s l nm v ts u ups w1) (ho : w2.ownsRow (w.heap.size + 1) 3 1 u' (ups.length + 1) (ups.map (Value.int .i64) ++ [.int .i64 x])) (hg : w1.grownBy w2 u.ownBlock) (hb : b < w.heap.size := by assumption) :
    w.grownBy w2 (some b) ∧ Rdr w2 b s l ∧ Blk w2 w.heap.size 30 #[.string ⟨#[]⟩, .slice none 0 0, .slice none 0 0] ∧ Blk w2 y 30 #[.string ⟨nm.toArray⟩, v, u] ∧ w2.ownsRow (w.heap.size + 1) 9 1 v ts.length (ts.map tx) ∧ w2.ownsRow (w.heap.size + 1) 3 1 u' (ups ++ [x]).length ((ups ++ [x]).map (Value.int .i64)) := by
  have hu := h.up
  refine ⟨h.g.andThen hg (fun j e => .inl (by have := own_ge hu e; omega)), h.r.grown hg (fun e => by have := own_ge hu e.symm; omega), h.Z.grown hg (fun e => by have := own_ge hu e.symm; omega), h.Y.grown hg (fun e => own_blk_ne hu h.Y ne_ir e.symm), own_grown h.ts hg (apart_types h.ts hu (fun e => ne_it e.symm)), by simpa using ho⟩
theorem TrW.stored (hg : w.grownBy w1 (some b)) (hr : Rdr w1 b s l) (hz : Blk w1 w.heap.size 30 #[.string ⟨#[]⟩, .slice none 0 0, .slice none 0 0]) (hY : Blk w1 y 30 #[.string ⟨nm.toArray⟩, v, u]) (ht : w1.ownsRow (w.heap.size + 1) 9 1 v ts.length (ts.map tx)) (ho : w1.ownsRow (w.heap.size + 1) 3 1 u' ups.length (ups.map (Value.int .i64))) (hyb : y ≠ b) (hyw : w.heap.size ≤ y) (hy : w.heap.size < y) : TrW w b y s l nm v ts u' ups (w1.setCell ⟨y, 2, none⟩ u') := by
  have g := grownBy_setCell w1 y 2 u'
  refine ⟨hg.andThen g (fun k e => by injection e with e; exact .inl (by omega)), hr.grown g (by intro e; injection e with e; omega), hz.grown g (by intro e; injection e with e; omega), ?_, ?_, ?_⟩
  · have := hY.set_ 2 u'
    simpa using this
  · exact kept_ne ht g (own_blk_ne ht hY ne_sr)
  · exact kept_ne ho g (own_blk_ne ho hY ne_ir)
end

/-- Numbers read, ahead of others. -/
def aheadI (ds : List Int) (o : PR (List Int)) : PR (List Int) := match o with | .error e => .error e | .ok (xs, r) => .ok (ds ++ xs, r)
theorem aheadI_nil (o : PR (List Int)) : aheadI [] o = o := by rcases o with e | ⟨xs, r⟩ <;> rfl
theorem aheadI_step {ds : List Int} {most : Int} {n x : Nat} {l r : List UInt8} (h : pnum most l = .ok (x, r)) : aheadI ds (pnums most (n + 1) l) = aheadI (ds ++ [(x : Int)]) (pnums most n r) := by
  simp only [pnums, h]
  rcases pnums most n r with e | ⟨xs, r2⟩
  · rfl
  · simp [aheadI]
theorem aheadI_err {ds : List Int} {most k : Int} {n : Nat} {l : List UInt8} (h : pnum most l = .error k) : aheadI ds (pnums most (n + 1) l) = .error k := by
  simp only [pnums, h]
  rfl
/-- What is read behind the members. -/
def ptail (above : Int) (nm : List UInt8) (ts : List (List UInt8)) (o : PR (List Int)) : PR TC := match o with | .error k => .error k | .ok (up, r) => ptierC above ⟨nm, ts, up⟩ r
theorem tread_len {most : Int} {l r : List UInt8} {ts : List (List UInt8)} (h : tread most l = .ok (ts, r)) : (ts.length : Int) ≤ most := by
  unfold tread at h
  split at h
  · cases h
  · rename_i n r1 hp
    have h1 := (treads_back (p := none) h (.inr ⟨rfl, rfl⟩)).2.1
    have h2 := (pnum_ok hp).2.1
    omega
theorem ptier_ok {above : Int} {l r r2 nm : List UInt8} {ts : List (List UInt8)} (h1 : ptxt 12 l = .ok (nm, r)) (h2 : tread 200 r = .ok (ts, r2)) : ptier above l = ptail above nm ts (pups above ts.length r2) := by
  unfold ptier
  rw [h1]
  simp only
  rw [h2]
  simp only
  unfold ptail
  cases pups above ts.length r2 <;> rfl

/-- A tier whose rows lie in new memory. -/
structure TirOwn (base : Nat) (T : Tir) (w : World) : Prop where
  ts : w.ownsRow base 9 1 (.slice T.ts.A T.ts.n T.ts.c) T.ts.n (T.ts.l.map tx)
  up : w.ownsRow base 3 1 (.slice T.up.A T.up.n T.up.c) T.up.n (T.up.l.map (Value.int .i64))
  nm : T.nm.length ≤ 12
  tl : ∀ t ∈ T.ts.l, t.length ≤ 16
  ul : ∀ z ∈ T.up.l, I64 z
  tn : T.ts.n ≤ 200
  un : T.up.n ≤ 200
theorem TirOwn.rd {base : Nat} {T : Tir} {w : World} (h : TirOwn base T w) : T.rd w :=
  ⟨by have := h.nm; omega, ⟨by have := Rd.of_own h.ts; rw [flat_texts]; exact this, fun t ht => by have := h.tl t ht; show t.length ≤ _; omega, by have := h.tn; omega⟩, ⟨by have := Rd.of_own h.up; rw [flat_ints]; exact this, fun z hz => h.ul z hz, by have := h.un; omega⟩⟩
theorem TirOwn.kept {base : Nat} {T : Tir} {w w' : World} {g : Nat} (h : TirOwn base T w) (hg : w.grownBy w' (some g)) (hb : g < base) : TirOwn base T w' :=
  ⟨h.ts.kept hg (own_apart h.ts hb), h.up.kept hg (own_apart h.up hb), h.nm, h.tl, h.ul, h.tn, h.un⟩
theorem TirOwn.bel {base : Nat} {T : Tir} {w w' : World} (h : TirOwn base T w) (hb : Bel w w') : TirOwn base T w' := ⟨own_bel h.ts hb, own_bel h.up hb, h.nm, h.tl, h.ul, h.tn, h.un⟩
theorem TirOwn.less {base base' : Nat} {T : Tir} {w : World} (h : TirOwn base T w) (hb : base' ≤ base) : TirOwn base' T w := ⟨own_less h.ts hb, own_less h.up hb, h.nm, h.tl, h.ul, h.tn, h.un⟩
/-- How tier.Read ends. -/
def TrPost (b : Nat) (s : List UInt8) (o : PR TC) (w : World) (e : Ending) (w' : World) : Prop :=
  match o with
  | .error k => RErr b s k w e w'
  | .ok (t, l) => ∃ T : Tir, e = .returned (.agg T.cs) ∧ T.con = t ∧ w.grownBy w' (some b) ∧ Rdr w' b s l ∧ TirOwn (w.heap.size + 1) T w'

set_option maxRecDepth 100000 in
set_option maxHeartbeats 2000000 in
theorem trread_any (b : Nat) (s l : List UInt8) (above : Int) (w : World) (hR : Rdr w b s l) (ha : I64 above) :
    Calls Try.prog 32 #[.pointer (some ⟨b, 0, none⟩), .int .i64 above] w (TrPost b s (ptier above l) w) := by
  have hb := hR.lt
  have hl0 := hR.len
  obtain ⟨a0, a1⟩ := ha
  have HC := Lib.hid (fun (T : Tir) w (h : T.rd w) (hn : T.up.n ≤ 100000) => trcheck_any T above w h hn ⟨a0, a1⟩)
  have HZ := Lib.hid (Blk.new w 30 #[.string ⟨#[]⟩, .slice none 0 0, .slice none 0 0])
  have HT := Lib.hid (text_any b s l 12 (w.alloc (.cells #[.string ⟨#[]⟩, .slice none 0 0, .slice none 0 0] 30)) (hR.bel ((Bel.refl w).alloc _)) (by omega) (by omega))
  have HG : Hid (w.grownBy (w.alloc (.cells #[.string ⟨#[]⟩, .slice none 0 0, .slice none 0 0] 30)) (some b)) := grown_of_bel ((Bel.refl w).alloc _) _
  clear hR
  go_enter Try.func32, Try.ntmps32
  go_wp2_with fail
  cases hp : ptxt 12 l with
  | error k =>
    have HE : Hid (ptier above l = .error k) := by show _ = _; unfold ptier; rw [hp]
    rw [hp] at HT
    refine HT.out.mono ?_; rintro e w1 ⟨rfl, hg, hr⟩
    clear hp
    go_wp2_with fail
    refine ⟨rfl, ?_⟩
    rw [HE.out]
    exact ⟨rfl, HG.out.trans hg, hr⟩
  | ok q =>
    obtain ⟨nm, r1⟩ := q
    have Hp := Lib.hid hp
    obtain ⟨hnm, _⟩ := ptxt_ok hp
    rw [hp] at HT
    refine HT.out.mono ?_; rintro e w1 ⟨rfl, hg, hr⟩
    have G1 := Lib.hid (HG.out.trans hg)
    have Z1 := Lib.hid (HZ.out.grown hg (by intro e; injection e with e; omega))
    have HD := Lib.hid (tread_any b s r1 200 w1 hr (by omega) (by omega))
    have hz1 : w.heap.size < w1.heap.size := Z1.out.lt
    clear hp hg hr HG HZ HT
    go_wp2_with fail
    cases hd : tread 200 r1 with
    | error k =>
      have HE : Hid (ptier above l = .error k) := by show _ = _; unfold ptier; rw [Hp.out]; simp only; rw [hd]
      rw [hd] at HD
      refine HD.out.mono ?_; rintro e w2 ⟨rfl, hg, hr⟩
      clear hd
      go_wp2_with fail
      refine ⟨rfl, ?_⟩
      rw [HE.out]
      exact ⟨rfl, G1.out.trans hg, hr⟩
    | ok q =>
      obtain ⟨ts, r2⟩ := q
      have HE := Lib.hid (ptier_ok (above := above) Hp.out hd)
      have hrow := (tread_back hd).1
      have htl : Hid (∀ t ∈ ts, t.length ≤ 16) := fun t ht => rowErr_len hrow ht
      rw [hd] at HD
      refine HD.out.mono ?_; rintro e w2 ⟨v, rfl, hx⟩
      obtain ⟨A, c, rfl, _⟩ := own_slice hx.own
      have hn200 : ts.length ≤ 200 := by have := tread_len hd; omega
      have H2 : Hid (TrW w b w2.heap.size s r2 nm (.slice A ts.length c) ts (.slice none 0 0) [] (w2.alloc (.cells #[.string ⟨nm.toArray⟩, .slice A ts.length c, .slice none 0 0] 30))) :=
        ⟨(G1.out.trans hx.g).trans (grown_of_bel ((Bel.refl _).alloc _) _), hx.r.bel ((Bel.refl _).alloc _), (Z1.out.grown hx.g (by intro e; injection e with e; omega)).alloc _, Blk.new w2 _ _, own_bel (own_less hx.own (by omega)) ((Bel.refl _).alloc _), ⟨rfl, .inl ⟨rfl, rfl⟩⟩⟩
      have hyz : w.heap.size < w2.heap.size := by have := hx.g.size; omega
      have hyb : w2.heap.size ≠ b := by omega
      have hyw : w.heap.size ≤ w2.heap.size := by omega
      clear hd hx HD G1 Z1 hrow Hp
      by_cases h0 : 0 < above
      · have HE2 : Hid (ptier above l = ptail above nm ts (aheadI [] (pnums (above - 1) (ts.length - 0) r2))) := by show _ = _; rw [HE.out, aheadI_nil]; unfold pups; rw [if_pos h0]; rfl
        have wa : IntKind.i64.wrap (above - 1) = above - 1 := IntWalk.i64_in _ (by omega)
        obtain ⟨n, hn⟩ : ∃ n, n = ts.length := ⟨_, rfl⟩
        have HNN := Lib.hid hn
        rw [← hn] at HE2 H2 hn200
        rw [← hn]
        clear hn HE
        go_wp2_with (((with_reducible show wpList _ _ _ (⟨_, .store _ (.tmp 5) _, _, _, _, _⟩ :: _) _ _); refine wpList_store_new rfl rowTir (.tmp 5) (.tmp 11) rfl rfl rfl #[.string ⟨nm.toArray⟩, .slice A n c, .slice none 0 0] rfl rfl (by simp [Value.oneCell']) ?_))
        go_loopg [17] n (fun gg i wr => ∃ (k : Nat) (u : Value) (ups : List Int) (lr : List UInt8), gg = n - k ∧ k ≤ n ∧ i = .int .i64 k ∧ Hid (ups.length = k) ∧ Hid (∀ z ∈ ups, I64 z) ∧ Hid (TrW w b w2.heap.size s lr nm (.slice A n c) ts u ups wr) ∧ Hid (ptier above l = ptail above nm ts (aheadI ups (pnums (above - 1) (n - k) lr))))
        case atStart => exact ⟨0, _, [], r2, rfl, by omega, rfl, rfl, (fun z hz => by cases hz), H2, HE2⟩
        case round =>
          clear H2 HE2
          obtain ⟨k, u, ups, lr, hgk, hk, rfl, hdk, HX, H, hE⟩ := hrel
          have Hgk := Lib.hid hgk
          clear hgk
          by_cases hlt : k < n
          · have HA := Lib.hid (fun w (h : Rdr w b s lr) => num_any b s lr (above - 1) w h (by omega) (by omega))
            cases hp : pnum (above - 1) lr with
            | error e =>
              have HN : Hid (ptier above l = .error e) := by show _ = _; rw [hE.out, show n - k = (n - (k + 1)) + 1 by omega, aheadI_err hp]; rfl
              rw [hp] at HA
              clear hp hE
              go_wp2_with fail
              refine wp_region_held_drew (S := fun _ => True) (by kernel_rfl) trivial (fun hHeld => ?_)
              have H1 := Lib.hid (H.out.more (Bel.refl wr).drew)
              generalize wr.drew = w2d at *
              refine wpAnyH_take (i := 0) (v := ?v0) (get_o0) (by kernel_rfl) (by kernel_rfl) (by kernel_rfl) (by exact fun _ _ _ h => h) (Or.inl ⟨by rfl, ?hy0⟩) (by assumption) ?_
              case hy0 => (intro w hSw; (try dsimp only at hSw); go_simp) <;> with_reducible rfl
              try simp only [Act.put, List.setIfInBounds_toArray, List.set_cons_zero, List.set_cons_succ]
              refine wpAnyH_take (i := 2) (v := ?v2) (get_os (get_os (get_o0))) (by kernel_rfl) (by kernel_rfl) (by kernel_rfl) (by exact fun _ _ _ h => h) (Or.inl ⟨by rfl, ?hy2⟩) (by assumption) ?_
              case hy2 => (intro w hSw; (try dsimp only at hSw); go_simp) <;> with_reducible rfl
              try simp only [Act.put, List.setIfInBounds_toArray, List.set_cons_zero, List.set_cons_succ]
              refine wpAnyH_take (i := 3) (v := ?v3) (get_os (get_os (get_os (get_o0)))) (by kernel_rfl) (by kernel_rfl) (by kernel_rfl) (by exact fun _ _ _ h => h) (Or.inl ⟨by rfl, ?hy3⟩) (by assumption) ?_
              case hy3 => (intro w hSw; (try dsimp only at hSw); go_simp) <;> with_reducible rfl
              try simp only [Act.put, List.setIfInBounds_toArray, List.set_cons_zero, List.set_cons_succ]
              refine wpAnyH_take (i := 4) (v := ?v4) (get_os (get_os (get_os (get_os (get_o0))))) (by kernel_rfl) (by kernel_rfl) (by kernel_rfl) (by exact fun _ _ _ h => h) (Or.inl ⟨by rfl, ?hy4⟩) (by assumption) ?_
              case hy4 => (intro w hSw; (try dsimp only at hSw); go_simp) <;> with_reducible rfl
              try simp only [Act.put, List.setIfInBounds_toArray, List.set_cons_zero, List.set_cons_succ]
              refine wpAnyH_ready (rs := [1, 5]) (by kernel_rfl) (by simp) ?_
              refine AllReadyH.cons (get_os (get_o0)) (fun KK hKK => ?_) (AllReadyH.cons (get_os (get_os (get_os (get_os (get_os (get_o0)))))) (fun KK hKK => ?_) AllReadyH.nil)
              · have c0 := H1.out.Y.cell 2
                simp only [List.getElem?_toArray, List.getElem?_cons_zero, List.getElem?_cons_succ] at c0
                go_simp
                clear c0
                refine hKK.out _ _ trivial (fun hHeld => ?_)
                clear hKK KK
                try simp only [Act.put, List.setIfInBounds_toArray, List.set_cons_zero, List.set_cons_succ]
                refine wpAnyH_ready (rs := [5]) (by kernel_rfl) (by simp) ?_
                refine AllReadyH.cons (get_os (get_os (get_os (get_os (get_os (get_o0)))))) (fun KK hKK => ?_) AllReadyH.nil
                go_simp
                refine (HA.out _ H1.out.r).mono ?_; rintro e' w3 ⟨rfl, hg3, hr3⟩
                refine ⟨rfl, ?_⟩
                rw [HN.out]
                exact ⟨rfl, H1.out.g.trans hg3, hr3⟩
              · go_simp
                refine (HA.out _ H1.out.r).mono ?_; rintro e' w3 ⟨rfl, hg3, hr3⟩
                refine ⟨rfl, ?_⟩
                rw [HN.out]
                exact ⟨rfl, H1.out.g.trans hg3, hr3⟩
            | ok q =>
              obtain ⟨x, r⟩ := q
              have HN : Hid (ptier above l = ptail above nm ts (aheadI (ups ++ [(x : Int)]) (pnums (above - 1) (n - (k + 1)) r))) := by show _ = _; rw [hE.out, show n - k = (n - (k + 1)) + 1 by omega, aheadI_step hp]
              have HX2 : Hid (∀ z ∈ ups ++ [(x : Int)], I64 z) := by
                intro z hz
                rcases List.mem_append.1 hz with hz | hz
                · exact HX.out z hz
                · have := pnum_ok hp
                  simp at hz
                  subst hz
                  unfold I64
                  omega
              rw [hp] at HA
              clear hp hE
              go_wp2_with fail
              refine wp_region_held_drew (S := fun _ => True) (by kernel_rfl) trivial (fun hHeld => ?_)
              have H1 := Lib.hid (H.out.more (Bel.refl wr).drew)
              generalize wr.drew = w2d at *
              refine wpAnyH_take (i := 0) (v := ?v0) (get_o0) (by kernel_rfl) (by kernel_rfl) (by kernel_rfl) (by exact fun _ _ _ h => h) (Or.inl ⟨by rfl, ?hy0⟩) (by assumption) ?_
              case hy0 => (intro w hSw; (try dsimp only at hSw); go_simp) <;> with_reducible rfl
              try simp only [Act.put, List.setIfInBounds_toArray, List.set_cons_zero, List.set_cons_succ]
              refine wpAnyH_take (i := 2) (v := ?v2) (get_os (get_os (get_o0))) (by kernel_rfl) (by kernel_rfl) (by kernel_rfl) (by exact fun _ _ _ h => h) (Or.inl ⟨by rfl, ?hy2⟩) (by assumption) ?_
              case hy2 => (intro w hSw; (try dsimp only at hSw); go_simp) <;> with_reducible rfl
              try simp only [Act.put, List.setIfInBounds_toArray, List.set_cons_zero, List.set_cons_succ]
              refine wpAnyH_take (i := 3) (v := ?v3) (get_os (get_os (get_os (get_o0)))) (by kernel_rfl) (by kernel_rfl) (by kernel_rfl) (by exact fun _ _ _ h => h) (Or.inl ⟨by rfl, ?hy3⟩) (by assumption) ?_
              case hy3 => (intro w hSw; (try dsimp only at hSw); go_simp) <;> with_reducible rfl
              try simp only [Act.put, List.setIfInBounds_toArray, List.set_cons_zero, List.set_cons_succ]
              refine wpAnyH_take (i := 4) (v := ?v4) (get_os (get_os (get_os (get_os (get_o0))))) (by kernel_rfl) (by kernel_rfl) (by kernel_rfl) (by exact fun _ _ _ h => h) (Or.inl ⟨by rfl, ?hy4⟩) (by assumption) ?_
              case hy4 => (intro w hSw; (try dsimp only at hSw); go_simp) <;> with_reducible rfl
              try simp only [Act.put, List.setIfInBounds_toArray, List.set_cons_zero, List.set_cons_succ]
              refine wpAnyH_ready (rs := [1, 5]) (by kernel_rfl) (by simp) ?_
              refine AllReadyH.cons (get_os (get_o0)) (fun KK hKK => ?_) (AllReadyH.cons (get_os (get_os (get_os (get_os (get_os (get_o0)))))) (fun KK hKK => ?_) AllReadyH.nil)
              · have c0 := H1.out.Y.cell 2
                simp only [List.getElem?_toArray, List.getElem?_cons_zero, List.getElem?_cons_succ] at c0
                go_simp
                clear c0
                refine hKK.out _ _ trivial (fun hHeld => ?_)
                clear hKK KK
                try simp only [Act.put, List.setIfInBounds_toArray, List.set_cons_zero, List.set_cons_succ]
                refine wpAnyH_ready (rs := [5]) (by kernel_rfl) (by simp) ?_
                refine AllReadyH.cons (get_os (get_os (get_os (get_os (get_os (get_o0)))))) (fun KK hKK => ?_) AllReadyH.nil
                go_simp
                refine (HA.out _ H1.out.r).mono ?_; rintro e' w3 ⟨rfl, hg3, hr3⟩
                have H3 := Lib.hid (H1.out.read hb hg3 hr3)
                refine hKK.out _ _ trivial (fun hHeld => ?_)
                clear hKK KK
                try simp only [Act.put, List.setIfInBounds_toArray, List.set_cons_zero, List.set_cons_succ]
                clear hg3 hr3
                refine wpAnyH_ready (rs := [6]) (by kernel_rfl) (by simp) ?_
                refine AllReadyH.cons (get_os (get_os (get_os (get_os (get_os (get_os (get_o0))))))) (fun KK hKK => ?_) AllReadyH.nil
                have H4 := Lib.hid (H3.out.more ((Bel.refl _).alloc (.cells #[.int .i64 (x : Nat)] 3)))
                have R4 := Lib.hid (rd_new w3 3 #[.int .i64 (x : Nat)] 1 1 rfl)
                have hz4 : w.heap.size + 1 ≤ w3.heap.size := by have := H3.out.Z.lt; omega
                refine step_buildSlice1v rfl E_num (.tmp 24) rfl (.int .i64 (x : Nat)) rfl #[.int .i64 (x : Nat)] rfl rfl (by omega) ?_
                refine hKK.out _ _ trivial (fun hHeld => ?_)
                clear hKK KK
                try simp only [Act.put, List.setIfInBounds_toArray, List.set_cons_zero, List.set_cons_succ]
                refine wpAnyH_ready (rs := [7]) (by kernel_rfl) (by simp) ?_
                refine AllReadyH.cons (get_os (get_os (get_os (get_os (get_os (get_os (get_os (get_o0)))))))) (fun KK hKK => ?_) AllReadyH.nil
                refine step_append0 rfl (.tmp 20) (.tmp 25) _ rfl E_num (w.heap.size + 1) (by simp; omega) u ups.length (ups.map (Value.int .i64)) rfl H4.out.up _ 1 1 [.int .i64 (x : Nat)] rfl R4.out (by simp [Value.oneCell']) (by have := hdk.out; unfold maxLen; omega) (by have := hdk.out; omega) ?_
                intro u5 w5 hown5 hg5 hat5
                obtain ⟨g5, r5, z5, y5, t5, o5⟩ := H4.out.app hown5 hg5
                have c5 := y5.cell 2
                have f5 := y5.frozen 2
                simp only [List.getElem?_toArray, List.getElem?_cons_zero, List.getElem?_cons_succ] at c5
                obtain ⟨A5, q5, rfl, _⟩ := own_slice o5
                have H5 := Lib.hid (TrW.stored (hy := hyz) g5 r5 z5 y5 t5 o5 hyb hyw)
                rw [List.length_append, List.length_singleton] at H5
                clear g5 r5 z5 y5 t5 o5 hown5 hat5 hg5
                refine hKK.out _ _ trivial (fun hHeld => ?_)
                clear hKK KK
                try simp only [Act.put, List.setIfInBounds_toArray, List.set_cons_zero, List.set_cons_succ]
                refine wpAnyH_ready (rs := [8]) (by kernel_rfl) (by simp) ?_
                refine AllReadyH.cons (get_os (get_os (get_os (get_os (get_os (get_os (get_os (get_os (get_o0))))))))) (fun KK hKK => ?_) AllReadyH.nil
                go_simp
                refine hKK.out _ _ trivial (fun hHeld => ?_)
                clear hKK KK
                try simp only [Act.put, List.setIfInBounds_toArray, List.set_cons_zero, List.set_cons_succ]
                refine wpAnyH_ready (rs := [9]) (by kernel_rfl) (by simp) ?_
                refine AllReadyH.cons (get_os (get_os (get_os (get_os (get_os (get_os (get_os (get_os (get_os (get_o0)))))))))) (fun KK hKK => ?_) AllReadyH.nil
                go_simp
                clear c5 f5
                refine hKK.out _ _ trivial (fun hHeld => ?_)
                clear hKK KK
                try simp only [Act.put, List.setIfInBounds_toArray, List.set_cons_zero, List.set_cons_succ]
                refine wpAnyH_done (by kernel_rfl) ?_ _
                clear hHeld
                go_wp2_with fail
                go_roundg (n - (k + 1))
                case rel => exact ⟨k + 1, _, ups ++ [(x : Int)], r, rfl, by omega, by go_num, by show _ = _; have := hdk.out; simp [this], HX2, H5, HN⟩
                case measure => rw [Hgk.out]; omega
              · go_simp
                refine (HA.out _ H1.out.r).mono ?_; rintro e' w3 ⟨rfl, hg3, hr3⟩
                have H3 := Lib.hid (H1.out.read hb hg3 hr3)
                refine hKK.out _ _ trivial (fun hHeld => ?_)
                clear hKK KK
                try simp only [Act.put, List.setIfInBounds_toArray, List.set_cons_zero, List.set_cons_succ]
                clear hg3 hr3
                refine wpAnyH_ready (rs := [1, 6]) (by kernel_rfl) (by simp) ?_
                refine AllReadyH.cons (get_os (get_o0)) (fun KK hKK => ?_) (AllReadyH.cons (get_os (get_os (get_os (get_os (get_os (get_os (get_o0))))))) (fun KK hKK => ?_) AllReadyH.nil)
                · have c0 := H3.out.Y.cell 2
                  simp only [List.getElem?_toArray, List.getElem?_cons_zero, List.getElem?_cons_succ] at c0
                  go_simp
                  clear c0
                  refine hKK.out _ _ trivial (fun hHeld => ?_)
                  clear hKK KK
                  try simp only [Act.put, List.setIfInBounds_toArray, List.set_cons_zero, List.set_cons_succ]
                  refine wpAnyH_ready (rs := [6]) (by kernel_rfl) (by simp) ?_
                  refine AllReadyH.cons (get_os (get_os (get_os (get_os (get_os (get_os (get_o0))))))) (fun KK hKK => ?_) AllReadyH.nil
                  have H4 := Lib.hid (H3.out.more ((Bel.refl _).alloc (.cells #[.int .i64 (x : Nat)] 3)))
                  have R4 := Lib.hid (rd_new w3 3 #[.int .i64 (x : Nat)] 1 1 rfl)
                  have hz4 : w.heap.size + 1 ≤ w3.heap.size := by have := H3.out.Z.lt; omega
                  refine step_buildSlice1v rfl E_num (.tmp 24) rfl (.int .i64 (x : Nat)) rfl #[.int .i64 (x : Nat)] rfl rfl (by omega) ?_
                  refine hKK.out _ _ trivial (fun hHeld => ?_)
                  clear hKK KK
                  try simp only [Act.put, List.setIfInBounds_toArray, List.set_cons_zero, List.set_cons_succ]
                  refine wpAnyH_ready (rs := [7]) (by kernel_rfl) (by simp) ?_
                  refine AllReadyH.cons (get_os (get_os (get_os (get_os (get_os (get_os (get_os (get_o0)))))))) (fun KK hKK => ?_) AllReadyH.nil
                  refine step_append0 rfl (.tmp 20) (.tmp 25) _ rfl E_num (w.heap.size + 1) (by simp; omega) u ups.length (ups.map (Value.int .i64)) rfl H4.out.up _ 1 1 [.int .i64 (x : Nat)] rfl R4.out (by simp [Value.oneCell']) (by have := hdk.out; unfold maxLen; omega) (by have := hdk.out; omega) ?_
                  intro u5 w5 hown5 hg5 hat5
                  obtain ⟨g5, r5, z5, y5, t5, o5⟩ := H4.out.app hown5 hg5
                  have c5 := y5.cell 2
                  have f5 := y5.frozen 2
                  simp only [List.getElem?_toArray, List.getElem?_cons_zero, List.getElem?_cons_succ] at c5
                  obtain ⟨A5, q5, rfl, _⟩ := own_slice o5
                  have H5 := Lib.hid (TrW.stored (hy := hyz) g5 r5 z5 y5 t5 o5 hyb hyw)
                  rw [List.length_append, List.length_singleton] at H5
                  clear g5 r5 z5 y5 t5 o5 hown5 hat5 hg5
                  refine hKK.out _ _ trivial (fun hHeld => ?_)
                  clear hKK KK
                  try simp only [Act.put, List.setIfInBounds_toArray, List.set_cons_zero, List.set_cons_succ]
                  refine wpAnyH_ready (rs := [8]) (by kernel_rfl) (by simp) ?_
                  refine AllReadyH.cons (get_os (get_os (get_os (get_os (get_os (get_os (get_os (get_os (get_o0))))))))) (fun KK hKK => ?_) AllReadyH.nil
                  go_simp
                  refine hKK.out _ _ trivial (fun hHeld => ?_)
                  clear hKK KK
                  try simp only [Act.put, List.setIfInBounds_toArray, List.set_cons_zero, List.set_cons_succ]
                  refine wpAnyH_ready (rs := [9]) (by kernel_rfl) (by simp) ?_
                  refine AllReadyH.cons (get_os (get_os (get_os (get_os (get_os (get_os (get_os (get_os (get_os (get_o0)))))))))) (fun KK hKK => ?_) AllReadyH.nil
                  go_simp
                  clear c5 f5
                  refine hKK.out _ _ trivial (fun hHeld => ?_)
                  clear hKK KK
                  try simp only [Act.put, List.setIfInBounds_toArray, List.set_cons_zero, List.set_cons_succ]
                  refine wpAnyH_done (by kernel_rfl) ?_ _
                  clear hHeld
                  go_wp2_with fail
                  go_roundg (n - (k + 1))
                  case rel => exact ⟨k + 1, _, ups ++ [(x : Int)], r, rfl, by omega, by go_num, by show _ = _; have := hdk.out; simp [this], HX2, H5, HN⟩
                  case measure => rw [Hgk.out]; omega
                · have H4 := Lib.hid (H3.out.more ((Bel.refl _).alloc (.cells #[.int .i64 (x : Nat)] 3)))
                  have R4 := Lib.hid (rd_new w3 3 #[.int .i64 (x : Nat)] 1 1 rfl)
                  have hz4 : w.heap.size + 1 ≤ w3.heap.size := by have := H3.out.Z.lt; omega
                  refine step_buildSlice1v rfl E_num (.tmp 24) rfl (.int .i64 (x : Nat)) rfl #[.int .i64 (x : Nat)] rfl rfl (by omega) ?_
                  refine hKK.out _ _ trivial (fun hHeld => ?_)
                  clear hKK KK
                  try simp only [Act.put, List.setIfInBounds_toArray, List.set_cons_zero, List.set_cons_succ]
                  refine wpAnyH_ready (rs := [1]) (by kernel_rfl) (by simp) ?_
                  refine AllReadyH.cons (get_os (get_o0)) (fun KK hKK => ?_) AllReadyH.nil
                  have c0 := H4.out.Y.cell 2
                  simp only [List.getElem?_toArray, List.getElem?_cons_zero, List.getElem?_cons_succ] at c0
                  go_simp
                  clear c0
                  refine hKK.out _ _ trivial (fun hHeld => ?_)
                  clear hKK KK
                  try simp only [Act.put, List.setIfInBounds_toArray, List.set_cons_zero, List.set_cons_succ]
                  refine wpAnyH_ready (rs := [7]) (by kernel_rfl) (by simp) ?_
                  refine AllReadyH.cons (get_os (get_os (get_os (get_os (get_os (get_os (get_os (get_o0)))))))) (fun KK hKK => ?_) AllReadyH.nil
                  refine step_append0 rfl (.tmp 20) (.tmp 25) _ rfl E_num (w.heap.size + 1) (by simp; omega) u ups.length (ups.map (Value.int .i64)) rfl H4.out.up _ 1 1 [.int .i64 (x : Nat)] rfl R4.out (by simp [Value.oneCell']) (by have := hdk.out; unfold maxLen; omega) (by have := hdk.out; omega) ?_
                  intro u5 w5 hown5 hg5 hat5
                  obtain ⟨g5, r5, z5, y5, t5, o5⟩ := H4.out.app hown5 hg5
                  have c5 := y5.cell 2
                  have f5 := y5.frozen 2
                  simp only [List.getElem?_toArray, List.getElem?_cons_zero, List.getElem?_cons_succ] at c5
                  obtain ⟨A5, q5, rfl, _⟩ := own_slice o5
                  have H5 := Lib.hid (TrW.stored (hy := hyz) g5 r5 z5 y5 t5 o5 hyb hyw)
                  rw [List.length_append, List.length_singleton] at H5
                  clear g5 r5 z5 y5 t5 o5 hown5 hat5 hg5
                  refine hKK.out _ _ trivial (fun hHeld => ?_)
                  clear hKK KK
                  try simp only [Act.put, List.setIfInBounds_toArray, List.set_cons_zero, List.set_cons_succ]
                  refine wpAnyH_ready (rs := [8]) (by kernel_rfl) (by simp) ?_
                  refine AllReadyH.cons (get_os (get_os (get_os (get_os (get_os (get_os (get_os (get_os (get_o0))))))))) (fun KK hKK => ?_) AllReadyH.nil
                  go_simp
                  refine hKK.out _ _ trivial (fun hHeld => ?_)
                  clear hKK KK
                  try simp only [Act.put, List.setIfInBounds_toArray, List.set_cons_zero, List.set_cons_succ]
                  refine wpAnyH_ready (rs := [9]) (by kernel_rfl) (by simp) ?_
                  refine AllReadyH.cons (get_os (get_os (get_os (get_os (get_os (get_os (get_os (get_os (get_os (get_o0)))))))))) (fun KK hKK => ?_) AllReadyH.nil
                  go_simp
                  clear c5 f5
                  refine hKK.out _ _ trivial (fun hHeld => ?_)
                  clear hKK KK
                  try simp only [Act.put, List.setIfInBounds_toArray, List.set_cons_zero, List.set_cons_succ]
                  refine wpAnyH_done (by kernel_rfl) ?_ _
                  clear hHeld
                  go_wp2_with fail
                  go_roundg (n - (k + 1))
                  case rel => exact ⟨k + 1, _, ups ++ [(x : Int)], r, rfl, by omega, by go_num, by show _ = _; have := hdk.out; simp [this], HX2, H5, HN⟩
                  case measure => rw [Hgk.out]; omega
          · have HN : Hid (ptier above l = ptierC above ⟨nm, ts, ups⟩ lr) := by show _ = _; rw [hE.out, show n - k = 0 by omega]; simp [pnums, aheadI, ptail]
            clear hE
            obtain ⟨A2, c2, rfl, _⟩ := own_slice H.out.up
            have hul : ups.length ≤ 200 := by have := hdk.out; omega
            have HXX := Lib.hid HX.out
            obtain ⟨T, hT⟩ : ∃ T : Tir, T = ⟨nm, ⟨A, n, c, ts⟩, ⟨A2, ups.length, c2, ups⟩⟩ := ⟨_, rfl⟩
            have HO : Hid (TirOwn (w.heap.size + 1) T wr) := by subst hT; exact ⟨by have := H.out.ts; rw [← HNN.out] at this; exact this, H.out.up, by show nm.length ≤ 12; omega, htl.out, HXX.out, hn200, hul⟩
            have hTc : T.con = ⟨nm, ts, ups⟩ := by subst hT; rfl
            have hTs : T.cs = #[.string ⟨nm.toArray⟩, .slice A n c, .slice A2 ups.length c2] := by subst hT; rfl
            rw [← hTc] at HN
            have HTC := Lib.hid hTc
            have HTS := Lib.hid hTs
            have bY := H.out.Y
            rw [← hTs] at bY
            clear hT hTc hTs
            go_wp2_with ((with_reducible show wpList _ _ _ (⟨some 29, _, _, _, _, _⟩ :: _) _ _); refine wpList_load_blk rfl rowTir (.tmp 5) rfl w2.heap.size rfl bY rfl ?_)
            refine (HC.out T _ HO.out.rd (by have := HO.out.un; omega)).mono ?_; rintro e w6 ⟨rfl, hb6⟩
            have H6 := Lib.hid (H.out.more hb6)
            have HO6 := Lib.hid (HO.out.bel hb6)
            have bY6 := bY.bel hb6
            have hEr := tierErr_range T.con above
            clear hb6 H HO bY
            by_cases hE0 : tierErr T.con above = 0
            · have HN2 : Hid (ptier above l = .ok (T.con, lr)) := by show _ = _; rw [HN.out]; unfold ptierC; rw [if_pos hE0]
              rw [hE0]
              clear hE0 hEr HN
              go_wp2_with fail
              refine (want_yes b s lr 0 _ H6.out.r).mono ?_; rintro e w7 ⟨rfl, rfl⟩
              have bZ := H6.out.Z
              go_wp2_with (first | ((with_reducible show wpList _ _ _ (⟨some 37, _, _, _, _, _⟩ :: _) _ _); refine wpList_load_blk rfl rowTir (.tmp 5) rfl w2.heap.size rfl bY6 rfl ?_) | ((with_reducible show wpList _ _ _ (⟨_, .store _ (.tmp 4) _, _, _, _, _⟩ :: _) _ _); refine wpList_store_blk rfl rowTir (.tmp 4) (.tmp 37) rfl w.heap.size rfl bZ rfl T.cs rfl rfl (tir_one T) ?_; intro w8 bC hg8))
              refine bodyPost_ret (results_blk1 rfl rowTir rfl bC rfl) rfl ?_
              rw [HN2.out]
              exact ⟨T, rfl, rfl, H6.out.g.andThen hg8 (fun k e => by injection e with e; exact .inl (by omega)), H6.out.r.grown hg8 (by intro e; injection e with e; omega), HO6.out.kept hg8 (by omega)⟩
            · have HN2 : Hid (ptier above l = .error (tierErr T.con above)) := by show _ = _; rw [HN.out]; unfold ptierC; rw [if_neg hE0]
              have hw : wantErr (tierErr T.con above) = tierErr T.con above := by unfold wantErr; rw [if_neg hE0]
              have dE : (tierErr T.con above == 0) = false := by simpa using hE0
              have HW := Lib.hid hw
              clear hE0 hw HN
              go_wp2_with fail
              refine (want_no b s lr (tierErr T.con above) _ H6.out.r).mono ?_; rintro e w7 ⟨rfl, rfl⟩
              go_wp2_with fail
              refine ⟨rfl, ?_⟩
              rw [HN2.out, HW.out]
              exact ⟨rfl, H6.out.g, _, H6.out.r⟩
      · have HN : Hid (ptier above l = ptierC above ⟨nm, ts, []⟩ r2) := by show _ = _; rw [HE.out]; unfold pups; rw [if_neg h0]; rfl
        have d0 : decide ((0 : Int) < above) = false := by simp; omega
        obtain ⟨n, hn⟩ : ∃ n, n = ts.length := ⟨_, rfl⟩
        have HNN := Lib.hid hn
        rw [← hn] at H2 hn200
        rw [← hn]
        clear hn HE
        go_upto_region 7 with (((with_reducible show wpList _ _ _ (⟨_, .store _ (.tmp 5) _, _, _, _, _⟩ :: _) _ _); refine wpList_store_new rfl rowTir (.tmp 5) (.tmp 11) rfl rfl rfl #[.string ⟨nm.toArray⟩, .slice A n c, .slice none 0 0] rfl rfl (by simp [Value.oneCell']) ?_))
        obtain ⟨lr, hlr⟩ : ∃ lr, lr = r2 := ⟨_, rfl⟩
        rw [← hlr] at H2 HN
        clear hlr
        have H := H2
        obtain ⟨ups, hups⟩ : ∃ ups : List Int, ups = [] := ⟨_, rfl⟩
        have hul : ups.length ≤ 200 := by rw [hups]; simp
        have HXX : Hid (∀ z ∈ ups, I64 z) := by rw [hups]; exact fun z hz => by cases hz
        obtain ⟨A2, hA2⟩ : ∃ A2 : Option Addr, A2 = none := ⟨_, rfl⟩
        obtain ⟨c2, hc2⟩ : ∃ c2 : Nat, c2 = 0 := ⟨_, rfl⟩
        have e0 : (Value.slice none 0 0) = .slice A2 ups.length c2 := by rw [hups, hA2, hc2]; rfl
        rw [← hups] at HN
        have H3 : Hid (TrW w b w2.heap.size s lr nm (.slice A n c) ts (.slice A2 ups.length c2) ups (w2.alloc (.cells #[.string ⟨nm.toArray⟩, .slice A n c, .slice none 0 0] 30))) := by rw [← e0]; rw [← hups] at H; exact H
        clear H H2
        have H := H3
        generalize w2.alloc (.cells #[.string ⟨nm.toArray⟩, .slice A n c, .slice none 0 0] 30) = wr at *
        obtain ⟨T, hT⟩ : ∃ T : Tir, T = ⟨nm, ⟨A, n, c, ts⟩, ⟨A2, ups.length, c2, ups⟩⟩ := ⟨_, rfl⟩
        have HO : Hid (TirOwn (w.heap.size + 1) T wr) := by subst hT; exact ⟨by have := H.out.ts; rw [← HNN.out] at this; exact this, H.out.up, by show nm.length ≤ 12; omega, htl.out, HXX.out, hn200, hul⟩
        have hTc : T.con = ⟨nm, ts, ups⟩ := by subst hT; rfl
        have hTs : T.cs = #[.string ⟨nm.toArray⟩, .slice A n c, .slice A2 ups.length c2] := by subst hT; rfl
        rw [← hTc] at HN
        have HTC := Lib.hid hTc
        have HTS := Lib.hid hTs
        have bY := H.out.Y
        rw [← hTs] at bY
        clear hT hTc hTs
        go_wp2_with ((with_reducible show wpList _ _ _ (⟨some 29, _, _, _, _, _⟩ :: _) _ _); refine wpList_load_blk rfl rowTir (.tmp 5) rfl w2.heap.size rfl bY rfl ?_)
        refine (HC.out T _ HO.out.rd (by have := HO.out.un; omega)).mono ?_; rintro e w6 ⟨rfl, hb6⟩
        have H6 := Lib.hid (H.out.more hb6)
        have HO6 := Lib.hid (HO.out.bel hb6)
        have bY6 := bY.bel hb6
        have hEr := tierErr_range T.con above
        clear hb6 H HO bY
        by_cases hE0 : tierErr T.con above = 0
        · have HN2 : Hid (ptier above l = .ok (T.con, lr)) := by show _ = _; rw [HN.out]; unfold ptierC; rw [if_pos hE0]
          rw [hE0]
          clear hE0 hEr HN
          go_wp2_with fail
          refine (want_yes b s lr 0 _ H6.out.r).mono ?_; rintro e w7 ⟨rfl, rfl⟩
          have bZ := H6.out.Z
          go_wp2_with (first | ((with_reducible show wpList _ _ _ (⟨some 37, _, _, _, _, _⟩ :: _) _ _); refine wpList_load_blk rfl rowTir (.tmp 5) rfl w2.heap.size rfl bY6 rfl ?_) | ((with_reducible show wpList _ _ _ (⟨_, .store _ (.tmp 4) _, _, _, _, _⟩ :: _) _ _); refine wpList_store_blk rfl rowTir (.tmp 4) (.tmp 37) rfl w.heap.size rfl bZ rfl T.cs rfl rfl (tir_one T) ?_; intro w8 bC hg8))
          refine bodyPost_ret (results_blk1 rfl rowTir rfl bC rfl) rfl ?_
          rw [HN2.out]
          exact ⟨T, rfl, rfl, H6.out.g.andThen hg8 (fun k e => by injection e with e; exact .inl (by omega)), H6.out.r.grown hg8 (by intro e; injection e with e; omega), HO6.out.kept hg8 (by omega)⟩
        · have HN2 : Hid (ptier above l = .error (tierErr T.con above)) := by show _ = _; rw [HN.out]; unfold ptierC; rw [if_neg hE0]
          have hw : wantErr (tierErr T.con above) = tierErr T.con above := by unfold wantErr; rw [if_neg hE0]
          have dE : (tierErr T.con above == 0) = false := by simpa using hE0
          have HW := Lib.hid hw
          clear hE0 hw HN
          go_wp2_with fail
          refine (want_no b s lr (tierErr T.con above) _ H6.out.r).mono ?_; rintro e w7 ⟨rfl, rfl⟩
          go_wp2_with fail
          refine ⟨rfl, ?_⟩
          rw [HN2.out, HW.out]
          exact ⟨rfl, H6.out.g, _, H6.out.r⟩

end Go.Proofs.Ytnjpoamebkehbaa
