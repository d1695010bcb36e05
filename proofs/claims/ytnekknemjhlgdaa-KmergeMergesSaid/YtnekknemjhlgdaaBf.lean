/- Texts laid together: XTierR XTierT XTierU XTierS. -/
import Derived.Test.YtnekknemjhlgdaaBe
import Derived.Test.YtnekknemjhlgdaaBb
import Derived.Test.YtnekknemjhlgdaaBd

namespace Go.Proofs.Ytnekknemjhlgdaa
open Go.RowKit
set_option linter.unusedVariables false
set_option linter.unusedSimpArgs false

section
variable {P : Program} {w : World}
theorem step_buildSlice1v {ops : Array Oper} {o : Oper} {a : Act} {K : Act → World → Prop} {Q : Exit → Act → World → Prop} {X : Prop} (hgd : o.guard = none) {t e : TypeId} {size bytes : Nat} (E : ElemInfo P t e size bytes) (x : Operand) (ho : o.op = .buildSlice t 1 #[(0, x)])
    (v : Value) (hx : a.eval x = v) (cs : Array Value) (hc : v.cells = cs) (hv : cs.size = size) (hs : size ≤ 1000)
    (h : K (a.put o.dst (.slice (some ⟨w.heap.size, 0, none⟩) 1 1)) (w.alloc (.cells cs e))) :
    if Region.wanted o (yielded ops a.tmps) = true then Oper.wp P o a w K Q else X := by
  subst hc
  have hw : Region.wanted o (yielded ops a.tmps) = true := by simp [Region.wanted, hgd]
  rw [if_pos hw]
  unfold Oper.wp execOp
  have hr := run_buildSlice1 E v hv hs w
  simp only [ho, List.map_toArray, List.map_cons, List.map_nil, hx, Sem.run_bind, hr, Result.andThen_ok, Sem.run_pure]
  exact h
end

/-- A tier's reading under way. -/
structure TrW (w : World) (b y : Nat) (s l nm : List UInt8) (v : Value) (ts : List (List UInt8)) (u : Value) (ups : List Int) (wr : World) : Prop where
  g : w.grownBy wr (some b)
  r : Rdr wr b s l
  Z : Blk wr w.heap.size 140 #[.string ⟨#[]⟩, .slice none 0 0, .slice none 0 0]
  Y : Blk wr y 140 #[.string ⟨nm.toArray⟩, v, u]
  ts : wr.ownsRow (w.heap.size + 1) 9 1 v ts.length (ts.map tx)
  up : wr.ownsRow (w.heap.size + 1) 3 1 u ups.length (ups.map (Value.int .i64))
theorem ne_it : (3 : TypeId) ≠ 9 := by decide
theorem ne_ir : (3 : TypeId) ≠ 140 := by decide
theorem ne_sr : (9 : TypeId) ≠ 140 := by decide
theorem kept_ne {w w' : World} {base : Nat} {e : TypeId} {size n g : Nat} {v : Value} {xs : List Value} (h : w.ownsRow base e size v n xs) (hg : w.grownBy w' (some g)) (hne : v.ownBlock ≠ some g) : w'.ownsRow base e size v n xs :=
  h.kept hg (by
    rcases ho : v.ownBlock with _ | k
    · exact .inl rfl
    · exact .inr (by rw [← ho]; exact hne))
section
variable {w w1 w2 : World} {b y : Nat} {s l l' nm : List UInt8} {v u u' : Value} {ts : List (List UInt8)} {ups : List Int}
theorem TrW.read (h : TrW w b y s l nm v ts u ups w1) (hb : b < w.heap.size) (hg : w1.grownBy w2 (some b)) (hr : Rdr w2 b s l') (hy : w.heap.size < y := by assumption) : TrW w b y s l' nm v ts u ups w2 :=
  ⟨h.g.trans hg, hr, h.Z.grown hg (by intro e; injection e with e; omega), h.Y.grown hg (by intro e; injection e with e; omega), h.ts.kept hg (own_apart h.ts (by omega)), h.up.kept hg (own_apart h.up (by omega))⟩
theorem TrW.more (h : TrW w b y s l nm v ts u ups w1) (hb : Bel w1 w2) : TrW w b y s l nm v ts u ups w2 :=
  ⟨h.g.trans (grown_of_bel hb _), h.r.bel hb, h.Z.bel hb, h.Y.bel hb, own_bel h.ts hb, own_bel h.up hb⟩
theorem TrW.app {x : Int} (h : TrW w b y s l nm v ts u ups w1) (ho : w2.ownsRow (w.heap.size + 1) 3 1 u' (ups.length + 1) (ups.map (Value.int .i64) ++ [.int .i64 x])) (hg : w1.grownBy w2 u.ownBlock) (hb : b < w.heap.size := by assumption) :
    w.grownBy w2 (some b) ∧ Rdr w2 b s l ∧ Blk w2 w.heap.size 140 #[.string ⟨#[]⟩, .slice none 0 0, .slice none 0 0] ∧ Blk w2 y 140 #[.string ⟨nm.toArray⟩, v, u] ∧ w2.ownsRow (w.heap.size + 1) 9 1 v ts.length (ts.map tx) ∧ w2.ownsRow (w.heap.size + 1) 3 1 u' (ups ++ [x]).length ((ups ++ [x]).map (Value.int .i64)) := by
  have hu := h.up
  refine ⟨h.g.andThen hg (fun j e => .inl (by have := own_ge hu e; omega)), h.r.grown hg (fun e => by have := own_ge hu e.symm; omega), h.Z.grown hg (fun e => by have := own_ge hu e.symm; omega), h.Y.grown hg (fun e => own_blk_ne hu h.Y ne_ir e.symm), own_grown h.ts hg (apart_types h.ts hu (fun e => ne_it e.symm)), by simpa using ho⟩
theorem TrW.stored (hg : w.grownBy w1 (some b)) (hr : Rdr w1 b s l) (hz : Blk w1 w.heap.size 140 #[.string ⟨#[]⟩, .slice none 0 0, .slice none 0 0]) (hY : Blk w1 y 140 #[.string ⟨nm.toArray⟩, v, u]) (ht : w1.ownsRow (w.heap.size + 1) 9 1 v ts.length (ts.map tx)) (ho : w1.ownsRow (w.heap.size + 1) 3 1 u' ups.length (ups.map (Value.int .i64))) (hyb : y ≠ b) (hyw : w.heap.size ≤ y) (hy : w.heap.size < y) : TrW w b y s l nm v ts u' ups (w1.setCell ⟨y, 2, none⟩ u') := by
  have g := grownBy_setCell w1 y 2 u'
  refine ⟨hg.andThen g (fun k e => by injection e with e; exact .inl (by omega)), hr.grown g (by intro e; injection e with e; omega), hz.grown g (by intro e; injection e with e; omega), ?_, ?_, ?_⟩
  · have := hY.set_ 2 u'
    simpa using this
  · exact kept_ne ht g (own_blk_ne ht hY ne_sr)
  · exact kept_ne ho g (own_blk_ne ho hY ne_ir)
end

/-- Numbers read, ahead of others. -/
def aheadI (ds : List Int) (o : PR (List Int)) : PR (List Int) := match o with | .error e => .error e | .ok (xs, r) => .ok (ds ++ xs, r)
theorem aheadI_nil (o : PR (List Int)) : aheadI [] o = o := by rcases o with e | ⟨xs, r⟩ <;> rfl
theorem aheadI_step {ds : List Int} {most : Int} {n x : Nat} {l r : List UInt8} (h : pnum most l = .ok (x, r)) : aheadI ds (pnums most (n + 1) l) = aheadI (ds ++ [(x : Int)]) (pnums most n r) := by
  simp only [pnums, h]
  rcases pnums most n r with e | ⟨xs, r2⟩
  · rfl
  · simp [aheadI]
theorem aheadI_err {ds : List Int} {most k : Int} {n : Nat} {l : List UInt8} (h : pnum most l = .error k) : aheadI ds (pnums most (n + 1) l) = .error k := by
  simp only [pnums, h]
  rfl
/-- What is read behind the members. -/
def ptail (above : Int) (nm : List UInt8) (ts : List (List UInt8)) (o : PR (List Int)) : PR TC := match o with | .error k => .error k | .ok (up, r) => ptierC above ⟨nm, ts, up⟩ r
theorem tread_len {most : Int} {l r : List UInt8} {ts : List (List UInt8)} (h : tread most l = .ok (ts, r)) : (ts.length : Int) ≤ most := by
  unfold tread at h
  split at h
  · cases h
  · rename_i n r1 hp
    have h1 := (treads_back (p := none) h (.inr ⟨rfl, rfl⟩)).2.1
    have h2 := (pnum_ok hp).2.1
    omega
theorem ptier_ok {above : Int} {l r r2 nm : List UInt8} {ts : List (List UInt8)} (h1 : ptxt 12 l = .ok (nm, r)) (h2 : tread 200 r = .ok (ts, r2)) : ptier above l = ptail above nm ts (pups above ts.length r2) := by
  unfold ptier
  rw [h1]
  simp only
  rw [h2]
  simp only
  unfold ptail
  cases pups above ts.length r2 <;> rfl

/-- A tier whose rows lie in new memory. -/
structure TirOwn (base : Nat) (T : Tir) (w : World) : Prop where
  ts : w.ownsRow base 9 1 (.slice T.ts.A T.ts.n T.ts.c) T.ts.n (T.ts.l.map tx)
  up : w.ownsRow base 3 1 (.slice T.up.A T.up.n T.up.c) T.up.n (T.up.l.map (Value.int .i64))
  nm : T.nm.length ≤ 12
  tl : ∀ t ∈ T.ts.l, t.length ≤ 16
  ul : ∀ z ∈ T.up.l, I64 z
  tn : T.ts.n ≤ 200
  un : T.up.n ≤ 200
theorem TirOwn.rd {base : Nat} {T : Tir} {w : World} (h : TirOwn base T w) : T.rd w :=
  ⟨by have := h.nm; omega, ⟨by have := Rd.of_own h.ts; rw [flat_texts]; exact this, fun t ht => by have := h.tl t ht; show t.length ≤ _; omega, by have := h.tn; omega⟩, ⟨by have := Rd.of_own h.up; rw [flat_ints]; exact this, fun z hz => h.ul z hz, by have := h.un; omega⟩⟩
theorem TirOwn.kept {base : Nat} {T : Tir} {w w' : World} {g : Nat} (h : TirOwn base T w) (hg : w.grownBy w' (some g)) (hb : g < base) : TirOwn base T w' :=
  ⟨h.ts.kept hg (own_apart h.ts hb), h.up.kept hg (own_apart h.up hb), h.nm, h.tl, h.ul, h.tn, h.un⟩
theorem TirOwn.bel {base : Nat} {T : Tir} {w w' : World} (h : TirOwn base T w) (hb : Bel w w') : TirOwn base T w' := ⟨own_bel h.ts hb, own_bel h.up hb, h.nm, h.tl, h.ul, h.tn, h.un⟩
theorem TirOwn.less {base base' : Nat} {T : Tir} {w : World} (h : TirOwn base T w) (hb : base' ≤ base) : TirOwn base' T w := ⟨own_less h.ts hb, own_less h.up hb, h.nm, h.tl, h.ul, h.tn, h.un⟩
/-- How tier.Read ends. -/
def TrPost (b : Nat) (s : List UInt8) (o : PR TC) (w : World) (e : Ending) (w' : World) : Prop :=
  match o with
  | .error k => RErr b s k w e w'
  | .ok (t, l) => ∃ T : Tir, e = .returned (.agg T.cs) ∧ T.con = t ∧ w.grownBy w' (some b) ∧ Rdr w' b s l ∧ TirOwn (w.heap.size + 1) T w'

set_option maxRecDepth 100000 in
set_option maxHeartbeats 2000000 in
theorem trread_any (b : Nat) (s l : List UInt8) (above : Int) (w : World) (hR : Rdr w b s l) (ha : I64 above) :
    Calls Try.prog 192 #[.pointer (some ⟨b, 0, none⟩), .int .i64 above] w (TrPost b s (ptier above l) w) := by
  have hb := hR.lt
  have hl0 := hR.len
  obtain ⟨a0, a1⟩ := ha
  have HC := Lib.hid (fun (T : Tir) w (h : T.rd w) (hn : T.up.n ≤ 100000) => trcheck_any T above w h hn ⟨a0, a1⟩)
  have HZ := Lib.hid (Blk.new w 140 #[.string ⟨#[]⟩, .slice none 0 0, .slice none 0 0])
  have HT := Lib.hid (text_any b s l 12 (w.alloc (.cells #[.string ⟨#[]⟩, .slice none 0 0, .slice none 0 0] 140)) (hR.bel ((Bel.refl w).alloc _)) (by omega) (by omega))
  have HG : Hid (w.grownBy (w.alloc (.cells #[.string ⟨#[]⟩, .slice none 0 0, .slice none 0 0] 140)) (some b)) := grown_of_bel ((Bel.refl w).alloc _) _
  clear hR
  go_enter Try.func192, Try.ntmps192
  go_wp2_with fail
  cases hp : ptxt 12 l with
  | error k =>
    have HE : Hid (ptier above l = .error k) := by show _ = _; unfold ptier; rw [hp]
    rw [hp] at HT
    refine HT.out.mono ?_; rintro e w1 ⟨rfl, hg, hr⟩
    clear hp
    go_wp2_with fail
    refine ⟨rfl, ?_⟩
    rw [HE.out]
    exact ⟨rfl, HG.out.trans hg, hr⟩
  | ok q =>
    obtain ⟨nm, r1⟩ := q
    have Hp := Lib.hid hp
    obtain ⟨hnm, _⟩ := ptxt_ok hp
    rw [hp] at HT
    refine HT.out.mono ?_; rintro e w1 ⟨rfl, hg, hr⟩
    have G1 := Lib.hid (HG.out.trans hg)
    have Z1 := Lib.hid (HZ.out.grown hg (by intro e; injection e with e; omega))
    have HD := Lib.hid (tread_any b s r1 200 w1 hr (by omega) (by omega))
    have hz1 : w.heap.size < w1.heap.size := Z1.out.lt
    clear hp hg hr HG HZ HT
    go_wp2_with fail
    cases hd : tread 200 r1 with
    | error k =>
      have HE : Hid (ptier above l = .error k) := by show _ = _; unfold ptier; rw [Hp.out]; simp only; rw [hd]
      rw [hd] at HD
      refine HD.out.mono ?_; rintro e w2 ⟨rfl, hg, hr⟩
      clear hd
      go_wp2_with fail
      refine ⟨rfl, ?_⟩
      rw [HE.out]
      exact ⟨rfl, G1.out.trans hg, hr⟩
    | ok q =>
      obtain ⟨ts, r2⟩ := q
      have HE := Lib.hid (ptier_ok (above := above) Hp.out hd)
      have hrow := (tread_back hd).1
      have htl : Hid (∀ t ∈ ts, t.length ≤ 16) := fun t ht => rowErr_len hrow ht
      rw [hd] at HD
      refine HD.out.mono ?_; rintro e w2 ⟨v, rfl, hx⟩
      obtain ⟨A, c, rfl, _⟩ := own_slice hx.own
      have hn200 : ts.length ≤ 200 := by have := tread_len hd; omega
      have H2 : Hid (TrW w b w2.heap.size s r2 nm (.slice A ts.length c) ts (.slice none 0 0) [] (w2.alloc (.cells #[.string ⟨nm.toArray⟩, .slice A ts.length c, .slice none 0 0] 140))) :=
        ⟨(G1.out.trans hx.g).trans (grown_of_bel ((Bel.refl _).alloc _) _), hx.r.bel ((Bel.refl _).alloc _), (Z1.out.grown hx.g (by intro e; injection e with e; omega)).alloc _, Blk.new w2 _ _, own_bel (own_less hx.own (by omega)) ((Bel.refl _).alloc _), ⟨rfl, .inl ⟨rfl, rfl⟩⟩⟩
      have hyz : w.heap.size < w2.heap.size := by have := hx.g.size; omega
      have hyb : w2.heap.size ≠ b := by omega
      have hyw : w.heap.size ≤ w2.heap.size := by omega
      clear hd hx HD G1 Z1 hrow Hp
      by_cases h0 : 0 < above
      · have HE2 : Hid (ptier above l = ptail above nm ts (aheadI [] (pnums (above - 1) (ts.length - 0) r2))) := by show _ = _; rw [HE.out, aheadI_nil]; unfold pups; rw [if_pos h0]; rfl
        have wa : IntKind.i64.wrap (above - 1) = above - 1 := IntWalk.i64_in _ (by omega)
        obtain ⟨n, hn⟩ : ∃ n, n = ts.length := ⟨_, rfl⟩
        have HNN := Lib.hid hn
        rw [← hn] at HE2 H2 hn200
        rw [← hn]
        clear hn HE
        go_wp2_with (((with_reducible show wpList _ _ _ (⟨_, .store _ (.tmp 5) _, _, _, _, _⟩ :: _) _ _); refine wpList_store_new rfl rowTir (.tmp 5) (.tmp 11) rfl rfl rfl #[.string ⟨nm.toArray⟩, .slice A n c, .slice none 0 0] rfl rfl (by simp [Value.oneCell']) ?_))
        go_loopg [17] n (fun gg i wr => ∃ (k : Nat) (u : Value) (ups : List Int) (lr : List UInt8), gg = n - k ∧ k ≤ n ∧ i = .int .i64 k ∧ Hid (ups.length = k) ∧ Hid (∀ z ∈ ups, I64 z) ∧ Hid (TrW w b w2.heap.size s lr nm (.slice A n c) ts u ups wr) ∧ Hid (ptier above l = ptail above nm ts (aheadI ups (pnums (above - 1) (n - k) lr))))
        case atStart => exact ⟨0, _, [], r2, rfl, by omega, rfl, rfl, (fun z hz => by cases hz), H2, HE2⟩
        case round =>
          clear H2 HE2
          obtain ⟨k, u, ups, lr, hgk, hk, rfl, hdk, HX, H, hE⟩ := hrel
          have Hgk := Lib.hid hgk
          clear hgk
          by_cases hlt : k < n
          · have HA := Lib.hid (fun w (h : Rdr w b s lr) => num_any b s lr (above - 1) w h (by omega) (by omega))
            cases hp : pnum (above - 1) lr with
            | error e =>
              have HN : Hid (ptier above l = .error e) := by show _ = _; rw [hE.out, show n - k = (n - (k + 1)) + 1 by omega, aheadI_err hp]; rfl
              rw [hp] at HA
              clear hp hE
              go_wp2_with fail
              refine wp_region_held_drew (S := fun _ => True) (by kernel_rfl) trivial (fun hHeld => ?_)
              have H1 := Lib.hid (H.out.more (Bel.refl wr).drew)
              generalize wr.drew = w2d at *
              refine wpAnyH_take (i := 0) (v := ?v0) (get_o0) (by kernel_rfl) (by kernel_rfl) (by kernel_rfl) (by exact fun _ _ _ h => h) (Or.inl ⟨by rfl, ?hy0⟩) (by assumption) ?_
              case hy0 => (intro w hSw; (try dsimp only at hSw); go_simp) <;> with_reducible rfl
              try simp only [Act.put, List.setIfInBounds_toArray, List.set_cons_zero, List.set_cons_succ]
              refine wpAnyH_take (i := 2) (v := ?v2) (get_os (get_os (get_o0))) (by kernel_rfl) (by kernel_rfl) (by kernel_rfl) (by exact fun _ _ _ h => h) (Or.inl ⟨by rfl, ?hy2⟩) (by assumption) ?_
              case hy2 => (intro w hSw; (try dsimp only at hSw); go_simp) <;> with_reducible rfl
              try simp only [Act.put, List.setIfInBounds_toArray, List.set_cons_zero, List.set_cons_succ]
              refine wpAnyH_take (i := 3) (v := ?v3) (get_os (get_os (get_os (get_o0)))) (by kernel_rfl) (by kernel_rfl) (by kernel_rfl) (by exact fun _ _ _ h => h) (Or.inl ⟨by rfl, ?hy3⟩) (by assumption) ?_
              case hy3 => (intro w hSw; (try dsimp only at hSw); go_simp) <;> with_reducible rfl
              try simp only [Act.put, List.setIfInBounds_toArray, List.set_cons_zero, List.set_cons_succ]
              refine wpAnyH_take (i := 4) (v := ?v4) (get_os (get_os (get_os (get_os (get_o0))))) (by kernel_rfl) (by kernel_rfl) (by kernel_rfl) (by exact fun _ _ _ h => h) (Or.inl ⟨by rfl, ?hy4⟩) (by assumption) ?_
              case hy4 => (intro w hSw; (try dsimp only at hSw); go_simp) <;> with_reducible rfl
              try simp only [Act.put, List.setIfInBounds_toArray, List.set_cons_zero, List.set_cons_succ]
              refine wpAnyH_ready (rs := [1, 5]) (by kernel_rfl) (by simp) ?_
              refine AllReadyH.cons (get_os (get_o0)) (fun KK hKK => ?_) (AllReadyH.cons (get_os (get_os (get_os (get_os (get_os (get_o0)))))) (fun KK hKK => ?_) AllReadyH.nil)
              · have c0 := H1.out.Y.cell 2
                simp only [List.getElem?_toArray, List.getElem?_cons_zero, List.getElem?_cons_succ] at c0
                go_simp
                clear c0
                refine hKK.out _ _ trivial (fun hHeld => ?_)
                clear hKK KK
                try simp only [Act.put, List.setIfInBounds_toArray, List.set_cons_zero, List.set_cons_succ]
                refine wpAnyH_ready (rs := [5]) (by kernel_rfl) (by simp) ?_
                refine AllReadyH.cons (get_os (get_os (get_os (get_os (get_os (get_o0)))))) (fun KK hKK => ?_) AllReadyH.nil
                go_simp
                refine (HA.out _ H1.out.r).mono ?_; rintro e' w3 ⟨rfl, hg3, hr3⟩
                refine ⟨rfl, ?_⟩
                rw [HN.out]
                exact ⟨rfl, H1.out.g.trans hg3, hr3⟩
              · go_simp
                refine (HA.out _ H1.out.r).mono ?_; rintro e' w3 ⟨rfl, hg3, hr3⟩
                refine ⟨rfl, ?_⟩
                rw [HN.out]
                exact ⟨rfl, H1.out.g.trans hg3, hr3⟩
            | ok q =>
              obtain ⟨x, r⟩ := q
              have HN : Hid (ptier above l = ptail above nm ts (aheadI (ups ++ [(x : Int)]) (pnums (above - 1) (n - (k + 1)) r))) := by show _ = _; rw [hE.out, show n - k = (n - (k + 1)) + 1 by omega, aheadI_step hp]
              have HX2 : Hid (∀ z ∈ ups ++ [(x : Int)], I64 z) := by
                intro z hz
                rcases List.mem_append.1 hz with hz | hz
                · exact HX.out z hz
                · have := pnum_ok hp
                  simp at hz
                  subst hz
                  unfold I64
                  omega
              rw [hp] at HA
              clear hp hE
              go_wp2_with fail
              refine wp_region_held_drew (S := fun _ => True) (by kernel_rfl) trivial (fun hHeld => ?_)
              have H1 := Lib.hid (H.out.more (Bel.refl wr).drew)
              generalize wr.drew = w2d at *
              refine wpAnyH_take (i := 0) (v := ?v0) (get_o0) (by kernel_rfl) (by kernel_rfl) (by kernel_rfl) (by exact fun _ _ _ h => h) (Or.inl ⟨by rfl, ?hy0⟩) (by assumption) ?_
              case hy0 => (intro w hSw; (try dsimp only at hSw); go_simp) <;> with_reducible rfl
              try simp only [Act.put, List.setIfInBounds_toArray, List.set_cons_zero, List.set_cons_succ]
              refine wpAnyH_take (i := 2) (v := ?v2) (get_os (get_os (get_o0))) (by kernel_rfl) (by kernel_rfl) (by kernel_rfl) (by exact fun _ _ _ h => h) (Or.inl ⟨by rfl, ?hy2⟩) (by assumption) ?_
              case hy2 => (intro w hSw; (try dsimp only at hSw); go_simp) <;> with_reducible rfl
              try simp only [Act.put, List.setIfInBounds_toArray, List.set_cons_zero, List.set_cons_succ]
              refine wpAnyH_take (i := 3) (v := ?v3) (get_os (get_os (get_os (get_o0)))) (by kernel_rfl) (by kernel_rfl) (by kernel_rfl) (by exact fun _ _ _ h => h) (Or.inl ⟨by rfl, ?hy3⟩) (by assumption) ?_
              case hy3 => (intro w hSw; (try dsimp only at hSw); go_simp) <;> with_reducible rfl
              try simp only [Act.put, List.setIfInBounds_toArray, List.set_cons_zero, List.set_cons_succ]
              refine wpAnyH_take (i := 4) (v := ?v4) (get_os (get_os (get_os (get_os (get_o0))))) (by kernel_rfl) (by kernel_rfl) (by kernel_rfl) (by exact fun _ _ _ h => h) (Or.inl ⟨by rfl, ?hy4⟩) (by assumption) ?_
              case hy4 => (intro w hSw; (try dsimp only at hSw); go_simp) <;> with_reducible rfl
              try simp only [Act.put, List.setIfInBounds_toArray, List.set_cons_zero, List.set_cons_succ]
              refine wpAnyH_ready (rs := [1, 5]) (by kernel_rfl) (by simp) ?_
              refine AllReadyH.cons (get_os (get_o0)) (fun KK hKK => ?_) (AllReadyH.cons (get_os (get_os (get_os (get_os (get_os (get_o0)))))) (fun KK hKK => ?_) AllReadyH.nil)
              · have c0 := H1.out.Y.cell 2
                simp only [List.getElem?_toArray, List.getElem?_cons_zero, List.getElem?_cons_succ] at c0
                go_simp
                clear c0
                refine hKK.out _ _ trivial (fun hHeld => ?_)
                clear hKK KK
                try simp only [Act.put, List.setIfInBounds_toArray, List.set_cons_zero, List.set_cons_succ]
                refine wpAnyH_ready (rs := [5]) (by kernel_rfl) (by simp) ?_
                refine AllReadyH.cons (get_os (get_os (get_os (get_os (get_os (get_o0)))))) (fun KK hKK => ?_) AllReadyH.nil
                go_simp
                refine (HA.out _ H1.out.r).mono ?_; rintro e' w3 ⟨rfl, hg3, hr3⟩
                have H3 := Lib.hid (H1.out.read hb hg3 hr3)
                refine hKK.out _ _ trivial (fun hHeld => ?_)
                clear hKK KK
                try simp only [Act.put, List.setIfInBounds_toArray, List.set_cons_zero, List.set_cons_succ]
                clear hg3 hr3
                refine wpAnyH_ready (rs := [6]) (by kernel_rfl) (by simp) ?_
                refine AllReadyH.cons (get_os (get_os (get_os (get_os (get_os (get_os (get_o0))))))) (fun KK hKK => ?_) AllReadyH.nil
                have H4 := Lib.hid (H3.out.more ((Bel.refl _).alloc (.cells #[.int .i64 (x : Nat)] 3)))
                have R4 := Lib.hid (rd_new w3 3 #[.int .i64 (x : Nat)] 1 1 rfl)
                have hz4 : w.heap.size + 1 ≤ w3.heap.size := by have := H3.out.Z.lt; omega
                refine step_buildSlice1v rfl E_num (.tmp 24) rfl (.int .i64 (x : Nat)) rfl #[.int .i64 (x : Nat)] rfl rfl (by omega) ?_
                refine hKK.out _ _ trivial (fun hHeld => ?_)
                clear hKK KK
                try simp only [Act.put, List.setIfInBounds_toArray, List.set_cons_zero, List.set_cons_succ]
                refine wpAnyH_ready (rs := [7]) (by kernel_rfl) (by simp) ?_
                refine AllReadyH.cons (get_os (get_os (get_os (get_os (get_os (get_os (get_os (get_o0)))))))) (fun KK hKK => ?_) AllReadyH.nil
                refine step_append0 rfl (.tmp 20) (.tmp 25) _ rfl E_num (w.heap.size + 1) (by simp; omega) u ups.length (ups.map (Value.int .i64)) rfl H4.out.up _ 1 1 [.int .i64 (x : Nat)] rfl R4.out (by simp [Value.oneCell']) (by have := hdk.out; unfold maxLen; omega) (by have := hdk.out; omega) ?_
                intro u5 w5 hown5 hg5 hat5
                obtain ⟨g5, r5, z5, y5, t5, o5⟩ := H4.out.app hown5 hg5
                have c5 := y5.cell 2
                have f5 := y5.frozen 2
                simp only [List.getElem?_toArray, List.getElem?_cons_zero, List.getElem?_cons_succ] at c5
                obtain ⟨A5, q5, rfl, _⟩ := own_slice o5
                have H5 := Lib.hid (TrW.stored (hy := hyz) g5 r5 z5 y5 t5 o5 hyb hyw)
                rw [List.length_append, List.length_singleton] at H5
                clear g5 r5 z5 y5 t5 o5 hown5 hat5 hg5
                refine hKK.out _ _ trivial (fun hHeld => ?_)
                clear hKK KK
                try simp only [Act.put, List.setIfInBounds_toArray, List.set_cons_zero, List.set_cons_succ]
                refine wpAnyH_ready (rs := [8]) (by kernel_rfl) (by simp) ?_
                refine AllReadyH.cons (get_os (get_os (get_os (get_os (get_os (get_os (get_os (get_os (get_o0))))))))) (fun KK hKK => ?_) AllReadyH.nil
                go_simp
                refine hKK.out _ _ trivial (fun hHeld => ?_)
                clear hKK KK
                try simp only [Act.put, List.setIfInBounds_toArray, List.set_cons_zero, List.set_cons_succ]
                refine wpAnyH_ready (rs := [9]) (by kernel_rfl) (by simp) ?_
                refine AllReadyH.cons (get_os (get_os (get_os (get_os (get_os (get_os (get_os (get_os (get_os (get_o0)))))))))) (fun KK hKK => ?_) AllReadyH.nil
                go_simp
                clear c5 f5
                refine hKK.out _ _ trivial (fun hHeld => ?_)
                clear hKK KK
                try simp only [Act.put, List.setIfInBounds_toArray, List.set_cons_zero, List.set_cons_succ]
                refine wpAnyH_done (by kernel_rfl) ?_ _
                clear hHeld
                go_wp2_with fail
                go_roundg (n - (k + 1))
                case rel => exact ⟨k + 1, _, ups ++ [(x : Int)], r, rfl, by omega, by go_num, by show _ = _; have := hdk.out; simp [this], HX2, H5, HN⟩
                case measure => rw [Hgk.out]; omega
              · go_simp
                refine (HA.out _ H1.out.r).mono ?_; rintro e' w3 ⟨rfl, hg3, hr3⟩
                have H3 := Lib.hid (H1.out.read hb hg3 hr3)
                refine hKK.out _ _ trivial (fun hHeld => ?_)
                clear hKK KK
                try simp only [Act.put, List.setIfInBounds_toArray, List.set_cons_zero, List.set_cons_succ]
                clear hg3 hr3
                refine wpAnyH_ready (rs := [1, 6]) (by kernel_rfl) (by simp) ?_
                refine AllReadyH.cons (get_os (get_o0)) (fun KK hKK => ?_) (AllReadyH.cons (get_os (get_os (get_os (get_os (get_os (get_os (get_o0))))))) (fun KK hKK => ?_) AllReadyH.nil)
                · have c0 := H3.out.Y.cell 2
                  simp only [List.getElem?_toArray, List.getElem?_cons_zero, List.getElem?_cons_succ] at c0
                  go_simp
                  clear c0
                  refine hKK.out _ _ trivial (fun hHeld => ?_)
                  clear hKK KK
                  try simp only [Act.put, List.setIfInBounds_toArray, List.set_cons_zero, List.set_cons_succ]
                  refine wpAnyH_ready (rs := [6]) (by kernel_rfl) (by simp) ?_
                  refine AllReadyH.cons (get_os (get_os (get_os (get_os (get_os (get_os (get_o0))))))) (fun KK hKK => ?_) AllReadyH.nil
                  have H4 := Lib.hid (H3.out.more ((Bel.refl _).alloc (.cells #[.int .i64 (x : Nat)] 3)))
                  have R4 := Lib.hid (rd_new w3 3 #[.int .i64 (x : Nat)] 1 1 rfl)
                  have hz4 : w.heap.size + 1 ≤ w3.heap.size := by have := H3.out.Z.lt; omega
                  refine step_buildSlice1v rfl E_num (.tmp 24) rfl (.int .i64 (x : Nat)) rfl #[.int .i64 (x : Nat)] rfl rfl (by omega) ?_
                  refine hKK.out _ _ trivial (fun hHeld => ?_)
                  clear hKK KK
                  try simp only [Act.put, List.setIfInBounds_toArray, List.set_cons_zero, List.set_cons_succ]
                  refine wpAnyH_ready (rs := [7]) (by kernel_rfl) (by simp) ?_
                  refine AllReadyH.cons (get_os (get_os (get_os (get_os (get_os (get_os (get_os (get_o0)))))))) (fun KK hKK => ?_) AllReadyH.nil
                  refine step_append0 rfl (.tmp 20) (.tmp 25) _ rfl E_num (w.heap.size + 1) (by simp; omega) u ups.length (ups.map (Value.int .i64)) rfl H4.out.up _ 1 1 [.int .i64 (x : Nat)] rfl R4.out (by simp [Value.oneCell']) (by have := hdk.out; unfold maxLen; omega) (by have := hdk.out; omega) ?_
                  intro u5 w5 hown5 hg5 hat5
                  obtain ⟨g5, r5, z5, y5, t5, o5⟩ := H4.out.app hown5 hg5
                  have c5 := y5.cell 2
                  have f5 := y5.frozen 2
                  simp only [List.getElem?_toArray, List.getElem?_cons_zero, List.getElem?_cons_succ] at c5
                  obtain ⟨A5, q5, rfl, _⟩ := own_slice o5
                  have H5 := Lib.hid (TrW.stored (hy := hyz) g5 r5 z5 y5 t5 o5 hyb hyw)
                  rw [List.length_append, List.length_singleton] at H5
                  clear g5 r5 z5 y5 t5 o5 hown5 hat5 hg5
                  refine hKK.out _ _ trivial (fun hHeld => ?_)
                  clear hKK KK
                  try simp only [Act.put, List.setIfInBounds_toArray, List.set_cons_zero, List.set_cons_succ]
                  refine wpAnyH_ready (rs := [8]) (by kernel_rfl) (by simp) ?_
                  refine AllReadyH.cons (get_os (get_os (get_os (get_os (get_os (get_os (get_os (get_os (get_o0))))))))) (fun KK hKK => ?_) AllReadyH.nil
                  go_simp
                  refine hKK.out _ _ trivial (fun hHeld => ?_)
                  clear hKK KK
                  try simp only [Act.put, List.setIfInBounds_toArray, List.set_cons_zero, List.set_cons_succ]
                  refine wpAnyH_ready (rs := [9]) (by kernel_rfl) (by simp) ?_
                  refine AllReadyH.cons (get_os (get_os (get_os (get_os (get_os (get_os (get_os (get_os (get_os (get_o0)))))))))) (fun KK hKK => ?_) AllReadyH.nil
                  go_simp
                  clear c5 f5
                  refine hKK.out _ _ trivial (fun hHeld => ?_)
                  clear hKK KK
                  try simp only [Act.put, List.setIfInBounds_toArray, List.set_cons_zero, List.set_cons_succ]
                  refine wpAnyH_done (by kernel_rfl) ?_ _
                  clear hHeld
                  go_wp2_with fail
                  go_roundg (n - (k + 1))
                  case rel => exact ⟨k + 1, _, ups ++ [(x : Int)], r, rfl, by omega, by go_num, by show _ = _; have := hdk.out; simp [this], HX2, H5, HN⟩
                  case measure => rw [Hgk.out]; omega
                · have H4 := Lib.hid (H3.out.more ((Bel.refl _).alloc (.cells #[.int .i64 (x : Nat)] 3)))
                  have R4 := Lib.hid (rd_new w3 3 #[.int .i64 (x : Nat)] 1 1 rfl)
                  have hz4 : w.heap.size + 1 ≤ w3.heap.size := by have := H3.out.Z.lt; omega
                  refine step_buildSlice1v rfl E_num (.tmp 24) rfl (.int .i64 (x : Nat)) rfl #[.int .i64 (x : Nat)] rfl rfl (by omega) ?_
                  refine hKK.out _ _ trivial (fun hHeld => ?_)
                  clear hKK KK
                  try simp only [Act.put, List.setIfInBounds_toArray, List.set_cons_zero, List.set_cons_succ]
                  refine wpAnyH_ready (rs := [1]) (by kernel_rfl) (by simp) ?_
                  refine AllReadyH.cons (get_os (get_o0)) (fun KK hKK => ?_) AllReadyH.nil
                  have c0 := H4.out.Y.cell 2
                  simp only [List.getElem?_toArray, List.getElem?_cons_zero, List.getElem?_cons_succ] at c0
                  go_simp
                  clear c0
                  refine hKK.out _ _ trivial (fun hHeld => ?_)
                  clear hKK KK
                  try simp only [Act.put, List.setIfInBounds_toArray, List.set_cons_zero, List.set_cons_succ]
                  refine wpAnyH_ready (rs := [7]) (by kernel_rfl) (by simp) ?_
                  refine AllReadyH.cons (get_os (get_os (get_os (get_os (get_os (get_os (get_os (get_o0)))))))) (fun KK hKK => ?_) AllReadyH.nil
                  refine step_append0 rfl (.tmp 20) (.tmp 25) _ rfl E_num (w.heap.size + 1) (by simp; omega) u ups.length (ups.map (Value.int .i64)) rfl H4.out.up _ 1 1 [.int .i64 (x : Nat)] rfl R4.out (by simp [Value.oneCell']) (by have := hdk.out; unfold maxLen; omega) (by have := hdk.out; omega) ?_
                  intro u5 w5 hown5 hg5 hat5
                  obtain ⟨g5, r5, z5, y5, t5, o5⟩ := H4.out.app hown5 hg5
                  have c5 := y5.cell 2
                  have f5 := y5.frozen 2
                  simp only [List.getElem?_toArray, List.getElem?_cons_zero, List.getElem?_cons_succ] at c5
                  obtain ⟨A5, q5, rfl, _⟩ := own_slice o5
                  have H5 := Lib.hid (TrW.stored (hy := hyz) g5 r5 z5 y5 t5 o5 hyb hyw)
                  rw [List.length_append, List.length_singleton] at H5
                  clear g5 r5 z5 y5 t5 o5 hown5 hat5 hg5
                  refine hKK.out _ _ trivial (fun hHeld => ?_)
                  clear hKK KK
                  try simp only [Act.put, List.setIfInBounds_toArray, List.set_cons_zero, List.set_cons_succ]
                  refine wpAnyH_ready (rs := [8]) (by kernel_rfl) (by simp) ?_
                  refine AllReadyH.cons (get_os (get_os (get_os (get_os (get_os (get_os (get_os (get_os (get_o0))))))))) (fun KK hKK => ?_) AllReadyH.nil
                  go_simp
                  refine hKK.out _ _ trivial (fun hHeld => ?_)
                  clear hKK KK
                  try simp only [Act.put, List.setIfInBounds_toArray, List.set_cons_zero, List.set_cons_succ]
                  refine wpAnyH_ready (rs := [9]) (by kernel_rfl) (by simp) ?_
                  refine AllReadyH.cons (get_os (get_os (get_os (get_os (get_os (get_os (get_os (get_os (get_os (get_o0)))))))))) (fun KK hKK => ?_) AllReadyH.nil
                  go_simp
                  clear c5 f5
                  refine hKK.out _ _ trivial (fun hHeld => ?_)
                  clear hKK KK
                  try simp only [Act.put, List.setIfInBounds_toArray, List.set_cons_zero, List.set_cons_succ]
                  refine wpAnyH_done (by kernel_rfl) ?_ _
                  clear hHeld
                  go_wp2_with fail
                  go_roundg (n - (k + 1))
                  case rel => exact ⟨k + 1, _, ups ++ [(x : Int)], r, rfl, by omega, by go_num, by show _ = _; have := hdk.out; simp [this], HX2, H5, HN⟩
                  case measure => rw [Hgk.out]; omega
          · have HN : Hid (ptier above l = ptierC above ⟨nm, ts, ups⟩ lr) := by show _ = _; rw [hE.out, show n - k = 0 by omega]; simp [pnums, aheadI, ptail]
            clear hE
            obtain ⟨A2, c2, rfl, _⟩ := own_slice H.out.up
            have hul : ups.length ≤ 200 := by have := hdk.out; omega
            have HXX := Lib.hid HX.out
            obtain ⟨T, hT⟩ : ∃ T : Tir, T = ⟨nm, ⟨A, n, c, ts⟩, ⟨A2, ups.length, c2, ups⟩⟩ := ⟨_, rfl⟩
            have HO : Hid (TirOwn (w.heap.size + 1) T wr) := by subst hT; exact ⟨by have := H.out.ts; rw [← HNN.out] at this; exact this, H.out.up, by show nm.length ≤ 12; omega, htl.out, HXX.out, hn200, hul⟩
            have hTc : T.con = ⟨nm, ts, ups⟩ := by subst hT; rfl
            have hTs : T.cs = #[.string ⟨nm.toArray⟩, .slice A n c, .slice A2 ups.length c2] := by subst hT; rfl
            rw [← hTc] at HN
            have HTC := Lib.hid hTc
            have HTS := Lib.hid hTs
            have bY := H.out.Y
            rw [← hTs] at bY
            clear hT hTc hTs
            go_wp2_with ((with_reducible show wpList _ _ _ (⟨some 29, _, _, _, _, _⟩ :: _) _ _); refine wpList_load_blk rfl rowTir (.tmp 5) rfl w2.heap.size rfl bY rfl ?_)
            refine (HC.out T _ HO.out.rd (by have := HO.out.un; omega)).mono ?_; rintro e w6 ⟨rfl, hb6⟩
            have H6 := Lib.hid (H.out.more hb6)
            have HO6 := Lib.hid (HO.out.bel hb6)
            have bY6 := bY.bel hb6
            have hEr := tierErr_range T.con above
            clear hb6 H HO bY
            by_cases hE0 : tierErr T.con above = 0
            · have HN2 : Hid (ptier above l = .ok (T.con, lr)) := by show _ = _; rw [HN.out]; unfold ptierC; rw [if_pos hE0]
              rw [hE0]
              clear hE0 hEr HN
              go_wp2_with fail
              refine (want_yes b s lr 0 _ H6.out.r).mono ?_; rintro e w7 ⟨rfl, rfl⟩
              have bZ := H6.out.Z
              go_wp2_with (first | ((with_reducible show wpList _ _ _ (⟨some 37, _, _, _, _, _⟩ :: _) _ _); refine wpList_load_blk rfl rowTir (.tmp 5) rfl w2.heap.size rfl bY6 rfl ?_) | ((with_reducible show wpList _ _ _ (⟨_, .store _ (.tmp 4) _, _, _, _, _⟩ :: _) _ _); refine wpList_store_blk rfl rowTir (.tmp 4) (.tmp 37) rfl w.heap.size rfl bZ rfl T.cs rfl rfl (tir_one T) ?_; intro w8 bC hg8))
              refine bodyPost_ret (results_blk1 rfl rowTir rfl bC rfl) rfl ?_
              rw [HN2.out]
              exact ⟨T, rfl, rfl, H6.out.g.andThen hg8 (fun k e => by injection e with e; exact .inl (by omega)), H6.out.r.grown hg8 (by intro e; injection e with e; omega), HO6.out.kept hg8 (by omega)⟩
            · have HN2 : Hid (ptier above l = .error (tierErr T.con above)) := by show _ = _; rw [HN.out]; unfold ptierC; rw [if_neg hE0]
              have hw : wantErr (tierErr T.con above) = tierErr T.con above := by unfold wantErr; rw [if_neg hE0]
              have dE : (tierErr T.con above == 0) = false := by simpa using hE0
              have HW := Lib.hid hw
              clear hE0 hw HN
              go_wp2_with fail
              refine (want_no b s lr (tierErr T.con above) _ H6.out.r).mono ?_; rintro e w7 ⟨rfl, rfl⟩
              go_wp2_with fail
              refine ⟨rfl, ?_⟩
              rw [HN2.out, HW.out]
              exact ⟨rfl, H6.out.g, _, H6.out.r⟩
      · have HN : Hid (ptier above l = ptierC above ⟨nm, ts, []⟩ r2) := by show _ = _; rw [HE.out]; unfold pups; rw [if_neg h0]; rfl
        have d0 : decide ((0 : Int) < above) = false := by simp; omega
        obtain ⟨n, hn⟩ : ∃ n, n = ts.length := ⟨_, rfl⟩
        have HNN := Lib.hid hn
        rw [← hn] at H2 hn200
        rw [← hn]
        clear hn HE
        go_upto_region 7 with (((with_reducible show wpList _ _ _ (⟨_, .store _ (.tmp 5) _, _, _, _, _⟩ :: _) _ _); refine wpList_store_new rfl rowTir (.tmp 5) (.tmp 11) rfl rfl rfl #[.string ⟨nm.toArray⟩, .slice A n c, .slice none 0 0] rfl rfl (by simp [Value.oneCell']) ?_))
        obtain ⟨lr, hlr⟩ : ∃ lr, lr = r2 := ⟨_, rfl⟩
        rw [← hlr] at H2 HN
        clear hlr
        have H := H2
        obtain ⟨ups, hups⟩ : ∃ ups : List Int, ups = [] := ⟨_, rfl⟩
        have hul : ups.length ≤ 200 := by rw [hups]; simp
        have HXX : Hid (∀ z ∈ ups, I64 z) := by rw [hups]; exact fun z hz => by cases hz
        obtain ⟨A2, hA2⟩ : ∃ A2 : Option Addr, A2 = none := ⟨_, rfl⟩
        obtain ⟨c2, hc2⟩ : ∃ c2 : Nat, c2 = 0 := ⟨_, rfl⟩
        have e0 : (Value.slice none 0 0) = .slice A2 ups.length c2 := by rw [hups, hA2, hc2]; rfl
        rw [← hups] at HN
        have H3 : Hid (TrW w b w2.heap.size s lr nm (.slice A n c) ts (.slice A2 ups.length c2) ups (w2.alloc (.cells #[.string ⟨nm.toArray⟩, .slice A n c, .slice none 0 0] 140))) := by rw [← e0]; rw [← hups] at H; exact H
        clear H H2
        have H := H3
        generalize w2.alloc (.cells #[.string ⟨nm.toArray⟩, .slice A n c, .slice none 0 0] 140) = wr at *
        obtain ⟨T, hT⟩ : ∃ T : Tir, T = ⟨nm, ⟨A, n, c, ts⟩, ⟨A2, ups.length, c2, ups⟩⟩ := ⟨_, rfl⟩
        have HO : Hid (TirOwn (w.heap.size + 1) T wr) := by subst hT; exact ⟨by have := H.out.ts; rw [← HNN.out] at this; exact this, H.out.up, by show nm.length ≤ 12; omega, htl.out, HXX.out, hn200, hul⟩
        have hTc : T.con = ⟨nm, ts, ups⟩ := by subst hT; rfl
        have hTs : T.cs = #[.string ⟨nm.toArray⟩, .slice A n c, .slice A2 ups.length c2] := by subst hT; rfl
        rw [← hTc] at HN
        have HTC := Lib.hid hTc
        have HTS := Lib.hid hTs
        have bY := H.out.Y
        rw [← hTs] at bY
        clear hT hTc hTs
        go_wp2_with ((with_reducible show wpList _ _ _ (⟨some 29, _, _, _, _, _⟩ :: _) _ _); refine wpList_load_blk rfl rowTir (.tmp 5) rfl w2.heap.size rfl bY rfl ?_)
        refine (HC.out T _ HO.out.rd (by have := HO.out.un; omega)).mono ?_; rintro e w6 ⟨rfl, hb6⟩
        have H6 := Lib.hid (H.out.more hb6)
        have HO6 := Lib.hid (HO.out.bel hb6)
        have bY6 := bY.bel hb6
        have hEr := tierErr_range T.con above
        clear hb6 H HO bY
        by_cases hE0 : tierErr T.con above = 0
        · have HN2 : Hid (ptier above l = .ok (T.con, lr)) := by show _ = _; rw [HN.out]; unfold ptierC; rw [if_pos hE0]
          rw [hE0]
          clear hE0 hEr HN
          go_wp2_with fail
          refine (want_yes b s lr 0 _ H6.out.r).mono ?_; rintro e w7 ⟨rfl, rfl⟩
          have bZ := H6.out.Z
          go_wp2_with (first | ((with_reducible show wpList _ _ _ (⟨some 37, _, _, _, _, _⟩ :: _) _ _); refine wpList_load_blk rfl rowTir (.tmp 5) rfl w2.heap.size rfl bY6 rfl ?_) | ((with_reducible show wpList _ _ _ (⟨_, .store _ (.tmp 4) _, _, _, _, _⟩ :: _) _ _); refine wpList_store_blk rfl rowTir (.tmp 4) (.tmp 37) rfl w.heap.size rfl bZ rfl T.cs rfl rfl (tir_one T) ?_; intro w8 bC hg8))
          refine bodyPost_ret (results_blk1 rfl rowTir rfl bC rfl) rfl ?_
          rw [HN2.out]
          exact ⟨T, rfl, rfl, H6.out.g.andThen hg8 (fun k e => by injection e with e; exact .inl (by omega)), H6.out.r.grown hg8 (by intro e; injection e with e; omega), HO6.out.kept hg8 (by omega)⟩
        · have HN2 : Hid (ptier above l = .error (tierErr T.con above)) := by show _ = _; rw [HN.out]; unfold ptierC; rw [if_neg hE0]
          have hw : wantErr (tierErr T.con above) = tierErr T.con above := by unfold wantErr; rw [if_neg hE0]
          have dE : (tierErr T.con above == 0) = false := by simpa using hE0
          have HW := Lib.hid hw
          clear hE0 hw HN
          go_wp2_with fail
          refine (want_no b s lr (tierErr T.con above) _ H6.out.r).mono ?_; rintro e w7 ⟨rfl, rfl⟩
          go_wp2_with fail
          refine ⟨rfl, ?_⟩
          rw [HN2.out, HW.out]
          exact ⟨rfl, H6.out.g, _, H6.out.r⟩

end Go.Proofs.Ytnekknemjhlgdaa

namespace Go.Proofs.Ytnekknemjhlgdaa
open Go.RowKit
set_option linter.unusedVariables false
set_option linter.unusedSimpArgs false

theorem ptier_err {above k : Int} {l : List UInt8} (h : ptier above l = .error k) : k ≠ 0 := by
  unfold ptier at h
  split at h
  · rename_i h1
    injection h with h
    subst h
    unfold ptxt at h1
    split at h1
    · rename_i h2
      injection h1 with h1
      subst h1
      have := pnum_err h2
      omega
    · have := (pfix_err h1).1
      omega
  · split at h
    · rename_i h1
      injection h with h
      subst h
      have := tread_err h1
      omega
    · split at h
      · rename_i h1
        injection h with h
        subst h
        unfold pups at h1
        split at h1
        · have := pnums_err h1
          omega
        · cases h1
      · unfold ptierC at h
        split at h
        · cases h
        · rename_i h1
          injection h with h
          subst h
          exact h1

/-- A tier read is laid in a block of the reading function's own. -/
def RTr (w0 : World) (B g : Nat) (o : PR TC) (K : PR TC → Int) (k : Int) (w' : World) : Prop :=
  Bel w0 w' ∧ k = K o ∧ ∃ T : Tir, Blk w' g 140 T.cs ∧ ∀ t l, o = .ok (t, l) → T.con = t ∧ TirOwn (B + 3) T w'
theorem TirOwn.but2 {B base : Nat} {T : Tir} {w w' : World} (h : TirOwn base T w) (hb : But2 B w w') (hB : B + 2 ≤ base) : TirOwn base T w' :=
  ⟨own_but2 h.ts hb hB, own_but2 h.up hb hB, h.nm, h.tl, h.ul, h.tn, h.un⟩
abbrev Tir.nil : Tir := ⟨[], ⟨none, 0, 0, []⟩, ⟨none, 0, 0, []⟩⟩
abbrev TC.nil : TC := ⟨[], [], []⟩
theorem tir_nil_rd (w : World) : Tir.nil.rd w := ⟨by simp, Row.nil_rd w, Row.nil_rd w⟩

/-- What tier.Take answers. -/
def trtake (above : Int) (s : List UInt8) : TC × Int :=
  match ptier above s with
  | .error k => (.nil, k)
  | .ok (t, l) => if l = [] then (t, 0) else (.nil, 3)
def TkPost (r : TC × Int) (w : World) (e : Ending) (w' : World) : Prop := ∃ T : Tir, e = .returned (.tuple #[.agg T.cs, .int .i64 r.2]) ∧ T.con = r.1 ∧ T.rd w' ∧ T.up.n ≤ 200 ∧ Bel w w'

end Go.Proofs.Ytnekknemjhlgdaa

namespace Go.Proofs.Ytnekknemjhlgdaa
open Go.RowKit
set_option linter.unusedVariables false
set_option linter.unusedSimpArgs false

set_option maxRecDepth 100000 in
set_option maxHeartbeats 1000000 in
theorem ints_any (A : Option Addr) (n c : Nat) (xs : List Int) (C : Option Addr) (m d : Nat) (ys : List Int) (w : World) (hx : Rd w 1 A n (xs.map (Value.int .i64))) (hy : Rd w 1 C m (ys.map (Value.int .i64))) (hn : n ≤ 9223372036854775806) (hm : m ≤ 9223372036854775806) :
    Calls Try.prog 31 #[.slice A n c, .slice C m d] w fun e w' => e = .returned (.bool (xs == ys)) ∧ Bel w w' := by
  have hxl : Hid (xs.length = n) := by have := hx.len; show _ = _; simpa using this
  have hyl : Hid (ys.length = m) := by have := hy.len; show _ = _; simpa using this
  go_enter Try.func31, Try.ntmps31
  by_cases hnm : n = m
  · subst hnm
    go_wp2
    go_loopg [13] n (fun g i wr => ∃ k : Nat, g = n - k ∧ k ≤ n ∧ i = .int .i64 k ∧ Bel w wr ∧ Hid ((xs == ys) = (xs.drop k == ys.drop k)))
    case atStart => exact ⟨0, rfl, by omega, rfl, Bel.refl _, rfl⟩
    case round =>
      obtain ⟨k, hgk, hk, rfl, hB, hF⟩ := hrel
      have Hgk := Lib.hid hgk
      clear hgk
      by_cases hlt : k < n
      · obtain ⟨ad, a, rfl, hak, hc⟩ := Rd.intC (hx.bel hB) hlt
        obtain ⟨bd, b, rfl, hbk, hd⟩ := Rd.intC (hy.bel hB) hlt
        have HS := Lib.hid (intsEq_step hak hbk)
        clear hak hbk
        cases hab : (a == b) with
        | true =>
          have HR : Hid ((xs == ys) = (xs.drop (k + 1) == ys.drop (k + 1))) := by show _ = _; rw [hF.out, HS.out, hab]; rfl
          have hne : (a != b) = false := by rw [bne, hab]; rfl
          clear hF HS
          go_wp2_with fail
          go_quiet (fail)
          go_wp2
          go_roundg (n - (k + 1))
          case rel => exact ⟨k + 1, rfl, by omega, by go_num, hB.drewN _, HR⟩
          case measure => rw [Hgk.out]; omega
        | false =>
          have HR : Hid ((xs == ys) = false) := by show _ = _; rw [hF.out, HS.out, hab]; rfl
          have hne : (a != b) = true := by rw [bne, hab]; rfl
          clear hF HS
          go_wp2_with fail
          go_quiet (fail)
          go_wp2
          go_ret
          rw [HR.out]
          exact ⟨rfl, hB.drewN _⟩
      · have HR : Hid ((xs == ys) = true) := by
          show _ = _
          rw [hF.out, List.drop_of_length_le (by have := hxl.out; omega), List.drop_of_length_le (by have := hyl.out; omega)]
          rfl
        clear hF
        go_wp2
        go_ret
        rw [HR.out]
        exact ⟨rfl, hB⟩
  · have HR : Hid ((xs == ys) = false) := by
      show _ = _
      exact beq_len (by have := hxl.out; have := hyl.out; omega)
    go_wp2
    go_ret
    rw [HR.out]
    exact ⟨rfl, Bel.refl _⟩

/-- Under which member one stands. -/
def overOf (up : List Int) (i : Int) : Int := if i < 0 then -1 else (up[i.toNat]?).getD (-1)
set_option maxRecDepth 100000 in
theorem over_any (t : Tir) (i : Int) (w : World) (ht : t.rd w) (hi : I64 i) :
    Calls Try.prog 229 #[.agg t.cs, .int .i64 i] w fun e w' => e = .returned (.int .i64 (overOf t.up.l i)) ∧ Bel w w' := by
  have hW := (Bel.refl w).alloc (.cells t.cs 140)
  have h1 := ht.mono hW
  obtain ⟨hnm, hts, hup⟩ := ht
  have htl : Hid (t.ts.l.length = t.ts.n) := hts.len
  have hul : Hid (t.up.l.length = t.up.n) := hup.len
  have hn63 := hts.n63
  have hu63 := hup.n63
  obtain ⟨nm, ⟨A, n, c, ts⟩, ⟨A2, n2, c2, up⟩⟩ := t
  simp only [Tir.cs, Tir.con] at *
  have HR := Lib.hid h1.ts.texts
  have HX := Lib.hid h1.ts.txok
  have HU := Lib.hid h1.up.ints
  have HUI := Lib.hid h1.up.all
  have HW := Lib.hid hW
  clear hW h1 hts hup
  obtain ⟨i0, i1⟩ := hi
  by_cases h0 : i < 0
  · have HR : Hid (overOf up i = -1) := by show _ = _; unfold overOf; rw [if_pos h0]
    have d0 : decide (i < 0) = true := by simp; omega
    go_enter Try.func229, Try.ntmps229
    go_wp2
    go_ret
    rw [HR.out]
    exact ⟨rfl, HW.out⟩
  · obtain ⟨k, rfl⟩ : ∃ k : Nat, i = k := ⟨i.toNat, by omega⟩
    have d0 : decide ((k : Int) < 0) = false := by simp
    by_cases hk : k < n2
    · obtain ⟨ad, z, rfl, hz, hc⟩ := Rd.intC HU.out hk
      have HR : Hid (overOf up k = z) := by show _ = _; unfold overOf; rw [if_neg (by omega), Int.toNat_natCast, hz]; rfl
      have d1 : decide ((n2 : Int) ≤ (k : Int)) = false := by simp; omega
      have d2 : decide (n2 ≤ k) = false := by simp; omega
      have i2 : (0 : Int) ≤ k := by omega
      have i3 : (k : Int) < n2 := by omega
      clear hz
      go_enter Try.func229, Try.ntmps229
      go_wp2
      go_ret
      rw [HR.out]
      exact ⟨rfl, HW.out⟩
    · have HR : Hid (overOf up k = -1) := by show _ = _; unfold overOf; rw [if_neg (by omega), Int.toNat_natCast, List.getElem?_eq_none (by have := hul.out; omega)]; rfl
      have d1 : decide ((n2 : Int) ≤ (k : Int)) = true := by simp; omega
      have d2 : decide (n2 ≤ k) = true := by simp; omega
      go_enter Try.func229, Try.ntmps229
      go_wp2
      go_ret
      rw [HR.out]
      exact ⟨rfl, HW.out⟩

/-- The places of a number among some. -/
def placesOf (x : Int) : Nat → List Int → List Int
  | _, [] => []
  | k, z :: r => if z = x then (k : Int) :: placesOf x (k + 1) r else placesOf x (k + 1) r
theorem placesOf_drop {up : List Int} {x z : Int} {k : Nat} (h : up[k]? = some z) : placesOf x k (up.drop k) = if z = x then (k : Int) :: placesOf x (k + 1) (up.drop (k + 1)) else placesOf x (k + 1) (up.drop (k + 1)) := by
  obtain ⟨hk, rfl⟩ := List.getElem?_eq_some_iff.1 h
  rw [List.drop_eq_getElem_cons hk]
  rfl
def IntsSaid (w : World) (r : List Int) (e : Ending) (w' : World) : Prop := ∃ A c, e = .returned (.slice A r.length c) ∧ Bel w w' ∧ Rd w' 1 A r.length (r.map (Value.int .i64))

end Go.Proofs.Ytnekknemjhlgdaa

namespace Go.Proofs.Ytnekknemjhlgdaa
open Go.RowKit
set_option linter.unusedVariables false
set_option linter.unusedSimpArgs false

/-- Memory in the document's Read of tiers. -/
structure TsW (w : World) (s : List UInt8) (t k : Int) (nm : List UInt8) (v : Value) (ts : List (List UInt8)) (u : Value) (ups : List Int) (wr : World) : Prop where
  bel : Bel w wr
  A : Blk wr w.heap.size 161 (scs s t k)
  R : Blk wr (w.heap.size + 1) 161 (scs [] 0 0)
  Z : Blk wr (w.heap.size + 1 + 1) 140 #[.string ⟨#[]⟩, .slice none 0 0, .slice none 0 0]
  G : Blk wr (w.heap.size + 1 + 1 + 1) 140 #[.string ⟨nm.toArray⟩, v, u]
  ts : wr.ownsRow (w.heap.size + 1 + 1 + 1 + 1) 9 1 v ts.length (ts.map tx)
  up : wr.ownsRow (w.heap.size + 1 + 1 + 1 + 1) 3 1 u ups.length (ups.map (Value.int .i64))
section
variable {w w1 w2 : World} {s nm nm' : List UInt8} {t k t' k' : Int} {v v' u u' : Value} {ts ts' : List (List UInt8)} {ups : List Int}
theorem TsW.more (h : TsW w s t k nm v ts u ups w1) (hb : Bel w1 w2) : TsW w s t k nm v ts u ups w2 := ⟨h.bel.trans hb, h.A.bel hb, h.R.bel hb, h.Z.bel hb, h.G.bel hb, own_bel h.ts hb, own_bel h.up hb⟩
theorem TsW.setA (h : TsW w s t k nm v ts u ups w1) (hg : w1.grownBy w2 (some w.heap.size)) (hA : Blk w2 w.heap.size 161 (scs s t' k')) : TsW w s t' k' nm v ts u ups w2 :=
  ⟨h.bel.grownAt hg (Nat.le_refl _), hA, h.R.grown hg (by intro e; injection e with e; omega), h.Z.grown hg (by intro e; injection e with e; omega), h.G.grown hg (by intro e; injection e with e; omega), h.ts.kept hg (own_apart h.ts (by omega)), h.up.kept hg (own_apart h.up (by omega))⟩
theorem TsW.far (h : TsW w s t k nm v ts u ups w1) {g : Nat} (hg : w1.grownBy w2 (some g)) (h1 : w.heap.size + 1 + 1 + 1 < g) (h2 : v.ownBlock ≠ some g) (h3 : u.ownBlock ≠ some g) : TsW w s t k nm v ts u ups w2 :=
  ⟨h.bel.grownAt hg (by omega), h.A.grown hg (by intro e; injection e with e; omega), h.R.grown hg (by intro e; injection e with e; omega), h.Z.grown hg (by intro e; injection e with e; omega), h.G.grown hg (by intro e; injection e with e; omega), kept_ne h.ts hg h2, kept_ne h.up hg h3⟩
/-- A field of the tier is set. -/
theorem TsW.setG (h : TsW w s t k nm v ts u ups w1) (i : Nat) (x : Value) (hG : (#[.string ⟨nm.toArray⟩, v, u] : Array Value).setIfInBounds i x = #[.string ⟨nm'.toArray⟩, v', u']) (h1 : w1.ownsRow (w.heap.size + 1 + 1 + 1 + 1) 9 1 v' ts'.length (ts'.map tx)) {ups' : List Int} (h2 : w1.ownsRow (w.heap.size + 1 + 1 + 1 + 1) 3 1 u' ups'.length (ups'.map (Value.int .i64))) : TsW w s t k nm' v' ts' u' ups' (w1.setCell ⟨w.heap.size + 1 + 1 + 1, i, none⟩ x) := by
  have g := grownBy_setCell w1 (w.heap.size + 1 + 1 + 1) i x
  refine ⟨h.bel.grownAt g (by omega), h.A.grown g (by intro e; injection e with e; omega), h.R.grown g (by intro e; injection e with e; omega), h.Z.grown g (by intro e; injection e with e; omega), ?_, h1.kept g (own_apart h1 (by omega)), h2.kept g (own_apart h2 (by omega))⟩
  have := h.G.set_ i x
  rwa [hG] at this
theorem TsW.app {x : Int} (h : TsW w s t k nm v ts u ups w1) (ho : w2.ownsRow (w.heap.size + 1 + 1 + 1 + 1) 3 1 u' (ups.length + 1) (ups.map (Value.int .i64) ++ [.int .i64 x])) (hg : w1.grownBy w2 u.ownBlock) :
    TsW w s t k nm v ts u' (ups ++ [x]) (w2.setCell ⟨w.heap.size + 1 + 1 + 1, 2, none⟩ u') ∧ Blk w2 (w.heap.size + 1 + 1 + 1) 140 #[.string ⟨nm.toArray⟩, v, u] := by
  have hu := h.up
  have b : Bel w w2 := h.bel.grown hg (fun j e => by have := own_ge hu e; omega)
  have bG := h.G.grown hg (fun e => by have := own_ge hu e.symm; omega)
  have g := grownBy_setCell w2 (w.heap.size + 1 + 1 + 1) 2 u'
  have hts : w2.ownsRow (w.heap.size + 1 + 1 + 1 + 1) 9 1 v ts.length (ts.map tx) := own_grown h.ts hg (apart_types h.ts hu (fun e => ne_it e.symm))
  refine ⟨⟨b.grownAt g (by omega), ?_, ?_, ?_, ?_, hts.kept g (own_apart hts (by omega)), ?_⟩, bG⟩
  · exact (h.A.grown hg (fun e => by have := own_ge hu e.symm; omega)).grown g (by intro e; injection e with e; omega)
  · exact (h.R.grown hg (fun e => by have := own_ge hu e.symm; omega)).grown g (by intro e; injection e with e; omega)
  · exact (h.Z.grown hg (fun e => by have := own_ge hu e.symm; omega)).grown g (by intro e; injection e with e; omega)
  · have := bG.set_ 2 u'
    simpa using this
  · have h2 : w2.ownsRow (w.heap.size + 1 + 1 + 1 + 1) 3 1 u' (ups ++ [x]).length ((ups ++ [x]).map (Value.int .i64)) := by simpa using ho
    exact h2.kept g (own_apart h2 (by omega))
end
theorem TirOwn.setA {base : Nat} {T : Tir} {w : World} (h : TirOwn base T w) {g o : Nat} {x : Value} {cs : Array Value} (hA : Blk w g 161 cs) : TirOwn base T (w.setCell ⟨g, o, none⟩ x) :=
  ⟨kept_ne h.ts (grownBy_setCell w g o x) (own_blk_ne h.ts hA (by decide)), kept_ne h.up (grownBy_setCell w g o x) (own_blk_ne h.up hA (by decide)), h.nm, h.tl, h.ul, h.tn, h.un⟩
theorem own_butD {w w' : World} {d0 d1 base : Nat} {e : TypeId} {size n : Nat} {v : Value} {xs : List Value} (h : w.ownsRow base e size v n xs) (hb : ButD d0 d1 w w') (h0 : v.ownBlock ≠ some d0) (h1 : v.ownBlock ≠ some d1) : w'.ownsRow base e size v n xs := by
  refine ⟨h.1, ?_⟩
  rcases h.2 with h2 | ⟨g, cap, cur, x1, x2, x3, x4⟩
  · exact .inl h2
  · have hlt : g < w.heap.size := by
      rcases Nat.lt_or_ge g w.heap.size with h | h
      · exact h
      · rw [Array.getElem?_eq_none h] at x3; cases x3
    have hob : v.ownBlock = some g := by rw [x1]; rfl
    exact .inr ⟨g, cap, cur, x1, x2, (hb.block g hlt (fun e => h0 (by rw [hob, e])) (fun e => h1 (by rw [hob, e]))).trans x3, x4⟩
theorem TirOwn.butD {base d0 d1 : Nat} {T : Tir} {w w' : World} (h : TirOwn base T w) (hb : ButD d0 d1 w w') {c0 c1 : Array Value} (h0 : Blk w d0 161 c0) (h1 : Blk w d1 140 c1) : TirOwn base T w' :=
  ⟨own_butD h.ts hb (own_blk_ne h.ts h0 (by decide)) (own_blk_ne h.ts h1 ne_sr), own_butD h.up hb (own_blk_ne h.up h0 (by decide)) (own_blk_ne h.up h1 ne_ir), h.nm, h.tl, h.ul, h.tn, h.un⟩

/-- Where the document's Read stands. -/
def TsInv (above : Int) (s l0 nm : List UInt8) (ts : List (List UInt8)) (n : Nat) (ups : List Int) (m : Nat) (t kk : Int) : Prop :=
  (kk ≠ 0 ∧ ptier above l0 = .error kk) ∨ (kk = 0 ∧ nm.length ≤ 12 ∧ (∀ x ∈ ts, x.length ≤ 16) ∧ (∀ z ∈ ups, I64 z) ∧ n ≤ 200 ∧ ts.length = n ∧ True ∧ ∃ tn : Nat, t = tn ∧ tn ≤ s.length ∧ ptier above l0 = ptail above nm ts (aheadI ups (pups above m (s.drop tn))))
theorem TsInv.bad {above : Int} {s l0 nm : List UInt8} {ts : List (List UInt8)} {n m : Nat} {ups : List Int} {t kk : Int} (h : TsInv above s l0 nm ts n ups m t kk) (hk : kk ≠ 0) : ptier above l0 = .error kk := by
  rcases h with ⟨_, h⟩ | ⟨h, _⟩
  · exact h
  · exact absurd h hk
theorem TsInv.good {above : Int} {s l0 nm : List UInt8} {ts : List (List UInt8)} {n m : Nat} {ups : List Int} {t kk : Int} (h : TsInv above s l0 nm ts n ups m t kk) (hk : kk = 0) : nm.length ≤ 12 ∧ (∀ x ∈ ts, x.length ≤ 16) ∧ (∀ z ∈ ups, I64 z) ∧ n ≤ 200 ∧ ts.length = n ∧ True ∧ ∃ tn : Nat, t = tn ∧ tn ≤ s.length ∧ ptier above l0 = ptail above nm ts (aheadI ups (pups above m (s.drop tn))) := by
  rcases h with ⟨h, _⟩ | ⟨_, h⟩
  · exact absurd hk h
  · exact h
theorem ptail_done {above : Int} {nm : List UInt8} {ts : List (List UInt8)} {ups : List Int} {m : Nat} {l : List UInt8} (h : ¬ 0 < above ∨ m = 0) : ptail above nm ts (aheadI ups (pups above m l)) = ptierC above ⟨nm, ts, ups⟩ l := by
  have e : pups above m l = .ok ([], l) := by
    unfold pups
    rcases h with h | h
    · rw [if_neg h]
    · subst h
      split <;> rfl
  rw [e]
  simp [aheadI, ptail]

/-- What the document's Read ends with. -/
def RtPost (s : List UInt8) (o : PR TC) (w : World) (e : Ending) (w' : World) : Prop :=
  ∃ (t k : Int) (T : Tir), e = .returned (.tuple #[scn s t k, .agg T.cs]) ∧ Bel w w' ∧ Hid (SRes s o t k T.con) ∧ (k = 0 → TirOwn w.heap.size T w')

/-- The members read, whatever the scan. -/
theorem rtreadR_any (above : Int) (s l0 : List UInt8) (t1 k1 : Int) (nm : List UInt8) (hS : SRes s (ptxt 12 l0) t1 k1 nm) (hs : s.length ≤ 1000001) (w : World) :
    Calls Try.prog 227 #[scn s t1 k1, .int .i64 200] w fun e w' => ∃ (t k : Int) (A : Option Addr) (n c : Nat) (ts : List (List UInt8)), e = .returned (.tuple #[scn s t k, .slice A n c]) ∧ Bel w w' ∧ Hid (ts.length = n) ∧ w'.ownsRow w.heap.size 9 1 (.slice A n c) ts.length (ts.map tx) ∧ Hid (TsInv above s l0 nm ts n [] (if 0 < above then n else 0) t k) := by
  rcases hS with ⟨hk, ho⟩ | ⟨rfl, tn, rfl, htn, ho⟩
  · refine (rtread_bad s t1 k1 200 hk w).mono ?_
    rintro e w' ⟨rfl, hb⟩
    exact ⟨t1, k1, none, 0, 0, [], rfl, hb, rfl, ⟨rfl, .inl ⟨rfl, rfl⟩⟩, .inl ⟨hk, by unfold ptier; rw [ho]⟩⟩
  · refine (rtreadAt_any s tn 200 w hs htn (by omega) (by omega)).mono ?_
    rintro e w' ⟨hb, t, A, c, ds, rfl, hown, hds⟩
    cases hd : tread 200 (s.drop tn) with
    | error k =>
      have := tread_err hd
      refine ⟨t, k, A, ds.length, c, ds, rfl, hb, rfl, hown, .inl ⟨by omega, ?_⟩⟩
      unfold ptier
      rw [ho]
      simp only
      rw [hd]
    | ok q =>
      obtain ⟨ts, l⟩ := q
      obtain ⟨rfl, t2, rfl, ht2, rfl⟩ := hds _ _ hd
      refine ⟨t2, 0, A, ds.length, c, ds, rfl, hb, rfl, hown, .inr ⟨rfl, ?_, ?_, ?_, ?_, rfl, trivial, t2, rfl, ht2, ?_⟩⟩
      · have := (ptxt_ok ho).1
        omega
      · exact fun x hx => rowErr_len (tread_back hd).1 hx
      · intro z hz
        cases hz
      · have := tread_len hd
        omega
      · rw [ptier_ok ho hd, aheadI_nil]
        by_cases h0 : 0 < above
        · rw [if_pos h0]
        · rw [if_neg h0]
          unfold pups
          rw [if_neg h0, if_neg h0]

theorem TsInv.step {above : Int} {s l0 nm : List UInt8} {ts : List (List UInt8)} {n k tn : Nat} {ups : List Int} {t kk : Int} {x : Nat} (h1 : nm.length ≤ 12) (h2 : ∀ x ∈ ts, x.length ≤ 16) (h3 : ∀ z ∈ ups, I64 z) (h4 : n ≤ 200) (h5 : ts.length = n) (h0 : 0 < above) (ha : above ≤ 9223372036854775807) (hk : k < n)
    (hE : ptier above l0 = ptail above nm ts (aheadI ups (pups above (n - k) (s.drop tn)))) (hS : SRes s (pnum (above - 1) (s.drop tn)) t kk x) : TsInv above s l0 nm ts n (ups ++ [(x : Int)]) (if 0 < above then n - (k + 1) else 0) t kk := by
  unfold pups at hE
  rw [if_pos h0, show n - k = (n - (k + 1)) + 1 by omega] at hE
  rcases hS with ⟨x1, x2⟩ | ⟨x1, t2, x3, x4, x2⟩
  · rw [aheadI_err x2] at hE
    exact .inl ⟨x1, hE⟩
  · rw [aheadI_step x2] at hE
    refine .inr ⟨x1, h1, h2, ?_, h4, h5, trivial, t2, x3, x4, ?_⟩
    · intro z hz
      rcases List.mem_append.1 hz with hz | hz
      · exact h3 z hz
      · have := pnum_ok x2
        simp at hz
        subst hz
        unfold I64
        omega
    · rw [if_pos h0, hE]
      unfold pups
      rw [if_pos h0]

set_option maxRecDepth 100000 in
set_option maxHeartbeats 2000000 in
theorem rtrread_any (s : List UInt8) (t0 : Nat) (above : Int) (w : World) (hs : s.length ≤ 1000001) (ht0 : t0 ≤ s.length) (ha : I64 above) :
    Calls Try.prog 198 #[scn s t0 0, .int .i64 above] w (RtPost s (ptier above (s.drop t0)) w) := by
  obtain ⟨l0, hl0⟩ : ∃ l0, l0 = s.drop t0 := ⟨_, rfl⟩
  have HT := Lib.hid (fun w => rtext_any s t0 12 hs ht0 (by omega) (by omega) w)
  rw [← hl0] at HT
  rw [← hl0]
  clear hl0
  have a0' := ha.1
  have a1' := ha.2
  have H0 : Hid (TsW w s t0 0 [] (.slice none 0 0) [] (.slice none 0 0) [] ((((w.alloc (.cells (scs s t0 0) 161)).alloc (.cells #[.string ⟨#[]⟩, .int .i64 0, .int .i64 0] 161)).alloc (.cells #[.string ⟨#[]⟩, .slice none 0 0, .slice none 0 0] 140)).alloc (.cells #[.string ⟨#[]⟩, .slice none 0 0, .slice none 0 0] 140))) := by
    refine ⟨((((Bel.refl w).alloc _).alloc _).alloc _).alloc _, (((Blk.new w _ _).alloc _).alloc _).alloc _, ?_, ?_, ?_, ⟨rfl, .inl ⟨rfl, rfl⟩⟩, ⟨rfl, .inl ⟨rfl, rfl⟩⟩⟩
    · have := ((Blk.new (w.alloc (.cells (scs s t0 0) 161)) 161 #[.string ⟨#[]⟩, .int .i64 0, .int .i64 0]).alloc (.cells #[.string ⟨#[]⟩, .slice none 0 0, .slice none 0 0] 140)).alloc (.cells #[.string ⟨#[]⟩, .slice none 0 0, .slice none 0 0] 140)
      simpa only [World.size_alloc] using this
    · have := (Blk.new ((w.alloc (.cells (scs s t0 0) 161)).alloc (.cells #[.string ⟨#[]⟩, .int .i64 0, .int .i64 0] 161)) 140 #[.string ⟨#[]⟩, .slice none 0 0, .slice none 0 0]).alloc (.cells #[.string ⟨#[]⟩, .slice none 0 0, .slice none 0 0] 140)
      simpa only [World.size_alloc] using this
    · have := Blk.new (((w.alloc (.cells (scs s t0 0) 161)).alloc (.cells #[.string ⟨#[]⟩, .int .i64 0, .int .i64 0] 161)).alloc (.cells #[.string ⟨#[]⟩, .slice none 0 0, .slice none 0 0] 140)) 140 #[.string ⟨#[]⟩, .slice none 0 0, .slice none 0 0]
      simpa only [World.size_alloc] using this
  go_enter Try.func198, Try.ntmps198
  go_wp2_with fail
  refine (HT.out _).mono ?_; rintro e w1 hP
  obtain ⟨t1, k1, nm, rfl, hb1, hS⟩ := hP.res ([] : List UInt8) rfl (by intro k h; have := ptxt_err h; omega)
  have H1 := Lib.hid (H0.out.more hb1)
  have bA1 := H1.out.A
  clear hP hb1 H0 HT
  go_upto_region 3 with ((with_reducible show wpList _ _ _ (⟨_, .store _ (.tmp 2) _, _, _, _, _⟩ :: _) _ _); refine wpList_store_blk rfl rowScn (.tmp 2) (.tmp 13) rfl w.heap.size rfl bA1 rfl (scs s t1 k1) rfl rfl (scs_one _ _ _) ?_; intro w2 bA2 hg2; have H2 := Lib.hid (H1.out.setA hg2 bA2); obtain ⟨g0, g1, g2, f0, f1, f2⟩ := H2.out.G.three; clear bA1 bA2 hg2 H1)
  have H3 : Hid (TsW w s t1 k1 nm (.slice none 0 0) [] (.slice none 0 0) [] (w2.setCell ⟨w.heap.size + 1 + 1 + 1, 0, none⟩ (.string ⟨nm.toArray⟩))) := H2.out.setG 0 _ (by simp) H2.out.ts H2.out.up
  generalize w2.setCell ⟨w.heap.size + 1 + 1 + 1, 0, none⟩ (.string ⟨nm.toArray⟩) = w3 at *
  obtain ⟨a0, a1, a2, _, _, _⟩ := H3.out.A.three
  clear H2 g0 g1 g2 f0 f1 f2
  go_wp2_with fail
  refine (rtreadR_any above s l0 t1 k1 nm hS.out hs _).mono ?_; rintro e w4 ⟨t, kk, A, n, c, ts, rfl, hb4, HNN, hown, HI⟩
  have H4 := Lib.hid (H3.out.more hb4)
  have OW4 := Lib.hid (own_less (base' := w.heap.size + 1 + 1 + 1 + 1) hown (by have := H3.out.G.lt; omega))
  have bA4 := H4.out.A
  clear a0 a1 a2 hb4 H3 hS hown
  go_upto_region 4 with ((with_reducible show wpList _ _ _ (⟨_, .store _ (.tmp 2) _, _, _, _, _⟩ :: _) _ _); refine wpList_store_blk rfl rowScn (.tmp 2) (.tmp 19) rfl w.heap.size rfl bA4 rfl (scs s t kk) rfl rfl (scs_one _ _ _) ?_; intro w5 bA5 hg5; have H5 := Lib.hid (H4.out.setA hg5 bA5); have OW5 := Lib.hid (OW4.out.kept hg5 (own_apart OW4.out (by omega))); obtain ⟨g0, g1, g2, f0, f1, f2⟩ := H5.out.G.three; clear bA4 bA5 hg5 H4 OW4)
  have H6 : Hid (TsW w s t kk nm (.slice A n c) ts (.slice none 0 0) [] (w5.setCell ⟨w.heap.size + 1 + 1 + 1, 1, none⟩ (.slice A n c))) := H5.out.setG 1 _ (by simp) OW5.out H5.out.up
  generalize w5.setCell ⟨w.heap.size + 1 + 1 + 1, 1, none⟩ (.slice A n c) = w6 at *
  clear H5 g0 g1 g2 f0 f1 f2 OW5
  go_wp2_with fail
  go_loopg [7] n (fun gg i wr => ∃ (k : Nat) (u : Value) (ups : List Int) (t kk : Int), gg = n - k ∧ k ≤ n ∧ k ≤ 200 ∧ i = .int .i64 k ∧ Hid (ups.length = k) ∧ Hid (TsW w s t kk nm (.slice A n c) ts u ups wr) ∧ Hid (TsInv above s l0 nm ts n ups (if 0 < above then n - k else 0) t kk))
  case atStart => exact ⟨0, _, [], t, kk, rfl, by omega, by omega, rfl, rfl, H6, HI⟩
  case round =>
    clear H6 HI
    obtain ⟨k, u, ups, t, kk, hgk, hk, hk2, rfl, hdk, H, hI⟩ := hrel
    have Hgk := Lib.hid hgk
    clear hgk
    obtain ⟨a0, a1, a2, _, _, _⟩ := H.out.A.three
    obtain ⟨g0, g1, g2, f0, f1, f2⟩ := H.out.G.three
    by_cases h0 : 0 < above
    · have d0 : decide ((0 : Int) < above) = true := by simp; omega
      by_cases hlt : k < n
      · by_cases hkk : kk = 0
        · subst hkk
          obtain ⟨x1, x2, x3, x4, x5, _, tn, rfl, htn, hE⟩ := hI.out.good rfl
          rw [if_pos h0] at hE
          have HStep := Lib.hid (fun t kk x hS => TsInv.step (t := t) (kk := kk) (x := x) x1 x2 x3 x4 x5 h0 a1' hlt hE hS)
          have wa : IntKind.i64.wrap (above - 1) = above - 1 := IntWalk.i64_in _ (by omega)
          have hn200 : n ≤ 200 := x4
          clear x1 x2 x3 x4 x5 hE hI g0
          go_wp2_with fail
          refine (rnum_any s tn (above - 1) hs htn (by omega) (by omega) _).mono ?_; rintro e w7 hP
          obtain ⟨t', k', x, rfl, hb7, hS⟩ := hP.res (0 : Nat) rfl (by intro k h; have := pnum_err h; omega)
          have HInv := Lib.hid (HStep.out _ _ _ hS.out)
          have H7 := Lib.hid (H.out.more hb7)
          have q8 := Blk.new w7 161 (scs s t' k')
          have H8 := Lib.hid (H7.out.more ((Bel.refl _).alloc (.cells (scs s t' k') 161)))
          have hz7 := H7.out.G.lt
          clear hP hb7 hS HStep a0 a1 a2 g1 g2 f0 f1 f2 H wa H7
          go_wp2_with (first | ((with_reducible show wpList _ _ _ (⟨_, .store _ (.tmp 8) _, _, _, _, _⟩ :: _) _ _); refine wpList_store_new rfl rowScn (.tmp 8) (.tmp 43) rfl rfl rfl (scs s t' k') rfl rfl (scs_one _ _ _) ?_) | ((with_reducible show wpList _ _ _ (⟨some 45, _, _, _, _, _⟩ :: _) _ _); refine wpList_load_blk rfl rowScn (.tmp 8) rfl w7.heap.size rfl q8 rfl ?_) | ((with_reducible show wpList _ _ _ (⟨_, .store _ (.tmp 2) _, _, _, _, _⟩ :: _) _ _); refine wpList_store_blk rfl rowScn (.tmp 2) (.tmp 45) rfl w.heap.size rfl H8.out.A rfl (scs s t' k') rfl rfl (scs_one _ _ _) ?_; intro w9 bA9 hg9; have H9 := Lib.hid (H8.out.setA hg9 bA9); obtain ⟨g0, g1, g2, _, _, _⟩ := H9.out.G.three; have hz9 := H9.out.G.lt; clear bA9 hg9 q8 H8) | ((with_reducible show wpList _ _ _ (⟨some 50, _, _, _, _, _⟩ :: _) _ _); refine wpList_append0 rfl (.tmp 47) (.tmp 49) _ rfl E_num (w.heap.size + 1 + 1 + 1 + 1) (by simp; omega) u ups.length _ rfl (H9.out.more ((Bel.refl _).alloc _)).up _ 1 1 [.int .i64 (x : Nat)] rfl (rd_new _ _ _ 1 1 rfl) (by simp [Value.oneCell']) (by have := hdk.out; unfold maxLen; omega) (by have := hdk.out; omega) ?_; intro u10 w10 hown10 hg10 hat10; obtain ⟨H10', bG10⟩ := (H9.out.more ((Bel.refl _).alloc _)).app hown10 hg10; have H10 := Lib.hid H10'; obtain ⟨y0, y1, y2, z0, z1, z2⟩ := bG10.three; obtain ⟨A10, c10, rfl, _⟩ := own_slice hown10; clear H10' bG10 g0 g1 g2 hg10 hat10 hown10))
          go_roundg (n - (k + 1))
          case rel => exact ⟨k + 1, _, ups ++ [(x : Int)], t', k', rfl, by omega, by omega, by go_num, by show _ = _; have := hdk.out; simp [this], H10, HInv⟩
          case measure => rw [Hgk.out]; omega
        · have hkk' := Lib.hid hkk
          obtain ⟨A2, c2, rfl, _⟩ := own_slice H.out.up
          obtain ⟨T, hT⟩ : ∃ T : Tir, T = ⟨nm, ⟨A, n, c, ts⟩, ⟨A2, ups.length, c2, ups⟩⟩ := ⟨_, rfl⟩
          have hTc : T.con = ⟨nm, ts, ups⟩ := by subst hT; rfl
          have hTs : T.cs = #[.string ⟨nm.toArray⟩, .slice A n c, .slice A2 ups.length c2] := by subst hT; rfl
          have HOW : Hid (kk = 0 → TirOwn w.heap.size T wr) := by intro h0; obtain ⟨x1, x2, x3, x4, x5, x6, _⟩ := (hI.out.good h0); subst hT; exact ⟨by have := H.out.ts; rw [HNN.out] at this; exact own_less this (by omega), own_less H.out.up (by omega), x1, x2, x3, x4, by show ups.length ≤ 200; have := hdk.out; omega⟩
          have bG := H.out.G
          rw [← hTs] at bG
          have HTC := Lib.hid hTc
          clear hT hTs
          by_cases hk0 : kk = 0
          · exact absurd hk0 hkk
          · have hb := hI.out.bad hk0
            have hk2 : (kk == 0) = false := by simpa using hk0
            have HSR : Hid (SRes s (ptier above l0) t kk T.con) := .inl ⟨hk0, hb⟩
            have H9 := H
            have bG9 := bG
            have HK0 := Lib.hid hk0
            clear hk0 hb hI hTc HOW bG H
            go_upto_region 12 with fail
            clear a0 a1 a2 hk2
            have hR := H9.out.R.lt
            refine wp_region_pair (by kernel_rfl) ⟨by kernel_rfl, by kernel_rfl, by kernel_rfl, by kernel_rfl, by kernel_rfl, by kernel_rfl, by kernel_rfl, by kernel_rfl⟩ rowScn rowTir (.tmp 2) (.tmp 6) (.tmp 4) (.tmp 5) (.tmp 59) (.tmp 60) rfl rfl rfl rfl rfl rfl rfl rfl rfl rfl w.heap.size (w.heap.size + 1 + 1 + 1) (w.heap.size + 1) (w.heap.size + 1 + 1) H9.out.A bG9 H9.out.R H9.out.Z rfl rfl rfl rfl (scs_one _ _ _) (tir_one T) (by omega) (by omega) (by omega) (by omega) (by omega) rfl rfl rfl rfl rfl rfl (by exact fun _ _ _ h => h) (by exact fun _ _ _ h => h) ?_
            intro w10 r10 z10 hbut
            go_wp2_with fail
            refine bodyPost_ret (results_blk2 rfl rowScn rowTir rfl rfl r10 z10 rfl rfl) rfl ?_
            exact ⟨t, kk, T, rfl, hbut.bel H9.out.bel (by omega) (by omega), HSR, fun h => absurd h HK0.out⟩
      · have dl : decide ((k : Int) < n) = false := by simp; omega
        have dl2 : decide (k < n) = false := by simp; omega
        have hdone : ¬ 0 < above ∨ (if 0 < above then n - k else 0) = 0 := .inr (by rw [if_pos h0]; omega)
        obtain ⟨A2, c2, rfl, _⟩ := own_slice H.out.up
        obtain ⟨T, hT⟩ : ∃ T : Tir, T = ⟨nm, ⟨A, n, c, ts⟩, ⟨A2, ups.length, c2, ups⟩⟩ := ⟨_, rfl⟩
        have hTc : T.con = ⟨nm, ts, ups⟩ := by subst hT; rfl
        have hTs : T.cs = #[.string ⟨nm.toArray⟩, .slice A n c, .slice A2 ups.length c2] := by subst hT; rfl
        have HOW : Hid (kk = 0 → TirOwn w.heap.size T wr) := by intro h0; obtain ⟨x1, x2, x3, x4, x5, x6, _⟩ := (hI.out.good h0); subst hT; exact ⟨by have := H.out.ts; rw [HNN.out] at this; exact own_less this (by omega), own_less H.out.up (by omega), x1, x2, x3, x4, by show ups.length ≤ 200; have := hdk.out; omega⟩
        have bG := H.out.G
        rw [← hTs] at bG
        have HTC := Lib.hid hTc
        clear hT hTs
        by_cases hk0 : kk = 0
        · subst hk0
          obtain ⟨_, _, _, _, _, _, tn, rfl, htn, hE⟩ := hI.out.good rfl
          have hEq : ptier above l0 = ptierC above T.con (s.drop tn) := by rw [hE, hTc]; exact ptail_done hdone
          have HE := Lib.hid hEq
          have HO := Lib.hid (HOW.out rfl)
          clear hE hEq hI HOW hTc
          go_wp2_with ((with_reducible show wpList _ _ _ (⟨some 55, _, _, _, _, _⟩ :: _) _ _); refine wpList_load_blk rfl rowTir (.tmp 6) rfl (w.heap.size + 1 + 1 + 1) rfl bG rfl ?_)
          refine (trwrong_any T above _ HO.out.rd ha).mono ?_; rintro e w6 ⟨rfl, hb6⟩
          have H6 := Lib.hid (H.out.more hb6)
          have O6 := Lib.hid (HO.out.bel hb6)
          have bG6 := Lib.hid (bG.bel hb6)
          have hEr := tierErr_range T.con above
          obtain ⟨e0, e1, e2, f0, f1, f2⟩ := H6.out.A.three
          clear hb6 H HO bG a0 a1 a2
          generalize hEE : tierErr T.con above = E at *
          have HEE := Lib.hid hEE
          clear hEE
          go_upto_region 12 with fail
          have H9 : Hid (TsW w s tn E nm (.slice A n c) ts (.slice A2 ups.length c2) ups (w6.setCell ⟨w.heap.size, 2, none⟩ (.int .i64 E))) := H6.out.setA (grownBy_setCell _ _ _ _) (by have := H6.out.A.set_ 2 (.int .i64 E); simpa using this)
          have bG9 := bG6.out.grown (grownBy_setCell w6 w.heap.size 2 (.int .i64 E)) (by intro e; injection e with e; omega)
          have O9 : Hid (E = 0 → TirOwn w.heap.size T (w6.setCell ⟨w.heap.size, 2, none⟩ (.int .i64 E))) := fun _ => O6.out.setA H6.out.A
          have HSR : Hid (SRes s (ptier above l0) tn E T.con) := by
            show SRes _ _ _ _ _
            rw [HE.out]
            unfold ptierC
            rw [HEE.out]
            by_cases h0 : E = 0
            · rw [if_pos h0]; exact .inr ⟨h0, tn, rfl, htn, rfl⟩
            · rw [if_neg h0]; exact .inl ⟨h0, rfl⟩
          generalize w6.setCell ⟨w.heap.size, 2, none⟩ (.int .i64 E) = w9 at *
          clear H6 O6 bG6 e0 e1 e2 f0 f1 f2 HE HEE
          have hR := H9.out.R.lt
          refine wp_region_pair (by kernel_rfl) ⟨by kernel_rfl, by kernel_rfl, by kernel_rfl, by kernel_rfl, by kernel_rfl, by kernel_rfl, by kernel_rfl, by kernel_rfl⟩ rowScn rowTir (.tmp 2) (.tmp 6) (.tmp 4) (.tmp 5) (.tmp 59) (.tmp 60) rfl rfl rfl rfl rfl rfl rfl rfl rfl rfl w.heap.size (w.heap.size + 1 + 1 + 1) (w.heap.size + 1) (w.heap.size + 1 + 1) H9.out.A bG9 H9.out.R H9.out.Z rfl rfl rfl rfl (scs_one _ _ _) (tir_one T) (by omega) (by omega) (by omega) (by omega) (by omega) rfl rfl rfl rfl rfl rfl (by exact fun _ _ _ h => h) (by exact fun _ _ _ h => h) ?_
          intro w10 r10 z10 hbut
          go_wp2_with fail
          refine bodyPost_ret (results_blk2 rfl rowScn rowTir rfl rfl r10 z10 rfl rfl) rfl ?_
          exact ⟨tn, E, T, rfl, hbut.bel H9.out.bel (by omega) (by omega), HSR, fun h => (O9.out h).butD hbut H9.out.R H9.out.Z⟩
        · have hb := hI.out.bad hk0
          have hk2 : (kk == 0) = false := by simpa using hk0
          have HSR : Hid (SRes s (ptier above l0) t kk T.con) := .inl ⟨hk0, hb⟩
          have H9 := H
          have bG9 := bG
          have HK0 := Lib.hid hk0
          clear hk0 hb hI hTc HOW bG H
          go_upto_region 12 with fail
          clear a0 a1 a2 hk2
          have hR := H9.out.R.lt
          refine wp_region_pair (by kernel_rfl) ⟨by kernel_rfl, by kernel_rfl, by kernel_rfl, by kernel_rfl, by kernel_rfl, by kernel_rfl, by kernel_rfl, by kernel_rfl⟩ rowScn rowTir (.tmp 2) (.tmp 6) (.tmp 4) (.tmp 5) (.tmp 59) (.tmp 60) rfl rfl rfl rfl rfl rfl rfl rfl rfl rfl w.heap.size (w.heap.size + 1 + 1 + 1) (w.heap.size + 1) (w.heap.size + 1 + 1) H9.out.A bG9 H9.out.R H9.out.Z rfl rfl rfl rfl (scs_one _ _ _) (tir_one T) (by omega) (by omega) (by omega) (by omega) (by omega) rfl rfl rfl rfl rfl rfl (by exact fun _ _ _ h => h) (by exact fun _ _ _ h => h) ?_
          intro w10 r10 z10 hbut
          go_wp2_with fail
          refine bodyPost_ret (results_blk2 rfl rowScn rowTir rfl rfl r10 z10 rfl rfl) rfl ?_
          exact ⟨t, kk, T, rfl, hbut.bel H9.out.bel (by omega) (by omega), HSR, fun h => absurd h HK0.out⟩
    · have d0 : decide ((0 : Int) < above) = false := by simp; omega
      have hdone : ¬ 0 < above ∨ (if 0 < above then n - k else 0) = 0 := .inl h0
      obtain ⟨A2, c2, rfl, _⟩ := own_slice H.out.up
      obtain ⟨T, hT⟩ : ∃ T : Tir, T = ⟨nm, ⟨A, n, c, ts⟩, ⟨A2, ups.length, c2, ups⟩⟩ := ⟨_, rfl⟩
      have hTc : T.con = ⟨nm, ts, ups⟩ := by subst hT; rfl
      have hTs : T.cs = #[.string ⟨nm.toArray⟩, .slice A n c, .slice A2 ups.length c2] := by subst hT; rfl
      have HOW : Hid (kk = 0 → TirOwn w.heap.size T wr) := by intro h0; obtain ⟨x1, x2, x3, x4, x5, x6, _⟩ := (hI.out.good h0); subst hT; exact ⟨by have := H.out.ts; rw [HNN.out] at this; exact own_less this (by omega), own_less H.out.up (by omega), x1, x2, x3, x4, by show ups.length ≤ 200; have := hdk.out; omega⟩
      have bG := H.out.G
      rw [← hTs] at bG
      have HTC := Lib.hid hTc
      clear hT hTs
      by_cases hk0 : kk = 0
      · subst hk0
        obtain ⟨_, _, _, _, _, _, tn, rfl, htn, hE⟩ := hI.out.good rfl
        have hEq : ptier above l0 = ptierC above T.con (s.drop tn) := by rw [hE, hTc]; exact ptail_done hdone
        have HE := Lib.hid hEq
        have HO := Lib.hid (HOW.out rfl)
        clear hE hEq hI HOW hTc
        go_wp2_with ((with_reducible show wpList _ _ _ (⟨some 55, _, _, _, _, _⟩ :: _) _ _); refine wpList_load_blk rfl rowTir (.tmp 6) rfl (w.heap.size + 1 + 1 + 1) rfl bG rfl ?_)
        refine (trwrong_any T above _ HO.out.rd ha).mono ?_; rintro e w6 ⟨rfl, hb6⟩
        have H6 := Lib.hid (H.out.more hb6)
        have O6 := Lib.hid (HO.out.bel hb6)
        have bG6 := Lib.hid (bG.bel hb6)
        have hEr := tierErr_range T.con above
        obtain ⟨e0, e1, e2, f0, f1, f2⟩ := H6.out.A.three
        clear hb6 H HO bG a0 a1 a2
        generalize hEE : tierErr T.con above = E at *
        have HEE := Lib.hid hEE
        clear hEE
        go_upto_region 12 with fail
        have H9 : Hid (TsW w s tn E nm (.slice A n c) ts (.slice A2 ups.length c2) ups (w6.setCell ⟨w.heap.size, 2, none⟩ (.int .i64 E))) := H6.out.setA (grownBy_setCell _ _ _ _) (by have := H6.out.A.set_ 2 (.int .i64 E); simpa using this)
        have bG9 := bG6.out.grown (grownBy_setCell w6 w.heap.size 2 (.int .i64 E)) (by intro e; injection e with e; omega)
        have O9 : Hid (E = 0 → TirOwn w.heap.size T (w6.setCell ⟨w.heap.size, 2, none⟩ (.int .i64 E))) := fun _ => O6.out.setA H6.out.A
        have HSR : Hid (SRes s (ptier above l0) tn E T.con) := by
          show SRes _ _ _ _ _
          rw [HE.out]
          unfold ptierC
          rw [HEE.out]
          by_cases h0 : E = 0
          · rw [if_pos h0]; exact .inr ⟨h0, tn, rfl, htn, rfl⟩
          · rw [if_neg h0]; exact .inl ⟨h0, rfl⟩
        generalize w6.setCell ⟨w.heap.size, 2, none⟩ (.int .i64 E) = w9 at *
        clear H6 O6 bG6 e0 e1 e2 f0 f1 f2 HE HEE
        have hR := H9.out.R.lt
        refine wp_region_pair (by kernel_rfl) ⟨by kernel_rfl, by kernel_rfl, by kernel_rfl, by kernel_rfl, by kernel_rfl, by kernel_rfl, by kernel_rfl, by kernel_rfl⟩ rowScn rowTir (.tmp 2) (.tmp 6) (.tmp 4) (.tmp 5) (.tmp 59) (.tmp 60) rfl rfl rfl rfl rfl rfl rfl rfl rfl rfl w.heap.size (w.heap.size + 1 + 1 + 1) (w.heap.size + 1) (w.heap.size + 1 + 1) H9.out.A bG9 H9.out.R H9.out.Z rfl rfl rfl rfl (scs_one _ _ _) (tir_one T) (by omega) (by omega) (by omega) (by omega) (by omega) rfl rfl rfl rfl rfl rfl (by exact fun _ _ _ h => h) (by exact fun _ _ _ h => h) ?_
        intro w10 r10 z10 hbut
        go_wp2_with fail
        refine bodyPost_ret (results_blk2 rfl rowScn rowTir rfl rfl r10 z10 rfl rfl) rfl ?_
        exact ⟨tn, E, T, rfl, hbut.bel H9.out.bel (by omega) (by omega), HSR, fun h => (O9.out h).butD hbut H9.out.R H9.out.Z⟩
      · have hb := hI.out.bad hk0
        have hk2 : (kk == 0) = false := by simpa using hk0
        have HSR : Hid (SRes s (ptier above l0) t kk T.con) := .inl ⟨hk0, hb⟩
        have H9 := H
        have bG9 := bG
        have HK0 := Lib.hid hk0
        clear hk0 hb hI hTc HOW bG H
        go_upto_region 12 with fail
        clear a0 a1 a2 hk2
        have hR := H9.out.R.lt
        refine wp_region_pair (by kernel_rfl) ⟨by kernel_rfl, by kernel_rfl, by kernel_rfl, by kernel_rfl, by kernel_rfl, by kernel_rfl, by kernel_rfl, by kernel_rfl⟩ rowScn rowTir (.tmp 2) (.tmp 6) (.tmp 4) (.tmp 5) (.tmp 59) (.tmp 60) rfl rfl rfl rfl rfl rfl rfl rfl rfl rfl w.heap.size (w.heap.size + 1 + 1 + 1) (w.heap.size + 1) (w.heap.size + 1 + 1) H9.out.A bG9 H9.out.R H9.out.Z rfl rfl rfl rfl (scs_one _ _ _) (tir_one T) (by omega) (by omega) (by omega) (by omega) (by omega) rfl rfl rfl rfl rfl rfl (by exact fun _ _ _ h => h) (by exact fun _ _ _ h => h) ?_
        intro w10 r10 z10 hbut
        go_wp2_with fail
        refine bodyPost_ret (results_blk2 rfl rowScn rowTir rfl rfl r10 z10 rfl rfl) rfl ?_
        exact ⟨t, kk, T, rfl, hbut.bel H9.out.bel (by omega) (by omega), HSR, fun h => absurd h HK0.out⟩

end Go.Proofs.Ytnekknemjhlgdaa
