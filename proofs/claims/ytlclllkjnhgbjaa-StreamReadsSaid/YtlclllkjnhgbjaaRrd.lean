/- The document's cube of bytes. -/
import Derived.Test.YtlclllkjnhgbjaaSrd
import Derived.Test.YtlclllkjnhgbjaaBck
import Derived.Test.YtlclllkjnhgbjaaWrt
import Derived.Test.YtlclllkjnhgbjaaBw
import Derived.Test.YtlclllkjnhgbjaaAreX
import Derived.Test.YtlclllkjnhgbjaaAreU
import Derived.Test.YtlclllkjnhgbjaaAreM
namespace Go.Proofs.Ytlclllkjnhgbjaa
open Go.RowKit
set_option linter.unusedVariables false
set_option linter.unusedSimpArgs false


theorem moveC_congr {nd : Nat} {f g : Int → Int} {n : NC} (h : n.dim ≠ (nd : Int) - 1 → ∀ c ∈ eachN n, f c.ch = g c.ch) : moveC nd f n = moveC nd g n := by
  unfold moveC
  by_cases hd : n.dim = (nd : Int) - 1
  · rw [if_pos hd, if_pos hd]
  rw [if_neg hd, if_neg hd]
  have hc := h hd
  have ha := hc n.all (List.mem_append_right _ (List.mem_singleton.2 rfl))
  have hm : ∀ c ∈ eachN n, mvCl f c = mvCl g c := fun c hc' => by unfold mvCl; rw [hc c hc']
  have hl : n.ls.map (List.map (mvCl f)) = n.ls.map (List.map (mvCl g)) := List.map_congr_left fun l hl => List.map_congr_left fun c hc' => hm c (List.mem_append_left _ (List.mem_flatten.2 ⟨l, hl, hc'⟩))
  rw [hl, hm n.all (List.mem_append_right _ (List.mem_singleton.2 rfl))]
theorem bck_idx {st : List Int} {c : Int} (h : c ∈ st) : bck st c = idxS st c := by
  unfold bck idxS
  cases hi : idxF c st 0 with
  | none => exact absurd h (idxF_none.1 hi)
  | some i => rfl
theorem wtop_get {st : List Int} {k : Nat} (h : st.length = k) (hk : 0 < k) : ∃ t, st[k - 1]? = some t ∧ wtop st = t := by
  have h1 : k - 1 < st.length := by omega
  refine ⟨_, List.getElem?_eq_getElem h1, ?_⟩
  unfold wtop
  rw [List.getLast?_eq_getElem?, h, List.getElem?_eq_getElem h1]
  rfl
set_option maxRecDepth 100000 in
set_option maxHeartbeats 900000 in
theorem rread_any32 (sh : Shp) (s : List UInt8) (top : Int) (w : World) (hs : sh.rd w) (hsl : s.length ≤ 100000) (hok : shapeOk sh.con sh.ms = true) (ht : I64 top) :
    Calls Try.prog 33 #[.agg sh.cs, .string ⟨s.toArray⟩, .int .i64 top] w fun e w' => ∃ l2 : Row Nd, e = .returned (.tuple #[.slice l2.A l2.n l2.c, .bool (preadT sh.con sh.ms s top).isSome]) ∧ Bel w w' ∧ ∀ L, preadT sh.con sh.ms s top = some L → l2.l.map Nd.con = L ∧ l2.rd w' := by
  have HSR := Lib.hid (fun w' (hb : Bel w w') => hs.mono hb)
  have hxl : sh.con.length = sh.sz.n := by show (sh.sz.l.map Row.l).length = _; rw [List.length_map]; exact hs.sz.len
  have HXL := Lib.hid hxl
  have HOKS := Lib.hid hok
  have n63 := hs.sz.n63
  have hn1 := (shape_ms hok).1
  rw [hxl] at hn1
  unfold I64 at ht
  have H := Lib.hid ((((SL.start No w).alloc sh.cs 24).addNil 34 14).add (Bel.refl _) (rListD rNd []) (holds_listD_nil _ _) listD_nil_D)
  (try simp only [List.set_cons_zero, List.set_cons_succ, List.cons_append, List.nil_append, List.eraseIdx_cons_zero, List.eraseIdx_cons_succ, List.setIfInBounds_toArray, World.size_alloc, selR, List.getD_cons_zero, List.getD_cons_succ] at H)
  replace H := Lib.hid (H.out.addNil 3 1); (try simp only [List.set_cons_zero, List.set_cons_succ, List.cons_append, List.nil_append, List.eraseIdx_cons_zero, List.eraseIdx_cons_succ, List.setIfInBounds_toArray, World.size_alloc, selR, List.getD_cons_zero, List.getD_cons_succ] at H)
  have HNO : Hid (preadT sh.con sh.ms s top = none → ∀ w', Bel w w' → ∃ l2 : Row Nd, Ending.returned (.tuple #[.slice none 0 0, .bool false]) = .returned (.tuple #[.slice l2.A l2.n l2.c, .bool (preadT sh.con sh.ms s top).isSome]) ∧ Bel w w' ∧ ∀ L, preadT sh.con sh.ms s top = some L → l2.l.map Nd.con = L ∧ l2.rd w') := fun h w' hb => ⟨⟨none, 0, 0, []⟩, by rw [h]; rfl, hb, fun L hL => by rw [h] at hL; cases hL⟩
  have hcs : sh.cs = #[.slice sh.sz.A sh.sz.n sh.sz.c, .int .i64 sh.ms] := rfl
  have HCS := Lib.hid hcs
  clear hcs hs hxl hok
  go_enter Try.func33, Try.ntmps33
  go_upto_region 1 with fail
  (try rw [← HCS.out] at *)
  generalize w.heap.size = x at *
  generalize World.alloc w _ = w1 at *
  have HR0 : Hid (pread sh.con sh.ms s = rstep sh.con sh.ms ((0 : Nat) : Int) (s.drop 0) [] (([] : List Nd).map Nd.con)) := rfl
  go_upto_region 4 with fail
  go_loopg [8, 9, 10, 12, 13] s.length (fun gg s8 s9 s10 s12 s13 wr => ∃ (p k : Nat) (st : List Int) (L : List Nd) (A : Option Addr) (c : Nat) (B : Option Addr) (d : Nat), gg = s.length - p ∧ p ≤ s.length ∧ k ≤ p ∧ s8 = .slice B k d ∧ s9 = .slice A k c ∧ s10 = .int .i64 p ∧ Hid (st.length = k ∧ StOk st p) ∧ Hid (L.length = k) ∧ Hid (pread sh.con sh.ms s = rstep sh.con sh.ms (p : Int) (s.drop p) st (L.map Nd.con)) ∧ Hid (SL No w wr [rBlk x 24 sh.cs, rRow 34 14 (.slice B k d) k (L.flatMap Cel.cells), rListD rNd L, rRow 3 1 (.slice A k c) k (st.map (Value.int .i64))]))
  case atStart => exact ⟨0, 0, [], [], none, 0, none, 0, rfl, by omega, by omega, rfl, rfl, rfl, ⟨rfl, StOk.nil⟩, rfl, HR0, H⟩
  case round =>
    clear H HR0
    obtain ⟨p, k, st, L, A, c, B, d, hgp, hp, hkp, rfl, rfl, rfl, HST, HLL, HR, H⟩ := hrel
    have Hgp := Lib.hid hgp
    clear hgp
    by_cases hlt : p < s.length
    · have hne : s.drop p ≠ [] := fun e => by have := congrArg List.length e; rw [List.length_drop, List.length_nil] at this; omega
      have hex : (⟨s.toArray⟩ : ByteArray).extract p s.length = ⟨(s.drop p).toArray⟩ := by rw [str_extract, List.take_of_length_le (by rw [List.length_drop]; exact Nat.le_refl _)]
      have HTK := Lib.hid (fun w' (hb : Bel w w') => rceltake_any sh (s.drop p) w' (HSR.out w' hb) (by rw [List.length_drop]; omega) HOKS.out)
      obtain ⟨O, hO⟩ : ∃ O, O = nodeTake sh.con sh.ms (s.drop p) := ⟨_, rfl⟩
      rw [← hO] at HTK
      have HOO := Lib.hid hO
      have d1 : decide ((p : Int) < (s.length : Int)) = true := by simp <;> omega
      have d1n : decide (p < s.length) = true := by simp <;> omega
      have p0 : (0 : Int) ≤ p := by omega
      have p1 : (p : Int) ≤ s.length := by omega
      clear hO
      go_upto_region 5 with fail
      clear d1 d1n
      refine' via_key3 (P := fun (u : Nat) (U : Nd) (wq : World) => U.con = ((O.map Prod.fst).getD .nil) ∧ SL No w wq [rBlk x 24 sh.cs, rRow 34 14 (.slice B k d) k (L.flatMap Cel.cells), rListD rNd L, rRow 3 1 (.slice A k c) k (st.map (Value.int .i64)), rBlk u 34 U.cs, rNd U]) (fun key => ?mn) ?tl
      case mn =>
        refine wp_region_held_drew (S := fun W => Blk W x 24 sh.cs) (by kernel_rfl) (H.out.blk 0 rfl) (fun hHeld => ?_)
        replace H := Lib.hid (H.out.drew); (try simp only [List.set_cons_zero, List.set_cons_succ, List.cons_append, List.nil_append, List.eraseIdx_cons_zero, List.eraseIdx_cons_succ, List.setIfInBounds_toArray, World.size_alloc, selR, List.getD_cons_zero, List.getD_cons_succ] at H)
        generalize World.drew _ = w8 at *
        refine wpAnyH_take (i := 0) (v := .agg sh.cs) (get_o0) (by kernel_rfl) (by kernel_rfl) (by kernel_rfl) (by exact fun _ _ _ h => h) (yields_blkS rowShp2 (by rfl) (.tmp 3) rfl _ rfl (fun w h => h) rfl) (by assumption) ?_
        try simp only [Act.put, List.setIfInBounds_toArray, List.set_cons_zero, List.set_cons_succ]
        refine wpAnyH_take (i := 1) (v := ?vq22_1) (get_os (get_o0)) (by kernel_rfl) (by kernel_rfl) (by kernel_rfl) (by exact fun _ _ _ h => h) (Or.inl ⟨by rfl, ?hyq22_1⟩) (by assumption) ?_
        case hyq22_1 => (intro w hSw; (try dsimp only at hSw); go_simp) <;> with_reducible rfl
        try simp only [Act.put, List.setIfInBounds_toArray, List.set_cons_zero, List.set_cons_succ]
        refine wpAnyH_take (i := 2) (v := ?vq22_2) (get_os (get_os (get_o0))) (by kernel_rfl) (by kernel_rfl) (by kernel_rfl) (by exact fun _ _ _ h => h) (Or.inl ⟨by rfl, ?hyq22_2⟩) (by assumption) ?_
        case hyq22_2 => (intro w hSw; (try dsimp only at hSw); go_simp) <;> with_reducible rfl
        try simp only [Act.put, List.setIfInBounds_toArray, List.set_cons_zero, List.set_cons_succ]
        refine wpAnyH_take (i := 3) (v := ?vq22_3) (get_os (get_os (get_os (get_o0)))) (by kernel_rfl) (by kernel_rfl) (by kernel_rfl) (by exact fun _ _ _ h => h) (Or.inl ⟨by rfl, ?hyq22_3⟩) (by assumption) ?_
        case hyq22_3 => (intro w hSw; (try dsimp only at hSw); go_simp) <;> with_reducible rfl
        try simp only [Act.put, List.setIfInBounds_toArray, List.set_cons_zero, List.set_cons_succ]
        refine wpAnyH_ready (rs := [4, 9]) (by kernel_rfl) (by simp) ?_
        refine (AllReadyH.cons (get_os (get_os (get_os (get_os (get_o0))))) (fun KK hKK => ?_) (AllReadyH.cons (get_os (get_os (get_os (get_os (get_os (get_os (get_os (get_os (get_os (get_o0)))))))))) (fun KK hKK => ?_) AllReadyH.nil))
        · go_simp
          refine (HTK.out _ H.out.to).mono ?_; rintro e' w6 ⟨U, rfl, hUc, hb6, hnew⟩
          replace H := Lib.hid (H.out.add hb6 (rNd U) hnew.1 hnew.2); (try simp only [List.set_cons_zero, List.set_cons_succ, List.cons_append, List.nil_append, List.eraseIdx_cons_zero, List.eraseIdx_cons_succ, List.setIfInBounds_toArray, World.size_alloc, selR, List.getD_cons_zero, List.getD_cons_succ] at H)
          have HUc := Lib.hid hUc
          clear hUc hb6 hnew
          refine hKK.out _ _ (H.out.blk 0 rfl) (fun hHeld => ?_)
          clear hKK KK
          try simp only [Act.put, List.setIfInBounds_toArray, List.set_cons_zero, List.set_cons_succ]
          refine wpAnyH_take (i := 5) (v := ?vq23_) (get_os (get_os (get_os (get_os (get_os (get_o0)))))) (by kernel_rfl) (by kernel_rfl) (by kernel_rfl) (by exact fun _ _ _ h => h) (Or.inl ⟨by rfl, ?hyq23_⟩) (by assumption) ?_
          case hyq23_ => (intro w hSw; (try dsimp only at hSw); go_simp) <;> with_reducible rfl
          try simp only [Act.put, List.setIfInBounds_toArray, List.set_cons_zero, List.set_cons_succ]
          refine wpAnyH_take (i := 6) (v := ?vq24_) (get_os (get_os (get_os (get_os (get_os (get_os (get_o0))))))) (by kernel_rfl) (by kernel_rfl) (by kernel_rfl) (by exact fun _ _ _ h => h) (Or.inl ⟨by rfl, ?hyq24_⟩) (by assumption) ?_
          case hyq24_ => (intro w hSw; (try dsimp only at hSw); go_simp) <;> with_reducible rfl
          try simp only [Act.put, List.setIfInBounds_toArray, List.set_cons_zero, List.set_cons_succ]
          refine wpAnyH_take (i := 7) (v := ?vq25_) (get_os (get_os (get_os (get_os (get_os (get_os (get_os (get_o0)))))))) (by kernel_rfl) (by kernel_rfl) (by kernel_rfl) (by exact fun _ _ _ h => h) (Or.inl ⟨by rfl, ?hyq25_⟩) (by assumption) ?_
          case hyq25_ => (intro w hSw; (try dsimp only at hSw); go_simp) <;> with_reducible rfl
          try simp only [Act.put, List.setIfInBounds_toArray, List.set_cons_zero, List.set_cons_succ]
          refine wpAnyH_take (i := 8) (v := ?vq26_) (get_os (get_os (get_os (get_os (get_os (get_os (get_os (get_os (get_o0))))))))) (by kernel_rfl) (by kernel_rfl) (by kernel_rfl) (by exact fun _ _ _ h => h) (Or.inl ⟨by rfl, ?hyq26_⟩) (by assumption) ?_
          case hyq26_ => (intro w hSw; (try dsimp only at hSw); go_simp) <;> with_reducible rfl
          try simp only [Act.put, List.setIfInBounds_toArray, List.set_cons_zero, List.set_cons_succ]
          refine wpAnyH_ready (rs := [9]) (by kernel_rfl) (by simp) ?_
          refine (AllReadyH.cons (get_os (get_os (get_os (get_os (get_os (get_os (get_os (get_os (get_os (get_o0)))))))))) (fun KK hKK => ?_) AllReadyH.nil)
          go_simp
          replace H := Lib.hid (H.out.alloc #[.int .i64 0, .slice none 0 0, .int .i64 0, .int .i64 0, .int .i64 0, .int .i64 0, .int .i64 0, .int .i64 0, .int .i64 0, .int .i64 0, .int .i64 0, .int .i64 0, .int .i64 0, .int .i64 0] 34); (try simp only [List.set_cons_zero, List.set_cons_succ, List.cons_append, List.nil_append, List.eraseIdx_cons_zero, List.eraseIdx_cons_succ, List.setIfInBounds_toArray, World.size_alloc, selR, List.getD_cons_zero, List.getD_cons_succ] at H)
          generalize w6.heap.size = u at *
          generalize World.alloc w6 _ = w7 at *
          refine hKK.out _ _ (H.out.blk 0 rfl) (fun hHeld => ?_)
          clear hKK KK
          try simp only [Act.put, List.setIfInBounds_toArray, List.set_cons_zero, List.set_cons_succ]
          refine wpAnyH_ready (rs := [10]) (by kernel_rfl) (by simp) ?_
          refine (AllReadyH.cons (get_ot (get_o0)) (fun KK hKK => ?_) AllReadyH.nil)
          refine step_store_blkA rfl rowNd (.tmp 11) (.tmp 28) rfl _ rfl (H.out.blk 5 rfl) rfl (U.cs) rfl rfl (nd_one U) ?_
          intro wq bq hgq
          replace H := Lib.hid (H.out.setBlk 5 rfl hgq bq); (try simp only [List.set_cons_zero, List.set_cons_succ, List.cons_append, List.nil_append, List.eraseIdx_cons_zero, List.eraseIdx_cons_succ, List.setIfInBounds_toArray, World.size_alloc, selR, List.getD_cons_zero, List.getD_cons_succ] at H)
          clear hgq bq
          refine hKK.out _ _ (H.out.blk 0 rfl) (fun hHeld => ?_)
          clear hKK KK
          try simp only [Act.put, List.setIfInBounds_toArray, List.set_cons_zero, List.set_cons_succ]
          refine wpAnyH_take (i := 11) (v := ?vq27_) (get_ot (get_os (get_o0))) (by kernel_rfl) (by kernel_rfl) (by kernel_rfl) (by exact fun _ _ _ h => h) (Or.inl ⟨by rfl, ?hyq27_⟩) (by assumption) ?_
          case hyq27_ => (intro w hSw; (try dsimp only at hSw); go_simp) <;> with_reducible rfl
          try simp only [Act.put, List.setIfInBounds_toArray, List.set_cons_zero, List.set_cons_succ]
          refine wpAnyH_take (i := 12) (v := ?vq28_) (get_ot (get_os (get_os (get_o0)))) (by kernel_rfl) (by kernel_rfl) (by kernel_rfl) (by exact fun _ _ _ h => h) (Or.inl ⟨by rfl, ?hyq28_⟩) (by assumption) ?_
          case hyq28_ => (intro w hSw; (try dsimp only at hSw); go_simp) <;> with_reducible rfl
          try simp only [Act.put, List.setIfInBounds_toArray, List.set_cons_zero, List.set_cons_succ]
          refine wpAnyH_done (by kernel_rfl) ?_ _
          clear hHeld
          replace H := Lib.hid (H.out.sel [0, 1, 2, 3, 5, 4] (by decide) (by simp)); (try simp only [List.set_cons_zero, List.set_cons_succ, List.cons_append, List.nil_append, List.eraseIdx_cons_zero, List.eraseIdx_cons_succ, List.setIfInBounds_toArray, World.size_alloc, selR, List.getD_cons_zero, List.getD_cons_succ] at H)
          exact key u U _ ⟨HUc.out, H.out⟩
        · go_simp
          replace H := Lib.hid (H.out.alloc #[.int .i64 0, .slice none 0 0, .int .i64 0, .int .i64 0, .int .i64 0, .int .i64 0, .int .i64 0, .int .i64 0, .int .i64 0, .int .i64 0, .int .i64 0, .int .i64 0, .int .i64 0, .int .i64 0] 34); (try simp only [List.set_cons_zero, List.set_cons_succ, List.cons_append, List.nil_append, List.eraseIdx_cons_zero, List.eraseIdx_cons_succ, List.setIfInBounds_toArray, World.size_alloc, selR, List.getD_cons_zero, List.getD_cons_succ] at H)
          generalize w8.heap.size = u at *
          generalize World.alloc w8 _ = w7 at *
          refine hKK.out _ _ (H.out.blk 0 rfl) (fun hHeld => ?_)
          clear hKK KK
          try simp only [Act.put, List.setIfInBounds_toArray, List.set_cons_zero, List.set_cons_succ]
          refine wpAnyH_ready (rs := [4]) (by kernel_rfl) (by simp) ?_
          refine (AllReadyH.cons (get_os (get_os (get_os (get_os (get_o0))))) (fun KK hKK => ?_) AllReadyH.nil)
          go_simp
          refine (HTK.out _ H.out.to).mono ?_; rintro e' w6 ⟨U, rfl, hUc, hb6, hnew⟩
          replace H := Lib.hid (H.out.add hb6 (rNd U) hnew.1 hnew.2); (try simp only [List.set_cons_zero, List.set_cons_succ, List.cons_append, List.nil_append, List.eraseIdx_cons_zero, List.eraseIdx_cons_succ, List.setIfInBounds_toArray, World.size_alloc, selR, List.getD_cons_zero, List.getD_cons_succ] at H)
          have HUc := Lib.hid hUc
          clear hUc hb6 hnew
          refine hKK.out _ _ (H.out.blk 0 rfl) (fun hHeld => ?_)
          clear hKK KK
          try simp only [Act.put, List.setIfInBounds_toArray, List.set_cons_zero, List.set_cons_succ]
          refine wpAnyH_take (i := 5) (v := ?vq29_) (get_os (get_os (get_os (get_os (get_os (get_o0)))))) (by kernel_rfl) (by kernel_rfl) (by kernel_rfl) (by exact fun _ _ _ h => h) (Or.inl ⟨by rfl, ?hyq29_⟩) (by assumption) ?_
          case hyq29_ => (intro w hSw; (try dsimp only at hSw); go_simp) <;> with_reducible rfl
          try simp only [Act.put, List.setIfInBounds_toArray, List.set_cons_zero, List.set_cons_succ]
          refine wpAnyH_take (i := 6) (v := ?vq30_) (get_os (get_os (get_os (get_os (get_os (get_os (get_o0))))))) (by kernel_rfl) (by kernel_rfl) (by kernel_rfl) (by exact fun _ _ _ h => h) (Or.inl ⟨by rfl, ?hyq30_⟩) (by assumption) ?_
          case hyq30_ => (intro w hSw; (try dsimp only at hSw); go_simp) <;> with_reducible rfl
          try simp only [Act.put, List.setIfInBounds_toArray, List.set_cons_zero, List.set_cons_succ]
          refine wpAnyH_take (i := 7) (v := ?vq31_) (get_os (get_os (get_os (get_os (get_os (get_os (get_os (get_o0)))))))) (by kernel_rfl) (by kernel_rfl) (by kernel_rfl) (by exact fun _ _ _ h => h) (Or.inl ⟨by rfl, ?hyq31_⟩) (by assumption) ?_
          case hyq31_ => (intro w hSw; (try dsimp only at hSw); go_simp) <;> with_reducible rfl
          try simp only [Act.put, List.setIfInBounds_toArray, List.set_cons_zero, List.set_cons_succ]
          refine wpAnyH_take (i := 8) (v := ?vq32_) (get_os (get_os (get_os (get_os (get_os (get_os (get_os (get_os (get_o0))))))))) (by kernel_rfl) (by kernel_rfl) (by kernel_rfl) (by exact fun _ _ _ h => h) (Or.inl ⟨by rfl, ?hyq32_⟩) (by assumption) ?_
          case hyq32_ => (intro w hSw; (try dsimp only at hSw); go_simp) <;> with_reducible rfl
          try simp only [Act.put, List.setIfInBounds_toArray, List.set_cons_zero, List.set_cons_succ]
          refine wpAnyH_ready (rs := [10]) (by kernel_rfl) (by simp) ?_
          refine (AllReadyH.cons (get_ot (get_o0)) (fun KK hKK => ?_) AllReadyH.nil)
          refine step_store_blkA rfl rowNd (.tmp 11) (.tmp 28) rfl _ rfl (H.out.blk 4 rfl) rfl (U.cs) rfl rfl (nd_one U) ?_
          intro wq bq hgq
          replace H := Lib.hid (H.out.setBlk 4 rfl hgq bq); (try simp only [List.set_cons_zero, List.set_cons_succ, List.cons_append, List.nil_append, List.eraseIdx_cons_zero, List.eraseIdx_cons_succ, List.setIfInBounds_toArray, World.size_alloc, selR, List.getD_cons_zero, List.getD_cons_succ] at H)
          clear hgq bq
          refine hKK.out _ _ (H.out.blk 0 rfl) (fun hHeld => ?_)
          clear hKK KK
          try simp only [Act.put, List.setIfInBounds_toArray, List.set_cons_zero, List.set_cons_succ]
          refine wpAnyH_take (i := 11) (v := ?vq33_) (get_ot (get_os (get_o0))) (by kernel_rfl) (by kernel_rfl) (by kernel_rfl) (by exact fun _ _ _ h => h) (Or.inl ⟨by rfl, ?hyq33_⟩) (by assumption) ?_
          case hyq33_ => (intro w hSw; (try dsimp only at hSw); go_simp) <;> with_reducible rfl
          try simp only [Act.put, List.setIfInBounds_toArray, List.set_cons_zero, List.set_cons_succ]
          refine wpAnyH_take (i := 12) (v := ?vq34_) (get_ot (get_os (get_os (get_o0)))) (by kernel_rfl) (by kernel_rfl) (by kernel_rfl) (by exact fun _ _ _ h => h) (Or.inl ⟨by rfl, ?hyq34_⟩) (by assumption) ?_
          case hyq34_ => (intro w hSw; (try dsimp only at hSw); go_simp) <;> with_reducible rfl
          try simp only [Act.put, List.setIfInBounds_toArray, List.set_cons_zero, List.set_cons_succ]
          refine wpAnyH_done (by kernel_rfl) ?_ _
          clear hHeld
          replace H := Lib.hid (H.out.sel [0, 1, 2, 3, 4, 5] (by decide) (by simp)); (try simp only [List.set_cons_zero, List.set_cons_succ, List.cons_append, List.nil_append, List.eraseIdx_cons_zero, List.eraseIdx_cons_succ, List.setIfInBounds_toArray, World.size_alloc, selR, List.getD_cons_zero, List.getD_cons_succ] at H)
          exact key u U _ ⟨HUc.out, H.out⟩
      case tl =>
      rintro u U wq ⟨hUc, hH⟩
      replace H := Lib.hid hH
      clear hH
      (try simp only at H hUc)
      cases hO : O with
      | none =>
        rw [hO] at hUc
        have hpn : preadT sh.con sh.ms s top = none := by unfold preadT; rw [HR.out, rst_none hne (by rw [← HOO.out]; exact hO)]
        clear hUc hO
        go_wp2_with fail
        go_ret2
        exact HNO.out hpn _ H.out.to
      | some q =>
      obtain ⟨n, zl⟩ := q
      rw [hO] at hUc
      have hT : nodeTake sh.con sh.ms (s.drop p) = some (n, zl) := by rw [← HOO.out]; exact hO
      obtain ⟨i1, i2, i3, hrest⟩ := nodeTake_inv hT
      clear hrest
      rw [List.length_drop] at i2
      have HUc : Hid (U.con = n) := hUc
      have hdim := (nodeErr_cells i3).1
      rw [HXL.out] at hdim
      have HT := Lib.hid hT
      have HI3 := Lib.hid i3
      rw [show Option.isSome (some (n, zl)) = true from rfl, show szN ((some (n, zl)).map Prod.snd) = (zl : Nat) from rfl]
      have hun := (H.out.get 5 rfl : (rNd U).holds wq).now.2.2
      have HUB : Hid (U.ls.n ≤ 1000000 ∧ ∀ y ∈ U.ls.l, y.n ≤ 1000000) := ⟨hun.2, fun y hy => (hun.1 y hy).1⟩
      have HUT : Hid ((U.ls.l.map Row.l).flatten.length ≤ 999999) := by have h := flat_node (by rw [hUc]; exact i3 : nodeErr sh.con sh.ms U.con = 0) HOKS.out; exact Nat.le_trans h (by omega)
      have hud : U.dim = n.dim := congrArg NC.dim hUc
      clear hun hUc hO hT i3
      have cd : wq.cell? ⟨u, 0, none⟩ = some (.int .i64 n.dim) := by rw [← hud]; exact (H.out.blk 4 rfl).cell 0
      have cz : wq.cell? ⟨x, 0, none⟩ = some (.slice sh.sz.A sh.sz.n sh.sz.c) := (H.out.blk 0 rfl).cell 0
      by_cases hlast : n.dim = (sh.sz.n : Int) - 1
      · have d1 : decide (n.dim < (sh.sz.n : Int) - 1) = false := by simp <;> omega
        go_wp2_with (first | ((with_reducible show wpList _ _ _ (⟨some 53, _, _, _, _, _⟩ :: _) _ _); (refine wpList_load_blk rfl rowShp2 (.tmp 3) rfl _ rfl (H.out.blk 0 rfl) rfl ?_)) | ((with_reducible show wpList _ _ _ (⟨some 54, _, _, _, _, _⟩ :: _) _ _); (refine wpList_load_blk rfl rowNd (.tmp 11) rfl _ rfl (H.out.blk 4 rfl) rfl ?_)))
        clear cd cz d1
        refine (rback_last sh U ⟨A, k, c, st⟩ _ (by omega) (by rw [hud]; exact hlast)).mono ?_; rintro e w8 ⟨rfl, hb8⟩
        replace H := Lib.hid (H.out.bel hb8); (try simp only [List.set_cons_zero, List.set_cons_succ, List.cons_append, List.nil_append, List.eraseIdx_cons_zero, List.eraseIdx_cons_succ, List.setIfInBounds_toArray, World.size_alloc, selR, List.getD_cons_zero, List.getD_cons_succ] at H)
        replace H := Lib.hid (H.out.sel [0, 1, 2, 3, 5] (by decide) (by simp)); (try simp only [List.set_cons_zero, List.set_cons_succ, List.cons_append, List.nil_append, List.eraseIdx_cons_zero, List.eraseIdx_cons_succ, List.setIfInBounds_toArray, World.size_alloc, selR, List.getD_cons_zero, List.getD_cons_succ] at H)
        have HVC : Hid (U.con = moveC sh.con.length (idxS st) n) := by show _ = _; rw [HUc.out, moveC_last (by rw [HXL.out]; exact hlast)]
        have HVT := HUT
        clear hb8 hud hlast hdim HUT HUB
        go_upto_region 16 with ((with_reducible show wpList _ _ _ (⟨_, .store _ (.tmp 16) _, _, _, _, _⟩ :: _) _ _); (refine wpList_store_new rfl rowNd (.tmp 16) (.tmp 56) rfl rfl rfl (U.cs) rfl rfl (nd_one U) ?_; replace H := Lib.hid (H.out.alloc (U.cs) 34); (try simp only [List.set_cons_zero, List.set_cons_succ, List.cons_append, List.nil_append, List.eraseIdx_cons_zero, List.eraseIdx_cons_succ, List.setIfInBounds_toArray, World.size_alloc, selR, List.getD_cons_zero, List.getD_cons_succ] at H)))
        (try simp only [Act.put, List.setIfInBounds_toArray, List.set_cons_zero, List.set_cons_succ])
        generalize w8.heap.size = v at *
        generalize World.alloc w8 _ = w9 at *
        have HAD := Lib.hid (radd24_any sh 131072 ⟨B, k, d, L⟩ U w9 (HSR.out _ H.out.to) (by unfold I64; omega) (nds_of (l := ⟨B, k, d, L⟩) (H.out.get 1 rfl) (H.out.get 2 rfl) (by show k ≤ _; omega)) (nd_of_own (H.out.get 4 rfl)) HVT.out)
        go_wp2_with (first | ((with_reducible show wpList _ _ _ (⟨some 57, _, _, _, _, _⟩ :: _) _ _); (refine wpList_load_blk rfl rowShp2 (.tmp 3) rfl _ rfl (H.out.blk 0 rfl) rfl ?_)) | ((with_reducible show wpList _ _ _ (⟨some 59, _, _, _, _, _⟩ :: _) _ _); (refine wpList_load_blk rfl rowNd (.tmp 16) rfl _ rfl (H.out.blk 5 rfl) rfl ?_)))
        refine HAD.out.mono ?_; rintro e w10 ⟨rfl, hb10⟩
        replace H := Lib.hid (H.out.bel hb10); (try simp only [List.set_cons_zero, List.set_cons_succ, List.cons_append, List.nil_append, List.eraseIdx_cons_zero, List.eraseIdx_cons_succ, List.setIfInBounds_toArray, World.size_alloc, selR, List.getD_cons_zero, List.getD_cons_succ] at H)
        clear hb10 HAD
        rw [HVC.out]
        obtain ⟨E, hEE⟩ : ∃ E, E = addErr sh.con sh.ms 131072 (L.map Nd.con) (moveC sh.con.length (idxS st) n) := ⟨_, rfl⟩
        rw [← hEE]
        have HE0 := Lib.hid hEE
        clear hEE
        by_cases hE0 : E = 0
        · have HR2 : Hid (pread sh.con sh.ms s = rstep sh.con sh.ms ((p + zl : Nat) : Int) (s.drop (p + zl)) (st ++ [(p : Int)]) ((L ++ [U]).map Nd.con)) := by
            show _ = _
            rw [HR.out, rst_step hne HT.out (by rw [← HE0.out]; exact hE0), List.map_append, List.map_cons, List.map_nil, HVC.out, List.drop_drop, Int.natCast_add]
          have HST2 : Hid ((st ++ [(p : Int)]).length = k + 1 ∧ StOk (st ++ [(p : Int)]) (p + zl)) := ⟨by rw [List.length_append, HST.out.1]; rfl, HST.out.2.snoc (by omega)⟩
          have dE : (E != 0) = false := by simpa using hE0
          clear HE0 hE0
          go_wp2_with (first | ((with_reducible show wpList _ _ _ (⟨some 63, _, _, _, _, _⟩ :: _) _ _); (refine wpList_load_blk rfl rowNd (.tmp 16) rfl _ rfl (H.out.blk 5 rfl) rfl ?_)) | ((with_reducible show wpList _ _ _ (⟨some 64, _, _, _, _, _⟩ :: _) _ _); (refine wpList_buildSlice1 rfl E_nd (.tmp 63) rfl (U.cs) rfl rfl (by omega) ?_; replace H := Lib.hid (H.out.addRow ((Bel.refl _).alloc _) (own_made _ 34 (U.cs) _ rfl)); (try simp only [List.set_cons_zero, List.set_cons_succ, List.cons_append, List.nil_append, List.eraseIdx_cons_zero, List.eraseIdx_cons_succ, List.setIfInBounds_toArray, World.size_alloc, selR, List.getD_cons_zero, List.getD_cons_succ] at H))) | ((with_reducible show wpList _ _ _ (⟨some 65, _, _, _, _, _⟩ :: _) _ _); (refine wpList_append0 rfl (.tmp 62) (.tmp 64) _ rfl E_nd 0 (Nat.zero_le _) _ k _ rfl (H.out.row 1 rfl) _ 1 1 _ rfl (Rd.of_own (H.out.row 6 rfl)) (nd1_one U) (by unfold maxLen; omega) (by omega) ?_; intro vq wq howq hgq hatq; replace H := Lib.hid (H.out.setRow 1 rfl hgq howq hatq); (try simp only [List.set_cons_zero, List.set_cons_succ, List.cons_append, List.nil_append, List.eraseIdx_cons_zero, List.eraseIdx_cons_succ, List.setIfInBounds_toArray, World.size_alloc, selR, List.getD_cons_zero, List.getD_cons_succ] at H); clear howq hgq hatq; obtain ⟨B2, d2, rfl, _⟩ := own_slice (H.out.row 1 rfl))) | ((with_reducible show wpList _ _ _ (⟨some 69, _, _, _, _, _⟩ :: _) _ _); (replace H := Lib.hid (H.out.alloc #[.int .i64 p] 3); (try simp only [List.set_cons_zero, List.set_cons_succ, List.cons_append, List.nil_append, List.eraseIdx_cons_zero, List.eraseIdx_cons_succ, List.setIfInBounds_toArray, World.size_alloc, selR, List.getD_cons_zero, List.getD_cons_succ] at H); refine wpList_append0 rfl (.tmp 66) (.tmp 68) _ rfl E_num 0 (Nat.zero_le _) _ k _ rfl (H.out.row 3 rfl) _ 1 1 [.int .i64 p] rfl (reads_of_block (H.out.blk 7 rfl) rfl) (by simp [Value.oneCell']) (by unfold maxLen; omega) (by omega) ?_; intro vq wq howq hgq hatq; replace H := Lib.hid (H.out.setRow 3 rfl hgq howq hatq); (try simp only [List.set_cons_zero, List.set_cons_succ, List.cons_append, List.nil_append, List.eraseIdx_cons_zero, List.eraseIdx_cons_succ, List.setIfInBounds_toArray, World.size_alloc, selR, List.getD_cons_zero, List.getD_cons_succ] at H); clear howq hgq hatq; obtain ⟨A2, c2, rfl, _⟩ := own_slice (H.out.row 3 rfl))))
          replace H := Lib.hid (H.out.snocD 2 4 (r := rNd) (a := U) (by omega) rfl rfl); (try simp only [List.set_cons_zero, List.set_cons_succ, List.cons_append, List.nil_append, List.eraseIdx_cons_zero, List.eraseIdx_cons_succ, List.setIfInBounds_toArray, World.size_alloc, selR, List.getD_cons_zero, List.getD_cons_succ] at H)
          replace H := Lib.hid (H.out.sel [0, 1, 2, 3] (by decide) (by simp)); (try simp only [List.set_cons_zero, List.set_cons_succ, List.cons_append, List.nil_append, List.eraseIdx_cons_zero, List.eraseIdx_cons_succ, List.setIfInBounds_toArray, World.size_alloc, selR, List.getD_cons_zero, List.getD_cons_succ] at H)
          have HV2 : Hid (st.map (Value.int .i64) ++ [Value.int .i64 (p : Int)] = (st ++ [(p : Int)]).map (Value.int .i64)) := by show _ = _; simp
          have HF2 : Hid (L.flatMap Cel.cells ++ U.cs.toList = (L ++ [U]).flatMap Cel.cells) := by show _ = _; rw [List.flatMap_append, List.flatMap_cons, List.flatMap_nil, List.append_nil]; rfl
          rw [HV2.out, HF2.out] at H
          go_roundg (s.length - (p + zl))
          case rel => exact ⟨p + zl, k + 1, st ++ [(p : Int)], L ++ [U], A2, c2, B2, d2, rfl, by omega, by omega, rfl, rfl, by go_num, HST2, by show _ = _; rw [List.length_append, HLL.out]; rfl, HR2, H⟩
          case measure => rw [Hgp.out]; omega
        · have hpn : preadT sh.con sh.ms s top = none := by unfold preadT; rw [HR.out, rst_bad hne HT.out (by rw [← HE0.out]; exact hE0)]
          have dE : (E != 0) = true := by simpa using hE0
          clear hE0 HE0
          go_wp2_with fail
          go_ret2
          exact HNO.out hpn _ H.out.to
      · have d1 : decide (n.dim < (sh.sz.n : Int) - 1) = true := by simp <;> omega
        have HND : Hid (n.dim ≠ (sh.sz.n : Int) - 1) := hlast
        have HUD := Lib.hid hud
        have HEA := Lib.hid (reach_any U wq (nd_of_own (H.out.get 5 rfl)) HUT.out)
        rw [HUc.out] at HEA
        have HOK := Lib.hid (nd_cells (nd_of_own (H.out.get 5 rfl)))
        rw [HUc.out] at HOK
        have hM : (eachN n).length ≤ 1000000 := by have h := HUT.out; rw [show U.ls.l.map Row.l = n.ls from congrArg NC.ls HUc.out] at h; unfold eachN; rw [List.length_append]; exact Nat.succ_le_succ h
        go_wp2_with ((with_reducible show wpList _ _ _ (⟨some 40, _, _, _, _, _⟩ :: _) _ _); (refine wpList_load_blk rfl rowNd (.tmp 11) rfl _ rfl (H.out.blk 4 rfl) rfl ?_))
        clear cd cz d1 hud hlast hdim
        refine HEA.out.mono ?_; rintro e w7 ⟨EA, ec, rfl, hb7, ho7⟩
        replace H := Lib.hid (H.out.addRow hb7 ho7); (try simp only [List.set_cons_zero, List.set_cons_succ, List.cons_append, List.nil_append, List.eraseIdx_cons_zero, List.eraseIdx_cons_succ, List.setIfInBounds_toArray, World.size_alloc, selR, List.getD_cons_zero, List.getD_cons_succ] at H)
        clear hb7 ho7 HEA
        obtain ⟨M, hMM⟩ : ∃ M, M = (eachN n).length := ⟨_, rfl⟩
        rw [← hMM] at H hM ⊢
        have HMM := Lib.hid hMM
        clear hMM
        have HCR : Hid (∀ w', SL No w w' [rBlk x 24 sh.cs, rRow 34 14 (.slice B k d) k (L.flatMap Cel.cells), rListD rNd L, rRow 3 1 (.slice A k c) k (st.map (Value.int .i64)), rBlk u 34 U.cs, rNd U, rRow 32 12 (.slice EA M ec) M ((eachN n).flatMap Cel.cells)] → (Row.mk EA M ec (eachN n) : Row Cl).rd w') := fun w' h => Row.ok.rds (own_ok (x := ⟨EA, M, ec, eachN n⟩) (h.row 6 rfl) HOK.out (by show M * 96 ≤ _; omega))
        have HSTR : Hid (∀ W, W.ownsRow 0 3 1 (.slice A k c) k (st.map (Value.int .i64)) → (Row.mk A k c st : Row Int).rd W) := fun W ho => ⟨by show Rd _ _ _ _ (st.flatMap _); rw [flat_ints]; exact Rd.of_own ho, stOk_i64 HST.out.2 (by omega), by show k ≤ _; omega⟩
        go_upto_region 10 with fail
        go_loopg [43] M (fun gg s43 wr => ∃ (j : Nat), gg = M - j ∧ j ≤ M ∧ s43 = .int .i64 j ∧ Hid (∀ (i : Nat) (q : Cl), i < j → (eachN n)[i]? = some q → q.ch ∈ st) ∧ Hid (SL No w wr [rBlk x 24 sh.cs, rRow 34 14 (.slice B k d) k (L.flatMap Cel.cells), rListD rNd L, rRow 3 1 (.slice A k c) k (st.map (Value.int .i64)), rBlk u 34 U.cs, rNd U, rRow 32 12 (.slice EA M ec) M ((eachN n).flatMap Cel.cells)]))
        case atStart => exact ⟨0, rfl, by omega, rfl, fun i q hi => by omega, H⟩
        case round =>
          clear H
          obtain ⟨j, hgj, hj, rfl, HI, H⟩ := hrel
          have Hgj := Lib.hid hgj
          clear hgj
          by_cases hjlt : j < M
          · obtain ⟨bl, ol, q, hAl, hbl, hqk, hqok, hrg⟩ := (HCR.out _ H.out).clAt (k := j) (show j < M from hjlt)
            have hq64 := hqok.ch
            unfold I64 at hq64
            simp only at hAl hqk
            have HAL := Lib.hid hAl
            have HRG := Lib.hid hrg
            have HQK : Hid ((eachN n)[j]? = some q) := hqk
            have j0 : (0 : Int) ≤ j := by omega
            have j1 : (j : Int) < M := by omega
            rw [hAl]
            clear hAl hqk hrg hqok
            go_upto_region 12 with (first | ((with_reducible show wpList _ _ _ (⟨some 46, _, _, _, _, _⟩ :: _) _ _); (refine wpList_load_row_at rfl rowCl (.tmp 45) rfl bl (ol + j * 12) rfl q.cs rfl HRG.out ?_)) | ((with_reducible show wpList _ _ _ (⟨_, .store _ (.tmp 15) _, _, _, _, _⟩ :: _) _ _); (refine wpList_store_new rfl rowCl (.tmp 15) (.tmp 46) rfl rfl rfl (q.cs) rfl rfl (cl_one q) ?_; replace H := Lib.hid (H.out.alloc (q.cs) 32); (try simp only [List.set_cons_zero, List.set_cons_succ, List.cons_append, List.nil_append, List.eraseIdx_cons_zero, List.eraseIdx_cons_succ, List.setIfInBounds_toArray, World.size_alloc, selR, List.getD_cons_zero, List.getD_cons_succ] at H))))
            (try simp only [Act.put, List.setIfInBounds_toArray, List.set_cons_zero, List.set_cons_succ])
            clear HRG hbl
            generalize wr.heap.size = y at *
            generalize World.alloc wr _ = w8 at *
            have cq : w8.cell? ⟨y, 1, none⟩ = some (.int .i64 q.ch) := (H.out.blk 7 rfl).cell 1
            have HIN := Lib.hid (rin_any ⟨A, k, c, st⟩ q.ch w8 (HSTR.out _ (H.out.row 3 rfl)))
            go_wp2_with fail
            refine HIN.out.mono ?_; rintro e w9 ⟨rfl, hb9⟩
            replace H := Lib.hid (H.out.bel hb9); (try simp only [List.set_cons_zero, List.set_cons_succ, List.cons_append, List.nil_append, List.eraseIdx_cons_zero, List.eraseIdx_cons_succ, List.setIfInBounds_toArray, World.size_alloc, selR, List.getD_cons_zero, List.getD_cons_succ] at H)
            clear hb9 HIN cq
            cases hin : idxF q.ch st 0 with
            | none =>
              have hpn : preadT sh.con sh.ms s top = none := by
                unfold preadT
                rw [HR.out, rst_bad hne HT.out (fun h => by
                  have h2 := (addErr_zero2.1 h).2.1
                  have hd : n.dim ≠ (sh.con.length : Int) - 1 := by rw [HXL.out]; exact HND.out
                  unfold leadsN at h2
                  rw [moveC_dim, decide_eq_false hd, Bool.false_or, eachN_move hd, List.all_eq_true] at h2
                  have h4 := h2 _ (List.mem_map.2 ⟨q, List.mem_of_getElem? HQK.out, rfl⟩)
                  unfold aheadC at h4
                  have h5 : (mvCl (idxS st) q).ch = 131072 := idxS_not (idxF_none.1 hin)
                  rw [h5, List.getElem?_eq_none (by rw [List.length_map, HLL.out]; show k ≤ 131072; omega)] at h4
                  cases h4)]
              rw [show Option.isSome (none : Option Nat) = false from rfl]
              clear hin
              go_wp2_with fail
              go_ret2
              exact HNO.out hpn _ H.out.to
            | some i =>
              have HI2 : Hid (∀ (i : Nat) (q : Cl), i < j + 1 → (eachN n)[i]? = some q → q.ch ∈ st) := fun i' q' hi' hq' => by
                by_cases hij : i' = j
                · subst hij
                  have h2 := HQK.out
                  rw [hq'] at h2
                  injection h2 with h2
                  rw [h2]
                  exact Classical.byContradiction fun hn => by rw [idxF_none.2 hn] at hin; cases hin
                · exact HI.out i' q' (by omega) hq'
              rw [show Option.isSome (some i) = true from rfl]
              clear hin HI
              replace H := Lib.hid (H.out.sel [0, 1, 2, 3, 4, 5, 6] (by decide) (by simp)); (try simp only [List.set_cons_zero, List.set_cons_succ, List.cons_append, List.nil_append, List.eraseIdx_cons_zero, List.eraseIdx_cons_succ, List.setIfInBounds_toArray, World.size_alloc, selR, List.getD_cons_zero, List.getD_cons_succ] at H)
              go_wp2_with fail
              rw [← HAL.out]
              go_roundg (M - (j + 1))
              case rel => exact ⟨j + 1, rfl, by omega, by go_num, HI2, H⟩
              case measure => rw [Hgj.out]; omega
          · obtain rfl : j = M := by omega
            have HALL : Hid (∀ q ∈ eachN n, q.ch ∈ st) := fun q hq => by
              obtain ⟨i, hi, hiq⟩ := List.getElem_of_mem hq
              exact HI.out i q (by rw [HMM.out]; exact hi) (by rw [List.getElem?_eq_getElem hi, hiq])
            have HZ : Hid ((∀ q ∈ eachN U.con, q.ag = .zero) ∧ U.all.key = 0) := by
              obtain ⟨_, sz, _, _, _, _, g5, _⟩ := nodeErr_inv HI3.out
              refine ⟨fun q hq => ?_, ?_⟩
              · rw [HUc.out] at hq
                have h := (nodeErr_cells HI3.out).2 q hq
                unfold cellOk at h
                rw [if_neg (by rw [HXL.out]; exact HND.out)] at h
                simp only [Bool.and_eq_true, decide_eq_true_eq] at h
                exact h.2
              · have h : U.con.all.key = n.all.key := by rw [HUc.out]
                rw [show U.all.key = U.con.all.key from rfl, h]
                exact g5
            go_wp2_with (first | ((with_reducible show wpList _ _ _ (⟨some 53, _, _, _, _, _⟩ :: _) _ _); (refine wpList_load_blk rfl rowShp2 (.tmp 3) rfl _ rfl (H.out.blk 0 rfl) rfl ?_)) | ((with_reducible show wpList _ _ _ (⟨some 54, _, _, _, _, _⟩ :: _) _ _); (refine wpList_load_blk rfl rowNd (.tmp 11) rfl _ rfl (H.out.blk 4 rfl) rfl ?_)))
            refine (rback_inner sh U ⟨A, k, c, st⟩ _ (HSR.out _ H.out.to) (nd_of_own (H.out.get 5 rfl)) (HSTR.out _ (H.out.row 3 rfl)) (by show k ≤ _; omega) HUB.out.1 HUB.out.2 (by rw [HUD.out]; exact HND.out) HZ.out.1 HZ.out.2).mono ?_; rintro e w8 ⟨V, rfl, hVc, _, _, hb8, hnew⟩
            replace H := Lib.hid (H.out.add hb8 (rNd V) hnew.1 hnew.2); (try simp only [List.set_cons_zero, List.set_cons_succ, List.cons_append, List.nil_append, List.eraseIdx_cons_zero, List.eraseIdx_cons_succ, List.setIfInBounds_toArray, World.size_alloc, selR, List.getD_cons_zero, List.getD_cons_succ] at H)
            replace H := Lib.hid (H.out.sel [0, 1, 2, 3, 7] (by decide) (by simp)); (try simp only [List.set_cons_zero, List.set_cons_succ, List.cons_append, List.nil_append, List.eraseIdx_cons_zero, List.eraseIdx_cons_succ, List.setIfInBounds_toArray, World.size_alloc, selR, List.getD_cons_zero, List.getD_cons_succ] at H)
            rw [HUc.out] at hVc
            have HVC : Hid (V.con = moveC sh.con.length (idxS st) n) := by
              show _ = _
              rw [hVc, HXL.out]
              exact moveC_congr fun _ q hq => bck_idx (HALL.out q hq)
            have HVT : Hid ((V.ls.l.map Row.l).flatten.length ≤ 999999) := by
              have hE : nodeErr sh.con sh.ms V.con = 0 := by
                rw [HVC.out, nodeErr_mv (fun hd c hc => ⟨cellOk_ch ((nodeErr_cells HI3.out).2 c hc), idxS_nonneg _ _⟩)]
                exact HI3.out
              exact Nat.le_trans (flat_node hE HOKS.out) (by omega)
            clear hVc hb8 hnew HZ HUT HUB HI HCR HSTR
            go_upto_region 16 with ((with_reducible show wpList _ _ _ (⟨_, .store _ (.tmp 16) _, _, _, _, _⟩ :: _) _ _); (refine wpList_store_new rfl rowNd (.tmp 16) (.tmp 56) rfl rfl rfl (V.cs) rfl rfl (nd_one V) ?_; replace H := Lib.hid (H.out.alloc (V.cs) 34); (try simp only [List.set_cons_zero, List.set_cons_succ, List.cons_append, List.nil_append, List.eraseIdx_cons_zero, List.eraseIdx_cons_succ, List.setIfInBounds_toArray, World.size_alloc, selR, List.getD_cons_zero, List.getD_cons_succ] at H)))
            (try simp only [Act.put, List.setIfInBounds_toArray, List.set_cons_zero, List.set_cons_succ])
            generalize w8.heap.size = v at *
            generalize World.alloc w8 _ = w9 at *
            have HAD := Lib.hid (radd24_any sh 131072 ⟨B, k, d, L⟩ V w9 (HSR.out _ H.out.to) (by unfold I64; omega) (nds_of (l := ⟨B, k, d, L⟩) (H.out.get 1 rfl) (H.out.get 2 rfl) (by show k ≤ _; omega)) (nd_of_own (H.out.get 4 rfl)) HVT.out)
            go_wp2_with (first | ((with_reducible show wpList _ _ _ (⟨some 57, _, _, _, _, _⟩ :: _) _ _); (refine wpList_load_blk rfl rowShp2 (.tmp 3) rfl _ rfl (H.out.blk 0 rfl) rfl ?_)) | ((with_reducible show wpList _ _ _ (⟨some 59, _, _, _, _, _⟩ :: _) _ _); (refine wpList_load_blk rfl rowNd (.tmp 16) rfl _ rfl (H.out.blk 5 rfl) rfl ?_)))
            refine HAD.out.mono ?_; rintro e w10 ⟨rfl, hb10⟩
            replace H := Lib.hid (H.out.bel hb10); (try simp only [List.set_cons_zero, List.set_cons_succ, List.cons_append, List.nil_append, List.eraseIdx_cons_zero, List.eraseIdx_cons_succ, List.setIfInBounds_toArray, World.size_alloc, selR, List.getD_cons_zero, List.getD_cons_succ] at H)
            clear hb10 HAD
            rw [HVC.out]
            obtain ⟨E, hEE⟩ : ∃ E, E = addErr sh.con sh.ms 131072 (L.map Nd.con) (moveC sh.con.length (idxS st) n) := ⟨_, rfl⟩
            rw [← hEE]
            have HE0 := Lib.hid hEE
            clear hEE
            by_cases hE0 : E = 0
            · have HR2 : Hid (pread sh.con sh.ms s = rstep sh.con sh.ms ((p + zl : Nat) : Int) (s.drop (p + zl)) (st ++ [(p : Int)]) ((L ++ [V]).map Nd.con)) := by
                show _ = _
                rw [HR.out, rst_step hne HT.out (by rw [← HE0.out]; exact hE0), List.map_append, List.map_cons, List.map_nil, HVC.out, List.drop_drop, Int.natCast_add]
              have HST2 : Hid ((st ++ [(p : Int)]).length = k + 1 ∧ StOk (st ++ [(p : Int)]) (p + zl)) := ⟨by rw [List.length_append, HST.out.1]; rfl, HST.out.2.snoc (by omega)⟩
              have dE : (E != 0) = false := by simpa using hE0
              clear HE0 hE0
              go_wp2_with (first | ((with_reducible show wpList _ _ _ (⟨some 63, _, _, _, _, _⟩ :: _) _ _); (refine wpList_load_blk rfl rowNd (.tmp 16) rfl _ rfl (H.out.blk 5 rfl) rfl ?_)) | ((with_reducible show wpList _ _ _ (⟨some 64, _, _, _, _, _⟩ :: _) _ _); (refine wpList_buildSlice1 rfl E_nd (.tmp 63) rfl (V.cs) rfl rfl (by omega) ?_; replace H := Lib.hid (H.out.addRow ((Bel.refl _).alloc _) (own_made _ 34 (V.cs) _ rfl)); (try simp only [List.set_cons_zero, List.set_cons_succ, List.cons_append, List.nil_append, List.eraseIdx_cons_zero, List.eraseIdx_cons_succ, List.setIfInBounds_toArray, World.size_alloc, selR, List.getD_cons_zero, List.getD_cons_succ] at H))) | ((with_reducible show wpList _ _ _ (⟨some 65, _, _, _, _, _⟩ :: _) _ _); (refine wpList_append0 rfl (.tmp 62) (.tmp 64) _ rfl E_nd 0 (Nat.zero_le _) _ k _ rfl (H.out.row 1 rfl) _ 1 1 _ rfl (Rd.of_own (H.out.row 6 rfl)) (nd1_one V) (by unfold maxLen; omega) (by omega) ?_; intro vq wq howq hgq hatq; replace H := Lib.hid (H.out.setRow 1 rfl hgq howq hatq); (try simp only [List.set_cons_zero, List.set_cons_succ, List.cons_append, List.nil_append, List.eraseIdx_cons_zero, List.eraseIdx_cons_succ, List.setIfInBounds_toArray, World.size_alloc, selR, List.getD_cons_zero, List.getD_cons_succ] at H); clear howq hgq hatq; obtain ⟨B2, d2, rfl, _⟩ := own_slice (H.out.row 1 rfl))) | ((with_reducible show wpList _ _ _ (⟨some 69, _, _, _, _, _⟩ :: _) _ _); (replace H := Lib.hid (H.out.alloc #[.int .i64 p] 3); (try simp only [List.set_cons_zero, List.set_cons_succ, List.cons_append, List.nil_append, List.eraseIdx_cons_zero, List.eraseIdx_cons_succ, List.setIfInBounds_toArray, World.size_alloc, selR, List.getD_cons_zero, List.getD_cons_succ] at H); refine wpList_append0 rfl (.tmp 66) (.tmp 68) _ rfl E_num 0 (Nat.zero_le _) _ k _ rfl (H.out.row 3 rfl) _ 1 1 [.int .i64 p] rfl (reads_of_block (H.out.blk 7 rfl) rfl) (by simp [Value.oneCell']) (by unfold maxLen; omega) (by omega) ?_; intro vq wq howq hgq hatq; replace H := Lib.hid (H.out.setRow 3 rfl hgq howq hatq); (try simp only [List.set_cons_zero, List.set_cons_succ, List.cons_append, List.nil_append, List.eraseIdx_cons_zero, List.eraseIdx_cons_succ, List.setIfInBounds_toArray, World.size_alloc, selR, List.getD_cons_zero, List.getD_cons_succ] at H); clear howq hgq hatq; obtain ⟨A2, c2, rfl, _⟩ := own_slice (H.out.row 3 rfl))))
              replace H := Lib.hid (H.out.snocD 2 4 (r := rNd) (a := V) (by omega) rfl rfl); (try simp only [List.set_cons_zero, List.set_cons_succ, List.cons_append, List.nil_append, List.eraseIdx_cons_zero, List.eraseIdx_cons_succ, List.setIfInBounds_toArray, World.size_alloc, selR, List.getD_cons_zero, List.getD_cons_succ] at H)
              replace H := Lib.hid (H.out.sel [0, 1, 2, 3] (by decide) (by simp)); (try simp only [List.set_cons_zero, List.set_cons_succ, List.cons_append, List.nil_append, List.eraseIdx_cons_zero, List.eraseIdx_cons_succ, List.setIfInBounds_toArray, World.size_alloc, selR, List.getD_cons_zero, List.getD_cons_succ] at H)
              have HV2 : Hid (st.map (Value.int .i64) ++ [Value.int .i64 (p : Int)] = (st ++ [(p : Int)]).map (Value.int .i64)) := by show _ = _; simp
              have HF2 : Hid (L.flatMap Cel.cells ++ V.cs.toList = (L ++ [V]).flatMap Cel.cells) := by show _ = _; rw [List.flatMap_append, List.flatMap_cons, List.flatMap_nil, List.append_nil]; rfl
              rw [HV2.out, HF2.out] at H
              go_roundg (s.length - (p + zl))
              case rel => exact ⟨p + zl, k + 1, st ++ [(p : Int)], L ++ [V], A2, c2, B2, d2, rfl, by omega, by omega, rfl, rfl, by go_num, HST2, by show _ = _; rw [List.length_append, HLL.out]; rfl, HR2, H⟩
              case measure => rw [Hgp.out]; omega
            · have hpn : preadT sh.con sh.ms s top = none := by unfold preadT; rw [HR.out, rst_bad hne HT.out (by rw [← HE0.out]; exact hE0)]
              have dE : (E != 0) = true := by simpa using hE0
              clear hE0 HE0
              go_wp2_with fail
              go_ret2
              exact HNO.out hpn _ H.out.to
    · obtain rfl : p = s.length := by omega
      have HRE : Hid (pread sh.con sh.ms s = some (st, L.map Nd.con)) := by show _ = _; rw [HR.out, List.drop_length]; exact rst_nil
      have HTT : Hid (preadT sh.con sh.ms s top = if wtop st = top ∧ wholeC sh.con.length (L.map Nd.con) = true then some (L.map Nd.con) else none) := by show _ = _; unfold preadT; rw [HRE.out]
      have hgood : GoodN sh.con sh.ms (L.map Nd.con) := by
        obtain ⟨l2, e1, e2, e3, _⟩ := read_write HOKS.out s.length s [] [] [] st (L.map Nd.con) (by show rstepF _ _ _ 0 _ _ _ = _; exact HRE.out) rfl StOk.nil (goodN_nil _ _)
        exact e3
      have HRD : Hid (∀ W, SL No w W [rBlk x 24 sh.cs, rRow 34 14 (.slice B k d) k (L.flatMap Cel.cells), rListD rNd L, rRow 3 1 (.slice A k c) k (st.map (Value.int .i64))] → (Row.mk B k d L : Row Nd).rd W) := fun W h => nds_of (l := ⟨B, k, d, L⟩) (h.get 1 rfl) (h.get 2 rfl) (by show k ≤ _; omega)
      have HWH : Hid (∀ W, SL No w W [rBlk x 24 sh.cs, rRow 34 14 (.slice B k d) k (L.flatMap Cel.cells), rListD rNd L, rRow 3 1 (.slice A k c) k (st.map (Value.int .i64))] → Calls Try.prog 28 #[.agg sh.cs, .slice B k d] W fun e w' => e = .returned (.bool (wholeC sh.sz.n (L.map Nd.con))) ∧ Bel W w') := fun W h =>
        rwhole24_any sh ⟨B, k, d, L⟩ W (HSR.out _ h.to) (HRD.out W h) (fun n hn => by
          have h1 := (goodN_dim hgood n.con (List.mem_map.2 ⟨n, hn, rfl⟩)).2
          rw [HXL.out] at h1
          exact h1) (fun n hn => by
          obtain ⟨i, hi, hin⟩ := List.getElem_of_mem hn
          have h1 := (hgood i n.con (by rw [List.getElem?_map, List.getElem?_eq_getElem hi, hin]; rfl)).1
          exact Nat.le_trans (flat_node h1 HOKS.out) (by omega))
      have HFIN : Hid (∀ (b : Bool) W, SL No w W [rBlk x 24 sh.cs, rRow 34 14 (.slice B k d) k (L.flatMap Cel.cells), rListD rNd L, rRow 3 1 (.slice A k c) k (st.map (Value.int .i64))] → (preadT sh.con sh.ms s top).isSome = b → ∃ l2 : Row Nd, Ending.returned (.tuple #[.slice B k d, .bool b]) = .returned (.tuple #[.slice l2.A l2.n l2.c, .bool (preadT sh.con sh.ms s top).isSome]) ∧ Bel w W ∧ ∀ L, preadT sh.con sh.ms s top = some L → l2.l.map Nd.con = L ∧ l2.rd W) := fun b W h hb => ⟨⟨B, k, d, L⟩, by rw [hb], h.to, fun L' hL' => by
        rw [HTT.out] at hL'
        split at hL'
        · injection hL' with hL'
          exact ⟨hL', HRD.out W h⟩
        · cases hL'⟩
      have d0 : decide ((s.length : Int) < (s.length : Int)) = false := by simp
      clear hgood
      by_cases hk0 : k = 0
      · have hst0 : st = [] := List.length_eq_zero_iff.1 (by rw [HST.out.1]; exact hk0)
        have HTP : Hid (wtop st = 0) := by rw [hst0]; rfl
        have d2 : decide ((0 : Int) < (k : Int)) = false := by simp <;> omega
        have d2n : decide (0 < k) = false := by simp <;> omega
        clear hk0 hst0
        go_upto_region 24 with fail
        clear d2 d2n d0
        by_cases htop : wtop st = top
        · have d3 : ((0 : Int) == top) = true := by have h := HTP.out; rw [h] at htop; simpa using htop
          have HTOP := Lib.hid htop
          clear htop
          go_wp2_with ((with_reducible show wpList _ _ _ (⟨some 87, _, _, _, _, _⟩ :: _) _ _); refine wpList_load_blkG (by first | rfl | go_simp) rowShp2 (.tmp 3) (by rfl) _ (by rfl) (H.out.blk 0 rfl) rfl ?_)
          refine (HWH.out _ H.out).mono ?_; rintro e w7 ⟨rfl, hb7⟩
          replace H := Lib.hid (H.out.bel hb7); (try simp only [List.set_cons_zero, List.set_cons_succ, List.cons_append, List.nil_append, List.eraseIdx_cons_zero, List.eraseIdx_cons_succ, List.setIfInBounds_toArray, World.size_alloc, selR, List.getD_cons_zero, List.getD_cons_succ] at H)
          clear hb7 HWH d3
          have HBB : Hid ((preadT sh.con sh.ms s top).isSome = wholeC sh.sz.n (L.map Nd.con)) := by
            show _ = _
            rw [HTT.out, HXL.out]
            cases hwh : wholeC sh.sz.n (L.map Nd.con) with
            | false => rw [if_neg (by simp)]; rfl
            | true => rw [if_pos ⟨HTOP.out, rfl⟩]; rfl
          go_wp2_with fail
          go_ret2
          exact HFIN.out _ _ H.out HBB.out
        · have d3 : ((0 : Int) == top) = false := by have h := HTP.out; rw [h] at htop; simpa using htop
          have HBB : Hid ((preadT sh.con sh.ms s top).isSome = false) := by show _ = _; rw [HTT.out, if_neg (fun h => htop h.1)]; rfl
          clear htop
          go_wp2_with fail
          go_ret2
          exact HFIN.out _ _ H.out HBB.out
      · obtain ⟨t, ht1, ht2⟩ := wtop_get HST.out.1 (by omega)
        have HTP : Hid (wtop st = t) := ht2
        have d2 : decide ((0 : Int) < (k : Int)) = true := by simp <;> omega
        have d2n : decide (0 < k) = true := by simp <;> omega
        obtain ⟨ga, hga⟩ := own_block0 (H.out.row 3 rfl) (by omega)
        have ct := (own_cellN (e := 3) (size := 1) (by have h := H.out.row 3 rfl; rw [hga] at h; exact h) (j := k - 1) (v := .int .i64 t) (by rw [List.getElem?_map, ht1]; rfl)).1
        have hk1 : ((k : Int) - 1) = ((k - 1 : Nat) : Int) := by omega
        have wk1 : IntKind.i64.wrap ((k : Int) - 1) = ((k - 1 : Nat) : Int) := by rw [IntWalk.i64_in _ (by omega)]; omega
        have k0 : (0 : Int) ≤ ((k - 1 : Nat) : Int) := by omega
        have k1 : ((k - 1 : Nat) : Int) < k := by omega
        have HGA := Lib.hid hga
        rw [hga]
        clear hga ht1 ht2 hk0
        go_upto_region 24 with fail
        clear ct d2 d2n d0 hk1 wk1 k0 k1
        rw [← HGA.out]
        by_cases htop : wtop st = top
        · have d3 : (t == top) = true := by have h := HTP.out; rw [h] at htop; simpa using htop
          have HTOP := Lib.hid htop
          clear htop
          go_wp2_with ((with_reducible show wpList _ _ _ (⟨some 87, _, _, _, _, _⟩ :: _) _ _); refine wpList_load_blkG (by first | rfl | go_simp) rowShp2 (.tmp 3) (by rfl) _ (by rfl) (H.out.blk 0 rfl) rfl ?_)
          refine (HWH.out _ H.out).mono ?_; rintro e w7 ⟨rfl, hb7⟩
          replace H := Lib.hid (H.out.bel hb7); (try simp only [List.set_cons_zero, List.set_cons_succ, List.cons_append, List.nil_append, List.eraseIdx_cons_zero, List.eraseIdx_cons_succ, List.setIfInBounds_toArray, World.size_alloc, selR, List.getD_cons_zero, List.getD_cons_succ] at H)
          clear hb7 HWH d3
          have HBB : Hid ((preadT sh.con sh.ms s top).isSome = wholeC sh.sz.n (L.map Nd.con)) := by
            show _ = _
            rw [HTT.out, HXL.out]
            cases hwh : wholeC sh.sz.n (L.map Nd.con) with
            | false => rw [if_neg (by simp)]; rfl
            | true => rw [if_pos ⟨HTOP.out, rfl⟩]; rfl
          go_wp2_with fail
          go_ret2
          exact HFIN.out _ _ H.out HBB.out
        · have d3 : (t == top) = false := by have h := HTP.out; rw [h] at htop; simpa using htop
          have HBB : Hid ((preadT sh.con sh.ms s top).isSome = false) := by show _ = _; rw [HTT.out, if_neg (fun h => htop h.1)]; rfl
          clear htop
          go_wp2_with fail
          go_ret2
          exact HFIN.out _ _ H.out HBB.out

end Go.Proofs.Ytlclllkjnhgbjaa
