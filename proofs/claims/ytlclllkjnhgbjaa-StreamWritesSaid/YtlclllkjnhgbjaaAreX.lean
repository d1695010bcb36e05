/- Shape and Nodes, in new memory. -/
import Derived.Test.YtlclllkjnhgbjaaBu
import Derived.Test.YtlclllkjnhgbjaaAreS
namespace Go.Proofs.Ytlclllkjnhgbjaa
open Go.RowKit
set_option linter.unusedVariables false
set_option linter.unusedSimpArgs false


theorem shp_of {w : World} {s : Shp} (h1 : (rRow 59 1 (.slice s.sz.A s.sz.n s.sz.c) s.sz.n (s.sz.l.map Row.v)).holds w) (h2 : (rListD rIs s.sz.l).holds w) (hm : I64 s.ms) (hn : s.sz.n ≤ 1000000) (hv : ∀ y ∈ s.sz.l, y.l.length ≤ 4 ∧ ∀ z ∈ y.l, I64 z) : s.rd w := by
  have o1 : w.ownsRow 0 59 1 (.slice s.sz.A s.sz.n s.sz.c) s.sz.n (s.sz.l.map Row.v) := h1.now
  refine ⟨⟨by show Rd _ _ _ _ (s.sz.l.flatMap _); rw [flat_vs]; exact Rd.of_own o1, fun y hy => ?_, by show s.sz.n ≤ _; omega⟩, hm⟩
  have o2 : w.ownsRow 0 3 1 (.slice y.A y.n y.c) y.n (y.l.map (Value.int .i64)) := (h2.now.1 y hy).now
  have hl : y.l.length = y.n := by have := o2.1; rw [List.length_map] at this; omega
  have h4 := (hv y hy).1
  exact own_ok (by rw [flat_ints]; exact o2) (hv y hy).2 (by show y.n * 8 ≤ _; omega)
abbrev shL (s : Shp) : List Res := [rRow 59 1 (.slice s.sz.A s.sz.n s.sz.c) s.sz.n (s.sz.l.map Row.v), rListD rIs s.sz.l]
/-- A shape in memory of the call's own, to be read. -/
abbrev rSh (s : Shp) : Res := ⟨DomL (shL s), fun w => s.rd w⟩
theorem SL.mkSh {S : Nat → Prop} {w0 w : World} {l : List Res} {s : Shp} (h : SL S w0 w (l ++ shL s)) (hm : I64 s.ms) (hn : s.sz.n ≤ 1000000) (hv : ∀ y ∈ s.sz.l, y.l.length ≤ 4 ∧ ∀ z ∈ y.l, I64 z) : SL S w0 w (l ++ [rSh s]) :=
  h.merge _ ⟨fun g ⟨i, r, hi, hg⟩ => (h.focus.all i r hi).1 g hg, fun w' hs hk => shp_of ((h.focus.keepTo hs hk).get 0 rfl) ((h.focus.keepTo hs hk).get 1 rfl) hm hn hv⟩ fun g hg => hg
abbrev ndL (l : Row Nd) : List Res := [rRow 34 14 (.slice l.A l.n l.c) l.n (l.l.flatMap Cel.cells), rListD rNd l.l]
theorem nds_of {w : World} {l : Row Nd} (h1 : (rRow 34 14 (.slice l.A l.n l.c) l.n (l.l.flatMap Cel.cells)).holds w) (h2 : (rListD rNd l.l).holds w) (hn : l.n ≤ 1000000) : l.rd w := by
  have o1 : w.ownsRow 0 34 14 (.slice l.A l.n l.c) l.n (l.l.flatMap Cel.cells) := h1.now
  exact ⟨Rd.of_own o1, fun y hy => nd_of_own (h2.now.1 y hy), by show l.n ≤ _; omega⟩
/-- Nodes in memory of the call's own, to be read. -/
abbrev rNds (l : Row Nd) : Res := ⟨DomL (ndL l), fun w => l.rd w⟩
theorem SL.mkNds {S : Nat → Prop} {w0 w : World} {m : List Res} {l : Row Nd} (h : SL S w0 w (m ++ ndL l)) (hn : l.n ≤ 1000000) : SL S w0 w (m ++ [rNds l]) :=
  h.merge _ ⟨fun g ⟨i, r, hi, hg⟩ => (h.focus.all i r hi).1 g hg, fun w' hs hk => nds_of ((h.focus.keepTo hs hk).get 0 rfl) ((h.focus.keepTo hs hk).get 1 rfl) hn⟩ fun g hg => hg
set_option maxRecDepth 100000 in
set_option maxHeartbeats 4000000 in
theorem ashape_own (b : Nat) (x : Arn) (w : World) (ok : x.ok) (ha : ArAt b x w) :
    Calls Try.prog 52 #[.pointer (some ⟨b, 0, none⟩)] w fun e w' => ∃ s2 : Shp, e = .returned (.agg s2.cs) ∧ s2.con = x.shp.con ∧ s2.ms = x.ms ∧ SL No w w' [rSh s2] := by
  have HA := Lib.hid (fun w' (hb : Bel w w') => ha.mono hb)
  have hl1 : Hid (x.sz.l.length = x.sz.n) := ha.shp.sz.len
  have HV4 : Hid (∀ v ∈ x.sz.l, v.l.length ≤ 4) := fun v hv => (ok.sv v hv).1
  have hn16 := ok.s16
  have hs1 := ok.s1
  have HOK := Lib.hid ok
  have H := Lib.hid ((SL.start No w).alloc #[.slice none 0 0, .int .i64 0] 24)
  (try simp only [List.set_cons_zero, List.set_cons_succ, List.cons_append, List.nil_append, List.eraseIdx_cons_zero, List.eraseIdx_cons_succ, List.setIfInBounds_toArray, World.size_alloc, selR, List.getD_cons_zero, List.getD_cons_succ] at H)
  clear ha
  go_enter Try.func52, Try.ntmps52
  go_wp2_with fail
  refine (there_yes b x.sz.A x.sz.n x.sz.c _ hs1 (HA.out _ H.out.to).c0).mono ?_; rintro e w1 ⟨rfl, hw1⟩
  replace H := Lib.hid (H.out.bel hw1); (try simp only [List.set_cons_zero, List.set_cons_succ, List.cons_append, List.nil_append, List.eraseIdx_cons_zero, List.eraseIdx_cons_succ, List.setIfInBounds_toArray, World.size_alloc, selR, List.getD_cons_zero, List.getD_cons_succ] at H)
  clear hw1
  generalize w.heap.size = r at *
  have cm := (HA.out _ H.out.to).c1
  go_upto_region 4 with (first | ((with_reducible show wpList _ _ _ (⟨some 15, _, _, _, _, _⟩ :: _) _ _); refine wpList_build1 (vx := .int .i64 x.ms) (v := .agg #[.slice none 0 0, .int .i64 x.ms]) rfl (.tmp 14) rfl rfl (by intro w; kernel_rfl) ?_) | ((with_reducible show wpList _ _ _ (⟨_, .store _ (.tmp 3) _, _, _, _, _⟩ :: _) _ _); (refine wpList_store_new rfl rowShp2 (.tmp 3) (.tmp 15) rfl rfl rfl (#[.slice none 0 0, .int .i64 x.ms]) rfl rfl (by simp [Value.oneCell']) ?_; replace H := Lib.hid (H.out.alloc (#[.slice none 0 0, .int .i64 x.ms]) 24); (try simp only [List.set_cons_zero, List.set_cons_succ, List.cons_append, List.nil_append, List.eraseIdx_cons_zero, List.eraseIdx_cons_succ, List.setIfInBounds_toArray, World.size_alloc, selR, List.getD_cons_zero, List.getD_cons_succ] at H))))
  (try simp only [Act.put, List.setIfInBounds_toArray, List.set_cons_zero, List.set_cons_succ])
  clear cm
  generalize w1.heap.size = z at *
  generalize World.alloc w1 _ = w2 at *
  replace H := Lib.hid (H.out.addNil 59 1); (try simp only [List.set_cons_zero, List.set_cons_succ, List.cons_append, List.nil_append, List.eraseIdx_cons_zero, List.eraseIdx_cons_succ, List.setIfInBounds_toArray, World.size_alloc, selR, List.getD_cons_zero, List.getD_cons_succ] at H)
  replace H := Lib.hid (H.out.add (Bel.refl _) (rListD rIs []) (holds_listD_nil _ _) listD_nil_D); (try simp only [List.set_cons_zero, List.set_cons_succ, List.cons_append, List.nil_append, List.eraseIdx_cons_zero, List.eraseIdx_cons_succ, List.setIfInBounds_toArray, World.size_alloc, selR, List.getD_cons_zero, List.getD_cons_succ] at H)
  have cl := (HA.out _ H.out.to).c0
  have HL : Hid (([] : List (Row Int)).map Row.l = (x.sz.l.map Row.l).take 0) := rfl
  have hL0 : Hid (([] : List (Row Int)).length = 0) := rfl
  go_upto_region 5 with fail
  clear cl
  go_loopg [22] x.sz.n (fun gg s22 wr => ∃ (k : Nat) (B : Option Addr) (d : Nat) (L : List (Row Int)), gg = x.sz.n - k ∧ k ≤ x.sz.n ∧ s22 = .int .i64 k ∧ Hid (L.length = k) ∧ Hid (SL No w wr [rBlk r 24 #[.slice none 0 0, .int .i64 0], rBlk z 24 #[.slice B k d, .int .i64 x.ms], rRow 59 1 (.slice B k d) k (L.map Row.v), rListD rIs L]) ∧ Hid (L.map Row.l = (x.sz.l.map Row.l).take k))
  case atStart => exact ⟨0, none, 0, [], rfl, by omega, rfl, hL0, H, HL⟩
  case round =>
    clear H HL hL0
    obtain ⟨k, B, d, L, hgk, hk, rfl, hLk, H, HL⟩ := hrel
    have Hgk := Lib.hid hgk
    clear hgk
    by_cases hlt : k < x.sz.n
    · obtain ⟨bl, ol, v, hAl, hvk, hvok, hvc⟩ := (HA.out _ H.out.to).shp.sz.slAt (k := k) hlt
      have hvm := List.mem_of_getElem? hvk
      have hvn : v.n ≤ 4 := by have h := HV4.out v hvm; rw [hvok.rds.len] at h; exact h
      have HTK := Lib.hid (take_snoc_get (l := x.sz.l.map Row.l) (k := k) (x := v.l) (by rw [List.getElem?_map, hvk]; rfl))
      have HCL := Lib.hid (fun w' (hb : Bel w w') => iclone_any v w' (Row.ok.rds ((HA.out w' hb).shp.sz.all v hvm)) (by omega))
      have k0 : (0 : Int) ≤ k := by omega
      have k1 : (k : Int) < x.sz.n := by omega
      have HL2 : Hid (∀ CA cc, (L ++ [Row.mk CA v.n cc v.l]).map Row.l = (x.sz.l.map Row.l).take (k + 1)) := fun CA cc => by rw [HTK.out, List.map_append, HL.out]; rfl
      have HAL := Lib.hid hAl
      simp only at hAl
      rw [hAl]
      clear hvk hvok HTK HL hvm hAl
      go_upto_region 7 with fail
      clear hvc
      refine wp_region_held_drew (S := fun _ => True) (by kernel_rfl) trivial (fun hHeld => ?_)
      replace H := Lib.hid (H.out.drew); (try simp only [List.set_cons_zero, List.set_cons_succ, List.cons_append, List.nil_append, List.eraseIdx_cons_zero, List.eraseIdx_cons_succ, List.setIfInBounds_toArray, World.size_alloc, selR, List.getD_cons_zero, List.getD_cons_succ] at H)
      generalize World.drew _ = w8 at *
      refine wpAnyH_take (i := 0) (v := ?vq7_0) (get_o0) (by kernel_rfl) (by kernel_rfl) (by kernel_rfl) (by exact fun _ _ _ h => h) (Or.inl ⟨by rfl, ?hyq7_0⟩) (by assumption) ?_
      case hyq7_0 => (intro w hSw; (try dsimp only at hSw); go_simp) <;> with_reducible rfl
      try simp only [Act.put, List.setIfInBounds_toArray, List.set_cons_zero, List.set_cons_succ]
      refine wpAnyH_take (i := 2) (v := ?vq7_2) (get_os (get_os (get_o0))) (by kernel_rfl) (by kernel_rfl) (by kernel_rfl) (by exact fun _ _ _ h => h) (Or.inl ⟨by rfl, ?hyq7_2⟩) (by assumption) ?_
      case hyq7_2 => (intro w hSw; (try dsimp only at hSw); go_simp) <;> with_reducible rfl
      try simp only [Act.put, List.setIfInBounds_toArray, List.set_cons_zero, List.set_cons_succ]
      refine wpAnyH_ready (rs := [1, 3]) (by kernel_rfl) (by simp) ?_
      refine (AllReadyH.cons (get_os (get_o0)) (fun KK hKK => ?_) (AllReadyH.cons (get_os (get_os (get_os (get_o0)))) (fun KK hKK => ?_) AllReadyH.nil))
      · have ca1 := (H.out.blk 1 rfl).cell 0; simp only [List.getElem?_toArray, List.getElem?_cons_zero, List.getElem?_cons_succ] at ca1
        go_simp
        clear ca1
        refine hKK.out _ _ trivial (fun hHeld => ?_)
        clear hKK KK
        try simp only [Act.put, List.setIfInBounds_toArray, List.set_cons_zero, List.set_cons_succ]
        refine wpAnyH_ready (rs := [3]) (by kernel_rfl) (by simp) ?_
        refine (AllReadyH.cons (get_os (get_os (get_os (get_o0)))) (fun KK hKK => ?_) AllReadyH.nil)
        go_simp
        refine (HCL.out _ H.out.to).mono ?_; rintro e' w9 ⟨CA, cc, rfl, hb9, ho9⟩
        replace H := Lib.hid (H.out.addRow hb9 ho9); (try simp only [List.set_cons_zero, List.set_cons_succ, List.cons_append, List.nil_append, List.eraseIdx_cons_zero, List.eraseIdx_cons_succ, List.setIfInBounds_toArray, World.size_alloc, selR, List.getD_cons_zero, List.getD_cons_succ] at H)
        clear hb9 ho9
        refine hKK.out _ _ trivial (fun hHeld => ?_)
        clear hKK KK
        try simp only [Act.put, List.setIfInBounds_toArray, List.set_cons_zero, List.set_cons_succ]
        refine wpAnyH_ready (rs := [4]) (by kernel_rfl) (by simp) ?_
        refine (AllReadyH.cons (get_os (get_os (get_os (get_os (get_o0))))) (fun KK hKK => ?_) AllReadyH.nil)
        refine step_buildSlice1v rfl E_intssA (.tmp 29) rfl (.slice CA v.n cc) rfl #[.slice CA v.n cc] rfl rfl (by omega) ?_
        replace H := Lib.hid (H.out.alloc #[.slice CA v.n cc] 59); (try simp only [List.set_cons_zero, List.set_cons_succ, List.cons_append, List.nil_append, List.eraseIdx_cons_zero, List.eraseIdx_cons_succ, List.setIfInBounds_toArray, World.size_alloc, selR, List.getD_cons_zero, List.getD_cons_succ] at H)
        refine hKK.out _ _ trivial (fun hHeld => ?_)
        clear hKK KK
        try simp only [Act.put, List.setIfInBounds_toArray, List.set_cons_zero, List.set_cons_succ]
        refine wpAnyH_ready (rs := [5]) (by kernel_rfl) (by simp) ?_
        refine (AllReadyH.cons (get_os (get_os (get_os (get_os (get_os (get_o0)))))) (fun KK hKK => ?_) AllReadyH.nil)
        refine step_append0 rfl (.tmp 27) (.tmp 30) _ rfl E_intssA 0 (Nat.zero_le _) _ k _ rfl (H.out.row 2 rfl) _ 1 1 [.slice CA v.n cc] rfl (reads_of_block (H.out.blk 5 rfl) rfl) (by simp [Value.oneCell']) (by unfold maxLen; omega) (by omega) ?_
        intro vq wq howq hgq hatq
        replace H := Lib.hid (H.out.setRow 2 rfl hgq howq hatq); (try simp only [List.set_cons_zero, List.set_cons_succ, List.cons_append, List.nil_append, List.eraseIdx_cons_zero, List.eraseIdx_cons_succ, List.setIfInBounds_toArray, World.size_alloc, selR, List.getD_cons_zero, List.getD_cons_succ] at H)
        clear howq hgq hatq
        obtain ⟨A2, c2, rfl, _⟩ := own_slice (H.out.row 2 rfl)
        refine hKK.out _ _ trivial (fun hHeld => ?_)
        clear hKK KK
        try simp only [Act.put, List.setIfInBounds_toArray, List.set_cons_zero, List.set_cons_succ]
        refine wpAnyH_take (i := 6) (v := ?vq8_) (get_os (get_os (get_os (get_os (get_os (get_os (get_o0))))))) (by kernel_rfl) (by kernel_rfl) (by kernel_rfl) (by exact fun _ _ _ h => h) (Or.inl ⟨by rfl, ?hyq8_⟩) (by assumption) ?_
        case hyq8_ => (intro w hSw; (try dsimp only at hSw); go_simp) <;> with_reducible rfl
        try simp only [Act.put, List.setIfInBounds_toArray, List.set_cons_zero, List.set_cons_succ]
        refine wpAnyH_ready (rs := [7]) (by kernel_rfl) (by simp) ?_
        refine (AllReadyH.cons (get_os (get_os (get_os (get_os (get_os (get_os (get_os (get_o0)))))))) (fun KK hKK => ?_) AllReadyH.nil)
        have ca7 := (H.out.blk 1 rfl).cell 0; simp only [List.getElem?_toArray, List.getElem?_cons_zero, List.getElem?_cons_succ] at ca7; have fa7 := (H.out.blk 1 rfl).frozen 0
        go_simp
        replace H := Lib.hid (H.out.setCell 1 rfl 0 (.slice A2 (k + 1) c2)); (try simp only [List.set_cons_zero, List.set_cons_succ, List.cons_append, List.nil_append, List.eraseIdx_cons_zero, List.eraseIdx_cons_succ, List.setIfInBounds_toArray, World.size_alloc, selR, List.getD_cons_zero, List.getD_cons_succ] at H)
        clear ca7 fa7
        refine hKK.out _ _ trivial (fun hHeld => ?_)
        clear hKK KK
        try simp only [Act.put, List.setIfInBounds_toArray, List.set_cons_zero, List.set_cons_succ]
        refine wpAnyH_done (by kernel_rfl) ?_ _
        clear hHeld
        replace H := Lib.hid (H.out.snocD 3 4 (a := ⟨CA, v.n, cc, v.l⟩) (by omega) rfl rfl); (try simp only [List.set_cons_zero, List.set_cons_succ, List.cons_append, List.nil_append, List.eraseIdx_cons_zero, List.eraseIdx_cons_succ, List.setIfInBounds_toArray, World.size_alloc, selR, List.getD_cons_zero, List.getD_cons_succ] at H)
        replace H := Lib.hid (H.out.sel [0, 1, 2, 3] (by decide) (by simp)); (try simp only [List.set_cons_zero, List.set_cons_succ, List.cons_append, List.nil_append, List.eraseIdx_cons_zero, List.eraseIdx_cons_succ, List.setIfInBounds_toArray, World.size_alloc, selR, List.getD_cons_zero, List.getD_cons_succ] at H)
        clear HCL
        go_wp2_with fail
        rw [← HAL.out]
        go_roundg (x.sz.n - (k + 1))
        case rel => exact ⟨k + 1, A2, c2, L ++ [⟨CA, v.n, cc, v.l⟩], rfl, by omega, by go_num, by show _ = _; rw [List.length_append, hLk.out]; rfl, by rw [List.map_append]; exact H, Lib.hid (HL2.out CA cc)⟩
        case measure => rw [Hgk.out]; omega
      · go_simp
        refine (HCL.out _ H.out.to).mono ?_; rintro e' w9 ⟨CA, cc, rfl, hb9, ho9⟩
        replace H := Lib.hid (H.out.addRow hb9 ho9); (try simp only [List.set_cons_zero, List.set_cons_succ, List.cons_append, List.nil_append, List.eraseIdx_cons_zero, List.eraseIdx_cons_succ, List.setIfInBounds_toArray, World.size_alloc, selR, List.getD_cons_zero, List.getD_cons_succ] at H)
        clear hb9 ho9
        refine hKK.out _ _ trivial (fun hHeld => ?_)
        clear hKK KK
        try simp only [Act.put, List.setIfInBounds_toArray, List.set_cons_zero, List.set_cons_succ]
        refine wpAnyH_ready (rs := [1, 4]) (by kernel_rfl) (by simp) ?_
        refine (AllReadyH.cons (get_os (get_o0)) (fun KK hKK => ?_) (AllReadyH.cons (get_os (get_os (get_os (get_os (get_o0))))) (fun KK hKK => ?_) AllReadyH.nil))
        · have ca1 := (H.out.blk 1 rfl).cell 0; simp only [List.getElem?_toArray, List.getElem?_cons_zero, List.getElem?_cons_succ] at ca1
          go_simp
          clear ca1
          refine hKK.out _ _ trivial (fun hHeld => ?_)
          clear hKK KK
          try simp only [Act.put, List.setIfInBounds_toArray, List.set_cons_zero, List.set_cons_succ]
          refine wpAnyH_ready (rs := [4]) (by kernel_rfl) (by simp) ?_
          refine (AllReadyH.cons (get_os (get_os (get_os (get_os (get_o0))))) (fun KK hKK => ?_) AllReadyH.nil)
          refine step_buildSlice1v rfl E_intssA (.tmp 29) rfl (.slice CA v.n cc) rfl #[.slice CA v.n cc] rfl rfl (by omega) ?_
          replace H := Lib.hid (H.out.alloc #[.slice CA v.n cc] 59); (try simp only [List.set_cons_zero, List.set_cons_succ, List.cons_append, List.nil_append, List.eraseIdx_cons_zero, List.eraseIdx_cons_succ, List.setIfInBounds_toArray, World.size_alloc, selR, List.getD_cons_zero, List.getD_cons_succ] at H)
          refine hKK.out _ _ trivial (fun hHeld => ?_)
          clear hKK KK
          try simp only [Act.put, List.setIfInBounds_toArray, List.set_cons_zero, List.set_cons_succ]
          refine wpAnyH_ready (rs := [5]) (by kernel_rfl) (by simp) ?_
          refine (AllReadyH.cons (get_os (get_os (get_os (get_os (get_os (get_o0)))))) (fun KK hKK => ?_) AllReadyH.nil)
          refine step_append0 rfl (.tmp 27) (.tmp 30) _ rfl E_intssA 0 (Nat.zero_le _) _ k _ rfl (H.out.row 2 rfl) _ 1 1 [.slice CA v.n cc] rfl (reads_of_block (H.out.blk 5 rfl) rfl) (by simp [Value.oneCell']) (by unfold maxLen; omega) (by omega) ?_
          intro vq wq howq hgq hatq
          replace H := Lib.hid (H.out.setRow 2 rfl hgq howq hatq); (try simp only [List.set_cons_zero, List.set_cons_succ, List.cons_append, List.nil_append, List.eraseIdx_cons_zero, List.eraseIdx_cons_succ, List.setIfInBounds_toArray, World.size_alloc, selR, List.getD_cons_zero, List.getD_cons_succ] at H)
          clear howq hgq hatq
          obtain ⟨A2, c2, rfl, _⟩ := own_slice (H.out.row 2 rfl)
          refine hKK.out _ _ trivial (fun hHeld => ?_)
          clear hKK KK
          try simp only [Act.put, List.setIfInBounds_toArray, List.set_cons_zero, List.set_cons_succ]
          refine wpAnyH_take (i := 6) (v := ?vq9_) (get_os (get_os (get_os (get_os (get_os (get_os (get_o0))))))) (by kernel_rfl) (by kernel_rfl) (by kernel_rfl) (by exact fun _ _ _ h => h) (Or.inl ⟨by rfl, ?hyq9_⟩) (by assumption) ?_
          case hyq9_ => (intro w hSw; (try dsimp only at hSw); go_simp) <;> with_reducible rfl
          try simp only [Act.put, List.setIfInBounds_toArray, List.set_cons_zero, List.set_cons_succ]
          refine wpAnyH_ready (rs := [7]) (by kernel_rfl) (by simp) ?_
          refine (AllReadyH.cons (get_os (get_os (get_os (get_os (get_os (get_os (get_os (get_o0)))))))) (fun KK hKK => ?_) AllReadyH.nil)
          have ca7 := (H.out.blk 1 rfl).cell 0; simp only [List.getElem?_toArray, List.getElem?_cons_zero, List.getElem?_cons_succ] at ca7; have fa7 := (H.out.blk 1 rfl).frozen 0
          go_simp
          replace H := Lib.hid (H.out.setCell 1 rfl 0 (.slice A2 (k + 1) c2)); (try simp only [List.set_cons_zero, List.set_cons_succ, List.cons_append, List.nil_append, List.eraseIdx_cons_zero, List.eraseIdx_cons_succ, List.setIfInBounds_toArray, World.size_alloc, selR, List.getD_cons_zero, List.getD_cons_succ] at H)
          clear ca7 fa7
          refine hKK.out _ _ trivial (fun hHeld => ?_)
          clear hKK KK
          try simp only [Act.put, List.setIfInBounds_toArray, List.set_cons_zero, List.set_cons_succ]
          refine wpAnyH_done (by kernel_rfl) ?_ _
          clear hHeld
          replace H := Lib.hid (H.out.snocD 3 4 (a := ⟨CA, v.n, cc, v.l⟩) (by omega) rfl rfl); (try simp only [List.set_cons_zero, List.set_cons_succ, List.cons_append, List.nil_append, List.eraseIdx_cons_zero, List.eraseIdx_cons_succ, List.setIfInBounds_toArray, World.size_alloc, selR, List.getD_cons_zero, List.getD_cons_succ] at H)
          replace H := Lib.hid (H.out.sel [0, 1, 2, 3] (by decide) (by simp)); (try simp only [List.set_cons_zero, List.set_cons_succ, List.cons_append, List.nil_append, List.eraseIdx_cons_zero, List.eraseIdx_cons_succ, List.setIfInBounds_toArray, World.size_alloc, selR, List.getD_cons_zero, List.getD_cons_succ] at H)
          clear HCL
          go_wp2_with fail
          rw [← HAL.out]
          go_roundg (x.sz.n - (k + 1))
          case rel => exact ⟨k + 1, A2, c2, L ++ [⟨CA, v.n, cc, v.l⟩], rfl, by omega, by go_num, by show _ = _; rw [List.length_append, hLk.out]; rfl, by rw [List.map_append]; exact H, Lib.hid (HL2.out CA cc)⟩
          case measure => rw [Hgk.out]; omega
        · refine step_buildSlice1v rfl E_intssA (.tmp 29) rfl (.slice CA v.n cc) rfl #[.slice CA v.n cc] rfl rfl (by omega) ?_
          replace H := Lib.hid (H.out.alloc #[.slice CA v.n cc] 59); (try simp only [List.set_cons_zero, List.set_cons_succ, List.cons_append, List.nil_append, List.eraseIdx_cons_zero, List.eraseIdx_cons_succ, List.setIfInBounds_toArray, World.size_alloc, selR, List.getD_cons_zero, List.getD_cons_succ] at H)
          refine hKK.out _ _ trivial (fun hHeld => ?_)
          clear hKK KK
          try simp only [Act.put, List.setIfInBounds_toArray, List.set_cons_zero, List.set_cons_succ]
          refine wpAnyH_ready (rs := [1]) (by kernel_rfl) (by simp) ?_
          refine (AllReadyH.cons (get_os (get_o0)) (fun KK hKK => ?_) AllReadyH.nil)
          have ca1 := (H.out.blk 1 rfl).cell 0; simp only [List.getElem?_toArray, List.getElem?_cons_zero, List.getElem?_cons_succ] at ca1
          go_simp
          clear ca1
          refine hKK.out _ _ trivial (fun hHeld => ?_)
          clear hKK KK
          try simp only [Act.put, List.setIfInBounds_toArray, List.set_cons_zero, List.set_cons_succ]
          refine wpAnyH_ready (rs := [5]) (by kernel_rfl) (by simp) ?_
          refine (AllReadyH.cons (get_os (get_os (get_os (get_os (get_os (get_o0)))))) (fun KK hKK => ?_) AllReadyH.nil)
          refine step_append0 rfl (.tmp 27) (.tmp 30) _ rfl E_intssA 0 (Nat.zero_le _) _ k _ rfl (H.out.row 2 rfl) _ 1 1 [.slice CA v.n cc] rfl (reads_of_block (H.out.blk 5 rfl) rfl) (by simp [Value.oneCell']) (by unfold maxLen; omega) (by omega) ?_
          intro vq wq howq hgq hatq
          replace H := Lib.hid (H.out.setRow 2 rfl hgq howq hatq); (try simp only [List.set_cons_zero, List.set_cons_succ, List.cons_append, List.nil_append, List.eraseIdx_cons_zero, List.eraseIdx_cons_succ, List.setIfInBounds_toArray, World.size_alloc, selR, List.getD_cons_zero, List.getD_cons_succ] at H)
          clear howq hgq hatq
          obtain ⟨A2, c2, rfl, _⟩ := own_slice (H.out.row 2 rfl)
          refine hKK.out _ _ trivial (fun hHeld => ?_)
          clear hKK KK
          try simp only [Act.put, List.setIfInBounds_toArray, List.set_cons_zero, List.set_cons_succ]
          refine wpAnyH_take (i := 6) (v := ?vq10_) (get_os (get_os (get_os (get_os (get_os (get_os (get_o0))))))) (by kernel_rfl) (by kernel_rfl) (by kernel_rfl) (by exact fun _ _ _ h => h) (Or.inl ⟨by rfl, ?hyq10_⟩) (by assumption) ?_
          case hyq10_ => (intro w hSw; (try dsimp only at hSw); go_simp) <;> with_reducible rfl
          try simp only [Act.put, List.setIfInBounds_toArray, List.set_cons_zero, List.set_cons_succ]
          refine wpAnyH_ready (rs := [7]) (by kernel_rfl) (by simp) ?_
          refine (AllReadyH.cons (get_os (get_os (get_os (get_os (get_os (get_os (get_os (get_o0)))))))) (fun KK hKK => ?_) AllReadyH.nil)
          have ca7 := (H.out.blk 1 rfl).cell 0; simp only [List.getElem?_toArray, List.getElem?_cons_zero, List.getElem?_cons_succ] at ca7; have fa7 := (H.out.blk 1 rfl).frozen 0
          go_simp
          replace H := Lib.hid (H.out.setCell 1 rfl 0 (.slice A2 (k + 1) c2)); (try simp only [List.set_cons_zero, List.set_cons_succ, List.cons_append, List.nil_append, List.eraseIdx_cons_zero, List.eraseIdx_cons_succ, List.setIfInBounds_toArray, World.size_alloc, selR, List.getD_cons_zero, List.getD_cons_succ] at H)
          clear ca7 fa7
          refine hKK.out _ _ trivial (fun hHeld => ?_)
          clear hKK KK
          try simp only [Act.put, List.setIfInBounds_toArray, List.set_cons_zero, List.set_cons_succ]
          refine wpAnyH_done (by kernel_rfl) ?_ _
          clear hHeld
          replace H := Lib.hid (H.out.snocD 3 4 (a := ⟨CA, v.n, cc, v.l⟩) (by omega) rfl rfl); (try simp only [List.set_cons_zero, List.set_cons_succ, List.cons_append, List.nil_append, List.eraseIdx_cons_zero, List.eraseIdx_cons_succ, List.setIfInBounds_toArray, World.size_alloc, selR, List.getD_cons_zero, List.getD_cons_succ] at H)
          replace H := Lib.hid (H.out.sel [0, 1, 2, 3] (by decide) (by simp)); (try simp only [List.set_cons_zero, List.set_cons_succ, List.cons_append, List.nil_append, List.eraseIdx_cons_zero, List.eraseIdx_cons_succ, List.setIfInBounds_toArray, World.size_alloc, selR, List.getD_cons_zero, List.getD_cons_succ] at H)
          clear HCL
          go_wp2_with fail
          rw [← HAL.out]
          go_roundg (x.sz.n - (k + 1))
          case rel => exact ⟨k + 1, A2, c2, L ++ [⟨CA, v.n, cc, v.l⟩], rfl, by omega, by go_num, by show _ = _; rw [List.length_append, hLk.out]; rfl, by rw [List.map_append]; exact H, Lib.hid (HL2.out CA cc)⟩
          case measure => rw [Hgk.out]; omega
    · obtain rfl : k = x.sz.n := by omega
      have HF : Hid (L.map Row.l = x.shp.con) := by
        show _ = _
        rw [HL.out, List.take_of_length_le (by rw [List.length_map, hl1.out]; exact Nat.le_refl _)]
      go_wp2_with (first | ((with_reducible show wpList _ _ _ (⟨some 34, _, _, _, _, _⟩ :: _) _ _); (refine wpList_load_blk rfl rowShp2 (.tmp 3) rfl _ rfl (H.out.blk 1 rfl) rfl ?_)) | ((with_reducible show wpList _ _ _ (⟨_, .store _ (.tmp 2) _, _, _, _, _⟩ :: _) _ _); (refine wpList_store_blk rfl rowShp2 (.tmp 2) (.tmp 34) rfl _ rfl (H.out.blk 0 rfl) rfl (#[.slice B x.sz.n d, .int .i64 x.ms]) rfl rfl (by simp [Value.oneCell']) ?_; intro wq bq hgq; replace H := Lib.hid (H.out.setBlk 0 rfl hgq bq); (try simp only [List.set_cons_zero, List.set_cons_succ, List.cons_append, List.nil_append, List.eraseIdx_cons_zero, List.eraseIdx_cons_succ, List.setIfInBounds_toArray, World.size_alloc, selR, List.getD_cons_zero, List.getD_cons_succ] at H); clear hgq bq)))
      refine bodyPost_ret (results_blk1 rfl rowShp2 rfl (H.out.blk 0 rfl) rfl) rfl ?_
      replace H := Lib.hid (H.out.sel [2, 3] (by decide) (by simp)); (try simp only [List.set_cons_zero, List.set_cons_succ, List.cons_append, List.nil_append, List.eraseIdx_cons_zero, List.eraseIdx_cons_succ, List.setIfInBounds_toArray, World.size_alloc, selR, List.getD_cons_zero, List.getD_cons_succ] at H)
      refine ⟨⟨⟨B, x.sz.n, d, L⟩, x.ms⟩, rfl, HF.out, rfl, SL.mkSh (l := []) (s := ⟨⟨B, x.sz.n, d, L⟩, x.ms⟩) H.out HOK.out.ms (by show x.sz.n ≤ _; omega) fun y hy => ?_⟩
      have hm : y.l ∈ x.sz.l.map Row.l := by have h : y.l ∈ L.map Row.l := List.mem_map.2 ⟨y, hy, rfl⟩; rw [HF.out] at h; exact h
      obtain ⟨y', hy', e⟩ := List.mem_map.1 hm
      have h4 := HOK.out.sv y' hy'
      rw [e] at h4
      exact h4
set_option maxRecDepth 100000 in
set_option maxHeartbeats 4000000 in
theorem anodes_own (b : Nat) (x : Arn) (w : World) (ok : x.ok) (ha : ArAt b x w) :
    Calls Try.prog 32 #[.pointer (some ⟨b, 0, none⟩)] w fun e w' => ∃ l2 : Row Nd, e = .returned (.slice l2.A l2.n l2.c) ∧ l2.l.map Nd.con = x.nd.l.map Nd.con ∧ SL No w w' [rNds l2] := by
  have HA := Lib.hid (fun w' (hb : Bel w w') => ha.mono hb)
  have hll : Hid (x.nd.l.length = x.nd.n) := ha.nd.len
  have hnn := ok.nn
  have hs1 := ok.s1
  have H := Lib.hid (SL.start No w)
  have HBD := Lib.hid ha.bd
  clear ha
  go_enter Try.func32, Try.ntmps32
  go_wp2_with fail
  refine (there_yes b x.sz.A x.sz.n x.sz.c _ hs1 (HA.out _ H.out.to).c0).mono ?_; rintro e w1 ⟨rfl, hw1⟩
  replace H := Lib.hid (H.out.bel hw1); (try simp only [List.set_cons_zero, List.set_cons_succ, List.cons_append, List.nil_append, List.eraseIdx_cons_zero, List.eraseIdx_cons_succ, List.setIfInBounds_toArray, World.size_alloc, selR, List.getD_cons_zero, List.getD_cons_succ] at H)
  clear hw1
  have c2 := (HA.out _ H.out.to).c2
  replace H := Lib.hid (H.out.addNil 34 14); (try simp only [List.set_cons_zero, List.set_cons_succ, List.cons_append, List.nil_append, List.eraseIdx_cons_zero, List.eraseIdx_cons_succ, List.setIfInBounds_toArray, World.size_alloc, selR, List.getD_cons_zero, List.getD_cons_succ] at H)
  replace H := Lib.hid (H.out.add (Bel.refl _) (rListD rNd []) (holds_listD_nil _ _) listD_nil_D); (try simp only [List.set_cons_zero, List.set_cons_succ, List.cons_append, List.nil_append, List.eraseIdx_cons_zero, List.eraseIdx_cons_succ, List.setIfInBounds_toArray, World.size_alloc, selR, List.getD_cons_zero, List.getD_cons_succ] at H)
  have HL : Hid (([] : List Nd).map Nd.con = (x.nd.l.map Nd.con).take 0) := rfl
  go_upto_region 5 with fail
  clear c2
  go_loopg [3, 14] x.nd.n (fun gg s3 s14 wr => ∃ (k : Nat) (B : Option Addr) (d : Nat) (L : List Nd), gg = x.nd.n - k ∧ k ≤ x.nd.n ∧ s3 = .slice B k d ∧ s14 = .int .i64 k ∧ Hid (SL No w wr [rRow 34 14 (.slice B k d) k (L.flatMap Cel.cells), rListD rNd L]) ∧ Hid (L.map Nd.con = (x.nd.l.map Nd.con).take k))
  case atStart => exact ⟨0, none, 0, [], rfl, by omega, rfl, rfl, H, HL⟩
  case round =>
    clear H HL
    obtain ⟨k, B, d, L, hgk, hk, rfl, rfl, H, HL⟩ := hrel
    have Hgk := Lib.hid hgk
    clear hgk
    by_cases hlt : k < x.nd.n
    · obtain ⟨bl, ol, n, hAl, hbl, hnk, hnr, hrg⟩ := (HA.out _ H.out.to).nd.ndAt (k := k) hlt
      have hnm := List.mem_of_getElem? hnk
      have hnb := HBD.out n hnm
      have HTK := Lib.hid (take_snoc_get (l := x.nd.l.map Nd.con) (k := k) (x := n.con) (by rw [List.getElem?_map, hnk]; rfl))
      have HCN := Lib.hid (fun w' (hb : Bel w w') => nclone_any n w' ((HA.out w' hb).nd.all n hnm) hnb.1 hnb.2)
      have HND : Hid (I64 n.dim ∧ n.all.ok) := ⟨hnr.dim, hnr.all⟩
      have HN1 := Lib.hid hnb.1
      have HRG := Lib.hid hrg
      have k0 : (0 : Int) ≤ k := by omega
      have k1 : (k : Int) < x.nd.n := by omega
      have HAL := Lib.hid hAl
      rw [hAl]
      clear hnk hnr hrg hAl hnm hnb
      go_upto_region 7 with (first | ((with_reducible show wpList _ _ _ (⟨some 17, _, _, _, _, _⟩ :: _) _ _); (refine wpList_load_row_at rfl rowNd (.tmp 16) rfl bl (ol + k * 14) rfl n.cs rfl HRG.out ?_)) | ((with_reducible show wpList _ _ _ (⟨_, .store _ (.tmp 5) _, _, _, _, _⟩ :: _) _ _); (refine wpList_store_new rfl rowNd (.tmp 5) (.tmp 17) rfl rfl rfl (n.cs) rfl rfl (nd_one n) ?_; replace H := Lib.hid (H.out.alloc (n.cs) 34); (try simp only [List.set_cons_zero, List.set_cons_succ, List.cons_append, List.nil_append, List.eraseIdx_cons_zero, List.eraseIdx_cons_succ, List.setIfInBounds_toArray, World.size_alloc, selR, List.getD_cons_zero, List.getD_cons_succ] at H))))
      (try simp only [Act.put, List.setIfInBounds_toArray, List.set_cons_zero, List.set_cons_succ])
      clear HRG hbl
      generalize wr.heap.size = u at *
      generalize World.alloc wr _ = w2 at *
      go_wp2_with ((with_reducible show wpList _ _ _ (⟨some 19, _, _, _, _, _⟩ :: _) _ _); (refine wpList_load_blk rfl rowNd (.tmp 5) rfl _ rfl (H.out.blk 2 rfl) rfl ?_))
      refine (HCN.out _ H.out.to).mono ?_; rintro e' w9 ⟨NA2, nc2, NL, rfl, hNL, hNB, hNn, hN⟩
      replace H := Lib.hid (H.out.join hN); (try simp only [List.set_cons_zero, List.set_cons_succ, List.cons_append, List.nil_append, List.eraseIdx_cons_zero, List.eraseIdx_cons_succ, List.setIfInBounds_toArray, World.size_alloc, selR, List.getD_cons_zero, List.getD_cons_succ] at H)
      have HNL := Lib.hid hNL
      have HNB := Lib.hid hNB
      clear hN hNL hNB hNn HCN
      go_wp2_with (first | ((with_reducible show wpList _ _ _ (⟨some 21, _, _, _, _, _⟩ :: _) _ _); (refine wpList_buildSlice1 rfl E_nd (.tmp 20) rfl ((Nd.mk n.dim ⟨NA2, n.ls.n, nc2, NL⟩ n.all).cs) rfl rfl (by omega) ?_; replace H := Lib.hid (H.out.addRow ((Bel.refl _).alloc _) (own_made _ 34 ((Nd.mk n.dim ⟨NA2, n.ls.n, nc2, NL⟩ n.all).cs) _ rfl)); (try simp only [List.set_cons_zero, List.set_cons_succ, List.cons_append, List.nil_append, List.eraseIdx_cons_zero, List.eraseIdx_cons_succ, List.setIfInBounds_toArray, World.size_alloc, selR, List.getD_cons_zero, List.getD_cons_succ] at H))) | ((with_reducible show wpList _ _ _ (⟨some 22, _, _, _, _, _⟩ :: _) _ _); (refine wpList_append0 rfl (.tmp 18) (.tmp 21) _ rfl E_nd 0 (Nat.zero_le _) _ k _ rfl (H.out.row 0 rfl) _ 1 1 _ rfl (Rd.of_own (H.out.row 5 rfl)) (by simp [Value.oneCell']) (by unfold maxLen; omega) (by omega) ?_; intro vq wq howq hgq hatq; replace H := Lib.hid (H.out.setRow 0 rfl hgq howq hatq); (try simp only [List.set_cons_zero, List.set_cons_succ, List.cons_append, List.nil_append, List.eraseIdx_cons_zero, List.eraseIdx_cons_succ, List.setIfInBounds_toArray, World.size_alloc, selR, List.getD_cons_zero, List.getD_cons_succ] at H); clear howq hgq hatq; obtain ⟨A2, c2, rfl, _⟩ := own_slice (H.out.row 0 rfl))))
      replace H := Lib.hid (H.out.mkNd 3 4 (n := (Nd.mk n.dim ⟨NA2, n.ls.n, nc2, NL⟩ n.all)) (by omega) rfl rfl HND.out (fun y hy => HNB.out y hy) HN1.out); (try simp only [List.set_cons_zero, List.set_cons_succ, List.cons_append, List.nil_append, List.eraseIdx_cons_zero, List.eraseIdx_cons_succ, List.setIfInBounds_toArray, World.size_alloc, selR, List.getD_cons_zero, List.getD_cons_succ] at H)
      replace H := Lib.hid (H.out.snocD 1 3 (a := (Nd.mk n.dim ⟨NA2, n.ls.n, nc2, NL⟩ n.all)) (by omega) rfl rfl); (try simp only [List.set_cons_zero, List.set_cons_succ, List.cons_append, List.nil_append, List.eraseIdx_cons_zero, List.eraseIdx_cons_succ, List.setIfInBounds_toArray, World.size_alloc, selR, List.getD_cons_zero, List.getD_cons_succ] at H)
      replace H := Lib.hid (H.out.sel [0, 1] (by decide) (by simp)); (try simp only [List.set_cons_zero, List.set_cons_succ, List.cons_append, List.nil_append, List.eraseIdx_cons_zero, List.eraseIdx_cons_succ, List.setIfInBounds_toArray, World.size_alloc, selR, List.getD_cons_zero, List.getD_cons_succ] at H)
      have HL2 : Hid ((L ++ [(Nd.mk n.dim ⟨NA2, n.ls.n, nc2, NL⟩ n.all)]).map Nd.con = (x.nd.l.map Nd.con).take (k + 1)) := by
        show _ = _
        rw [HTK.out, List.map_append, HL.out, List.map_cons, List.map_nil]
        show _ ++ [NC.mk _ _ _] = _
        rw [HNL.out]
      have HF2 : Hid (∀ W, SL No w W [rRow 34 14 (.slice A2 (k + 1) c2) (k + 1) (L.flatMap Cel.cells ++ (Nd.mk n.dim ⟨NA2, n.ls.n, nc2, NL⟩ n.all).cs.toList), rListD rNd (L ++ [(Nd.mk n.dim ⟨NA2, n.ls.n, nc2, NL⟩ n.all)])] → SL No w W [rRow 34 14 (.slice A2 (k + 1) c2) (k + 1) ((L ++ [(Nd.mk n.dim ⟨NA2, n.ls.n, nc2, NL⟩ n.all)]).flatMap Cel.cells), rListD rNd (L ++ [(Nd.mk n.dim ⟨NA2, n.ls.n, nc2, NL⟩ n.all)])]) := fun W h => by
        have e : (L ++ [(Nd.mk n.dim ⟨NA2, n.ls.n, nc2, NL⟩ n.all)]).flatMap (Cel.cells : Nd → List Value) = L.flatMap Cel.cells ++ (Nd.mk n.dim ⟨NA2, n.ls.n, nc2, NL⟩ n.all).cs.toList := by rw [List.flatMap_append, List.flatMap_cons, List.flatMap_nil, List.append_nil]; rfl
        rw [e]; exact h
      clear HL HTK HNL HNB HND
      rw [← HAL.out]
      go_wp2_with fail
      go_roundg (x.nd.n - (k + 1))
      case rel => exact ⟨k + 1, A2, c2, L ++ [(Nd.mk n.dim ⟨NA2, n.ls.n, nc2, NL⟩ n.all)], rfl, by omega, by rfl, by go_num, Lib.hid (HF2.out _ H.out), HL2⟩
      case measure => rw [Hgk.out]; omega
    · obtain rfl : k = x.nd.n := by omega
      have HF : Hid (L.map Nd.con = x.nd.l.map Nd.con) := by
        show _ = _
        rw [HL.out, List.take_of_length_le (by rw [List.length_map, hll.out]; exact Nat.le_refl _)]
      clear HL
      go_wp2_with fail
      go_ret
      exact ⟨⟨B, x.nd.n, d, L⟩, rfl, HF.out, SL.mkNds (m := []) (l := ⟨B, x.nd.n, d, L⟩) H.out (by show x.nd.n ≤ _; omega)⟩

end Go.Proofs.Ytlclllkjnhgbjaa
