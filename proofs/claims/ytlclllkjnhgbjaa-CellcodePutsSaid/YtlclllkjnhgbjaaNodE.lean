/- Clones of nodes. -/
import Derived.Test.YtlclllkjnhgbjaaNodB
import Derived.Test.YtlclllkjnhgbjaaAreB
namespace Go.Proofs.Ytlclllkjnhgbjaa
open Go.RowKit
set_option linter.unusedVariables false
set_option linter.unusedSimpArgs false


theorem own_emptyC (w : World) (e : TypeId) (size : Nat) : (w.alloc (.cells #[] e)).ownsRow w.heap.size e size (.slice (some ⟨w.heap.size, 0, none⟩) 0 0) 0 [] :=
  World.ownsRow_made w #[] 0 (Nat.le_refl _) (by unfold maxLen; omega) (by simp)
theorem cls_one (l : List Cl) : ∀ u ∈ (l.flatMap Cel.cells : List Value), u.oneCell' = true := fun u hu => by
  obtain ⟨c, _, hc⟩ := List.mem_flatMap.1 hu
  exact Array.all_eq_true_iff_forall_mem.1 (cl_one c) u (by simpa [Cel.cells] using hc)
set_option maxRecDepth 100000 in
set_option maxHeartbeats 1000000 in
theorem clclone_any (x : Row Cl) (w : World) (hx : x.rd w) (hn : x.n ≤ 1000000) :
    Calls Try.prog 93 #[.slice x.A x.n x.c] w fun e w' => ∃ (A : Option Addr) (c : Nat), e = .returned (.slice A x.n c) ∧ Bel w w' ∧ w'.ownsRow w.heap.size 32 12 (.slice A x.n c) x.n (x.l.flatMap Cel.cells) := by
  have hr : Rd w 12 x.A x.n (x.l.flatMap Cel.cells) := hx.r
  have hlen : Hid (x.l.length = x.n) := hx.len
  obtain ⟨A, n, c, l⟩ := x
  simp only at *
  clear hx
  cases A with
  | none =>
    obtain rfl : n = 0 := by
      rcases Nat.eq_zero_or_pos n with h | h
      · exact h
      · obtain ⟨ad, e, _⟩ := hr.2 (by omega); cases e
    have hl : l = [] := List.eq_nil_of_length_eq_zero hlen.out
    subst hl
    have he := fun (c : Nat) (w : World) => Lib.run_eql_slice_nil (P := Try.prog) w 44 32 none 0 c 0 0 Try.underlying44
    go_enter Try.func93, Try.ntmps93
    go_wp2
    go_ret
    exact ⟨none, 0, rfl, Bel.refl _, World.ownsRow_nil _ _ _ _⟩
  | some ad =>
    have he := fun (n c : Nat) (w : World) => Lib.run_eql_slice_nil (P := Try.prog) w 44 32 (some ad) n c 0 0 Try.underlying44
    have HRR := Lib.hid (fun w' (hb : Bel w w') => hr.bel hb)
    have H := Lib.hid ((SL.start No w).addRow ((Bel.refl _).alloc _) (own_emptyC w 32 12))
    (try simp only [List.set_cons_zero, List.set_cons_succ, List.cons_append, List.nil_append, List.eraseIdx_cons_zero, List.eraseIdx_cons_succ, List.setIfInBounds_toArray, World.size_alloc, selR, List.getD_cons_zero, List.getD_cons_succ] at H)
    go_enter Try.func93, Try.ntmps93
    go_wp2_with ((with_reducible show wpList _ _ _ (⟨some 7, _, _, _, _, _⟩ :: _) _ _); (refine wpList_append0 rfl (.tmp 5) (.tmp 6) _ rfl E_cl 0 (Nat.zero_le _) _ 0 _ rfl (H.out.row 0 rfl) (some ad) n c (l.flatMap Cel.cells) rfl (HRR.out _ H.out.to) (cls_one l) (by unfold maxLen; omega) (by omega) ?_; intro vq wq howq hgq hatq; replace H := Lib.hid (H.out.setRow 0 rfl hgq howq hatq); (try simp only [List.set_cons_zero, List.set_cons_succ, List.cons_append, List.nil_append, List.eraseIdx_cons_zero, List.eraseIdx_cons_succ, List.setIfInBounds_toArray, World.size_alloc, selR, List.getD_cons_zero, List.getD_cons_succ] at H); clear howq hgq hatq; obtain ⟨A2, c2, rfl, _⟩ := own_slice (H.out.row 0 rfl); simp only [Nat.zero_add, List.nil_append] at H ⊢))
    go_ret
    exact ⟨A2, c2, rfl, H.out.to, H.out.rowB 0 rfl⟩
/-- A row of cells of the call's own. -/
abbrev rCs (x : Row Cl) : Res := rRow 32 12 (.slice x.A x.n x.c) x.n (x.l.flatMap Cel.cells)
def ClonePost (n : Nd) (w : World) (e : Ending) (w' : World) : Prop :=
  ∃ (A : Option Addr) (c : Nat) (L : List (Row Cl)), e = .returned (.agg (Nd.mk n.dim ⟨A, n.ls.n, c, L⟩ n.all).cs) ∧ L.map Row.l = n.ls.l.map Row.l ∧ (∀ x ∈ L, x.n ≤ 1000000 ∧ ∀ c ∈ x.l, c.ok) ∧ L.length = n.ls.n ∧ SL No w w' [rRow 44 1 (.slice A n.ls.n c) n.ls.n (L.map Row.v), rListD rCs L]
set_option maxRecDepth 100000 in
set_option maxHeartbeats 4000000 in
theorem nclone_any (n : Nd) (w : World) (hn : n.rd w) (hb1 : n.ls.n ≤ 1000000) (hb2 : ∀ x ∈ n.ls.l, x.n ≤ 1000000) :
    Calls Try.prog 63 #[.agg n.cs] w (ClonePost n w) := by
  have H := Lib.hid (((SL.start No w).alloc n.cs 34).alloc #[.int .i64 0, .slice none 0 0, .int .i64 0, .int .i64 0, .int .i64 0, .int .i64 0, .int .i64 0, .int .i64 0, .int .i64 0, .int .i64 0, .int .i64 0, .int .i64 0, .int .i64 0, .int .i64 0] 34)
  (try simp only [List.set_cons_zero, List.set_cons_succ, List.cons_append, List.nil_append, List.eraseIdx_cons_zero, List.eraseIdx_cons_succ, List.setIfInBounds_toArray, World.size_alloc, selR, List.getD_cons_zero, List.getD_cons_succ] at H)
  have HN := Lib.hid (fun w' (hb : Bel w w') => hn.ls.mono hb)
  have hll : Hid (n.ls.l.length = n.ls.n) := hn.ls.len
  have HB2 := Lib.hid hb2
  clear hn hb2
  go_enter Try.func63, Try.ntmps63
  go_upto_region 1 with fail
  generalize w.heap.size + 1 = y at *
  generalize w.heap.size = x at *
  generalize World.alloc (World.alloc _ _) _ = w1 at *
  have cd : w1.cell? ⟨x, 0, none⟩ = some (.int .i64 n.dim) := (H.out.blk 0 rfl).cell 0
  have HAL : Hid (w1.rangeAt x 2 n.all.cs.toList) := fun j v hv => by
    have := (H.out.blk 0 rfl).range (j + 2) v (by rw [nd_all]; exact hv)
    rw [show 0 + (j + 2) = 2 + j by omega] at this
    exact this
  have hbd : ∀ w : World, (Instr.build 34 #[(0, .int .i64 n.dim), (2, .agg n.all.cs)]).run Try.prog w = .ok (.agg (Nd.mk n.dim ⟨none, 0, 0, []⟩ n.all).cs) w := fun _ => by kernel_rfl
  go_upto_region 2 with (first | ((with_reducible show wpList _ _ _ (⟨some 9, _, _, _, _, _⟩ :: _) _ _); (refine wpList_load_row_at rfl rowCl (.tmp 8) rfl x (2) rfl n.all.cs rfl HAL.out ?_)) | ((with_reducible show wpList _ _ _ (⟨some 10, _, _, _, _, _⟩ :: _) _ _); refine wpList_build2N rfl (.tmp 7) (.tmp 9) rfl rfl rfl hbd ?_) | ((with_reducible show wpList _ _ _ (⟨_, .store _ (.tmp 3) _, _, _, _, _⟩ :: _) _ _); (refine wpList_store_new rfl rowNd (.tmp 3) (.tmp 10) rfl rfl rfl ((Nd.mk n.dim ⟨none, 0, 0, []⟩ n.all).cs) rfl rfl (nd_one _) ?_; replace H := Lib.hid (H.out.alloc ((Nd.mk n.dim ⟨none, 0, 0, []⟩ n.all).cs) 34); (try simp only [List.set_cons_zero, List.set_cons_succ, List.cons_append, List.nil_append, List.eraseIdx_cons_zero, List.eraseIdx_cons_succ, List.setIfInBounds_toArray, World.size_alloc, selR, List.getD_cons_zero, List.getD_cons_succ] at H))))
  (try simp only [Act.put, List.setIfInBounds_toArray, List.set_cons_zero, List.set_cons_succ])
  clear cd HAL hbd
  generalize w1.heap.size = z at *
  generalize World.alloc w1 _ = w2 at *
  replace H := Lib.hid (H.out.addNil 44 1); (try simp only [List.set_cons_zero, List.set_cons_succ, List.cons_append, List.nil_append, List.eraseIdx_cons_zero, List.eraseIdx_cons_succ, List.setIfInBounds_toArray, World.size_alloc, selR, List.getD_cons_zero, List.getD_cons_succ] at H)
  replace H := Lib.hid (H.out.add (Bel.refl _) (rListD rCs []) (holds_listD_nil _ _) listD_nil_D); (try simp only [List.set_cons_zero, List.set_cons_succ, List.cons_append, List.nil_append, List.eraseIdx_cons_zero, List.eraseIdx_cons_succ, List.setIfInBounds_toArray, World.size_alloc, selR, List.getD_cons_zero, List.getD_cons_succ] at H)
  have cl : w2.cell? ⟨x, 1, none⟩ = some (.slice n.ls.A n.ls.n n.ls.c) := (H.out.blk 0 rfl).cell 1
  have HL : Hid (([] : List (Row Cl)).map Row.l = (n.ls.l.map Row.l).take 0) := rfl
  have HLB : Hid (∀ x ∈ ([] : List (Row Cl)), x.n ≤ 1000000 ∧ ∀ c ∈ x.l, c.ok) := fun x hx => by cases hx
  go_upto_region 3 with fail
  clear cl
  go_loopg [14] n.ls.n (fun gg s14 wr => ∃ (k : Nat) (B : Option Addr) (d : Nat) (L : List (Row Cl)), gg = n.ls.n - k ∧ k ≤ n.ls.n ∧ s14 = .int .i64 k ∧ Hid (L.length = k) ∧ Hid (SL No w wr [rBlk x 34 n.cs, rBlk y 34 Nd.nil.cs, rBlk z 34 (Nd.mk n.dim ⟨B, k, d, L⟩ n.all).cs, rRow 44 1 (.slice B k d) k (L.map Row.v), rListD rCs L]) ∧ Hid (L.map Row.l = (n.ls.l.map Row.l).take k) ∧ Hid (∀ x ∈ L, x.n ≤ 1000000 ∧ ∀ c ∈ x.l, c.ok))
  case atStart => exact ⟨0, none, 0, [], rfl, by omega, rfl, rfl, H, HL, HLB⟩
  case round =>
    clear H HL HLB
    obtain ⟨k, B, d, L, hgk, hk, rfl, hLk, H, HL, HLB⟩ := hrel
    have Hgk := Lib.hid hgk
    clear hgk
    by_cases hlt : k < n.ls.n
    · obtain ⟨bl, ol, v, hAl, hvk, hvok, hvc⟩ := (HN.out _ H.out.to).clsAt (k := k) hlt
      have hvn := HB2.out v (List.mem_of_getElem? hvk)
      have HTK := Lib.hid (take_snoc_get (l := n.ls.l.map Row.l) (k := k) (x := v.l) (by rw [List.getElem?_map, hvk]; rfl))
      have hvm := List.mem_of_getElem? hvk
      have HCL := Lib.hid (fun w' (hb : Bel w w') => clclone_any v w' (Row.ok.rds ((HN.out w' hb).all v hvm)) hvn)
      have HAL := Lib.hid hAl
      have HVO := Lib.hid hvok.all
      have k0 : (0 : Int) ≤ k := by omega
      have k1 : (k : Int) < n.ls.n := by omega
      have HL2 : Hid (∀ CA cc, (L ++ [Row.mk CA v.n cc v.l]).map Row.l = (n.ls.l.map Row.l).take (k + 1)) := fun CA cc => by rw [HTK.out, List.map_append, HL.out]; rfl
      have HLB2 : Hid (∀ CA cc, ∀ x ∈ L ++ [Row.mk CA v.n cc v.l], x.n ≤ 1000000 ∧ ∀ c ∈ x.l, c.ok) := fun CA cc x hx => by
        rcases List.mem_append.1 hx with h | h
        · exact HLB.out x h
        · rw [List.mem_singleton] at h
          subst h
          exact ⟨hvn, HVO.out⟩
      rw [hAl]
      clear hvk hvok HTK HL HLB HVO hvm
      go_upto_region 5 with fail
      clear hvc
      refine wp_region_held_drew (S := fun _ => True) (by kernel_rfl) trivial (fun hHeld => ?_)
      replace H := Lib.hid (H.out.drew); (try simp only [List.set_cons_zero, List.set_cons_succ, List.cons_append, List.nil_append, List.eraseIdx_cons_zero, List.eraseIdx_cons_succ, List.setIfInBounds_toArray, World.size_alloc, selR, List.getD_cons_zero, List.getD_cons_succ] at H)
      generalize World.drew _ = w8 at *
      refine wpAnyH_take (i := 0) (v := ?vq6_0) (get_o0) (by kernel_rfl) (by kernel_rfl) (by kernel_rfl) (by exact fun _ _ _ h => h) (Or.inl ⟨by rfl, ?hyq6_0⟩) (by assumption) ?_
      case hyq6_0 => (intro w hSw; (try dsimp only at hSw); go_simp) <;> with_reducible rfl
      try simp only [Act.put, List.setIfInBounds_toArray, List.set_cons_zero, List.set_cons_succ]
      refine wpAnyH_take (i := 2) (v := ?vq6_2) (get_os (get_os (get_o0))) (by kernel_rfl) (by kernel_rfl) (by kernel_rfl) (by exact fun _ _ _ h => h) (Or.inl ⟨by rfl, ?hyq6_2⟩) (by assumption) ?_
      case hyq6_2 => (intro w hSw; (try dsimp only at hSw); go_simp) <;> with_reducible rfl
      try simp only [Act.put, List.setIfInBounds_toArray, List.set_cons_zero, List.set_cons_succ]
      refine wpAnyH_ready (rs := [1, 3]) (by kernel_rfl) (by simp) ?_
      refine (AllReadyH.cons (get_os (get_o0)) (fun KK hKK => ?_) (AllReadyH.cons (get_os (get_os (get_os (get_o0)))) (fun KK hKK => ?_) AllReadyH.nil))
      · have ca1 := (H.out.blk 2 rfl).cell 1; simp only [List.getElem?_toArray, List.getElem?_cons_zero, List.getElem?_cons_succ] at ca1
        go_simp
        clear ca1
        refine hKK.out _ _ trivial (fun hHeld => ?_)
        clear hKK KK
        try simp only [Act.put, List.setIfInBounds_toArray, List.set_cons_zero, List.set_cons_succ]
        refine wpAnyH_ready (rs := [3]) (by kernel_rfl) (by simp) ?_
        refine (AllReadyH.cons (get_os (get_os (get_os (get_o0)))) (fun KK hKK => ?_) AllReadyH.nil)
        go_simp
        refine (HCL.out _ H.out.to).mono ?_; rintro e' w9 ⟨CA, cc, rfl, hb9, ho9⟩
        replace H := Lib.hid (H.out.addRow hb9 ho9); (try simp only [List.set_cons_zero, List.set_cons_succ, List.cons_append, List.nil_append, List.eraseIdx_cons_zero, List.eraseIdx_cons_succ, List.setIfInBounds_toArray, World.size_alloc, selR, List.getD_cons_zero, List.getD_cons_succ] at H)
        clear hb9 ho9
        refine hKK.out _ _ trivial (fun hHeld => ?_)
        clear hKK KK
        try simp only [Act.put, List.setIfInBounds_toArray, List.set_cons_zero, List.set_cons_succ]
        refine wpAnyH_ready (rs := [4]) (by kernel_rfl) (by simp) ?_
        refine (AllReadyH.cons (get_os (get_os (get_os (get_os (get_o0))))) (fun KK hKK => ?_) AllReadyH.nil)
        refine step_buildSlice1v rfl E_cls (.tmp 21) rfl (.slice CA v.n cc) rfl #[.slice CA v.n cc] rfl rfl (by omega) ?_
        replace H := Lib.hid (H.out.alloc #[.slice CA v.n cc] 44); (try simp only [List.set_cons_zero, List.set_cons_succ, List.cons_append, List.nil_append, List.eraseIdx_cons_zero, List.eraseIdx_cons_succ, List.setIfInBounds_toArray, World.size_alloc, selR, List.getD_cons_zero, List.getD_cons_succ] at H)
        refine hKK.out _ _ trivial (fun hHeld => ?_)
        clear hKK KK
        try simp only [Act.put, List.setIfInBounds_toArray, List.set_cons_zero, List.set_cons_succ]
        refine wpAnyH_ready (rs := [5]) (by kernel_rfl) (by simp) ?_
        refine (AllReadyH.cons (get_os (get_os (get_os (get_os (get_os (get_o0)))))) (fun KK hKK => ?_) AllReadyH.nil)
        refine step_append0 rfl (.tmp 19) (.tmp 22) _ rfl E_cls 0 (Nat.zero_le _) _ k _ rfl (H.out.row 3 rfl) _ 1 1 [.slice CA v.n cc] rfl (reads_of_block (H.out.blk 6 rfl) rfl) (by simp [Value.oneCell']) (by unfold maxLen; omega) (by omega) ?_
        intro vq wq howq hgq hatq
        replace H := Lib.hid (H.out.setRow 3 rfl hgq howq hatq); (try simp only [List.set_cons_zero, List.set_cons_succ, List.cons_append, List.nil_append, List.eraseIdx_cons_zero, List.eraseIdx_cons_succ, List.setIfInBounds_toArray, World.size_alloc, selR, List.getD_cons_zero, List.getD_cons_succ] at H)
        clear howq hgq hatq
        obtain ⟨A2, c2, rfl, _⟩ := own_slice (H.out.row 3 rfl)
        refine hKK.out _ _ trivial (fun hHeld => ?_)
        clear hKK KK
        try simp only [Act.put, List.setIfInBounds_toArray, List.set_cons_zero, List.set_cons_succ]
        refine wpAnyH_take (i := 6) (v := ?vq7_) (get_os (get_os (get_os (get_os (get_os (get_os (get_o0))))))) (by kernel_rfl) (by kernel_rfl) (by kernel_rfl) (by exact fun _ _ _ h => h) (Or.inl ⟨by rfl, ?hyq7_⟩) (by assumption) ?_
        case hyq7_ => (intro w hSw; (try dsimp only at hSw); go_simp) <;> with_reducible rfl
        try simp only [Act.put, List.setIfInBounds_toArray, List.set_cons_zero, List.set_cons_succ]
        refine wpAnyH_ready (rs := [7]) (by kernel_rfl) (by simp) ?_
        refine (AllReadyH.cons (get_os (get_os (get_os (get_os (get_os (get_os (get_os (get_o0)))))))) (fun KK hKK => ?_) AllReadyH.nil)
        have ca7 := (H.out.blk 2 rfl).cell 1; simp only [List.getElem?_toArray, List.getElem?_cons_zero, List.getElem?_cons_succ] at ca7; have fa7 := (H.out.blk 2 rfl).frozen 1
        go_simp
        replace H := Lib.hid (H.out.setCell 2 rfl 1 (.slice A2 (k + 1) c2)); (try simp only [List.set_cons_zero, List.set_cons_succ, List.cons_append, List.nil_append, List.eraseIdx_cons_zero, List.eraseIdx_cons_succ, List.setIfInBounds_toArray, World.size_alloc, selR, List.getD_cons_zero, List.getD_cons_succ] at H)
        clear ca7 fa7
        refine hKK.out _ _ trivial (fun hHeld => ?_)
        clear hKK KK
        try simp only [Act.put, List.setIfInBounds_toArray, List.set_cons_zero, List.set_cons_succ]
        refine wpAnyH_done (by kernel_rfl) ?_ _
        clear hHeld
        replace H := Lib.hid (H.out.snocD 4 5 (a := ⟨CA, v.n, cc, v.l⟩) (by omega) rfl rfl); (try simp only [List.set_cons_zero, List.set_cons_succ, List.cons_append, List.nil_append, List.eraseIdx_cons_zero, List.eraseIdx_cons_succ, List.setIfInBounds_toArray, World.size_alloc, selR, List.getD_cons_zero, List.getD_cons_succ] at H)
        replace H := Lib.hid (H.out.sel [0, 1, 2, 3, 4] (by decide) (by simp)); (try simp only [List.set_cons_zero, List.set_cons_succ, List.cons_append, List.nil_append, List.eraseIdx_cons_zero, List.eraseIdx_cons_succ, List.setIfInBounds_toArray, World.size_alloc, selR, List.getD_cons_zero, List.getD_cons_succ] at H)
        clear HCL
        go_wp2_with fail
        rw [← HAL.out]
        go_roundg (n.ls.n - (k + 1))
        case rel => exact ⟨k + 1, A2, c2, L ++ [⟨CA, v.n, cc, v.l⟩], rfl, by omega, by go_num, by show _ = _; rw [List.length_append, hLk.out]; rfl, by rw [List.map_append]; exact H, Lib.hid (HL2.out CA cc), Lib.hid (HLB2.out CA cc)⟩
        case measure => rw [Hgk.out]; omega
      · go_simp
        refine (HCL.out _ H.out.to).mono ?_; rintro e' w9 ⟨CA, cc, rfl, hb9, ho9⟩
        replace H := Lib.hid (H.out.addRow hb9 ho9); (try simp only [List.set_cons_zero, List.set_cons_succ, List.cons_append, List.nil_append, List.eraseIdx_cons_zero, List.eraseIdx_cons_succ, List.setIfInBounds_toArray, World.size_alloc, selR, List.getD_cons_zero, List.getD_cons_succ] at H)
        clear hb9 ho9
        refine hKK.out _ _ trivial (fun hHeld => ?_)
        clear hKK KK
        try simp only [Act.put, List.setIfInBounds_toArray, List.set_cons_zero, List.set_cons_succ]
        refine wpAnyH_ready (rs := [1, 4]) (by kernel_rfl) (by simp) ?_
        refine (AllReadyH.cons (get_os (get_o0)) (fun KK hKK => ?_) (AllReadyH.cons (get_os (get_os (get_os (get_os (get_o0))))) (fun KK hKK => ?_) AllReadyH.nil))
        · have ca1 := (H.out.blk 2 rfl).cell 1; simp only [List.getElem?_toArray, List.getElem?_cons_zero, List.getElem?_cons_succ] at ca1
          go_simp
          clear ca1
          refine hKK.out _ _ trivial (fun hHeld => ?_)
          clear hKK KK
          try simp only [Act.put, List.setIfInBounds_toArray, List.set_cons_zero, List.set_cons_succ]
          refine wpAnyH_ready (rs := [4]) (by kernel_rfl) (by simp) ?_
          refine (AllReadyH.cons (get_os (get_os (get_os (get_os (get_o0))))) (fun KK hKK => ?_) AllReadyH.nil)
          refine step_buildSlice1v rfl E_cls (.tmp 21) rfl (.slice CA v.n cc) rfl #[.slice CA v.n cc] rfl rfl (by omega) ?_
          replace H := Lib.hid (H.out.alloc #[.slice CA v.n cc] 44); (try simp only [List.set_cons_zero, List.set_cons_succ, List.cons_append, List.nil_append, List.eraseIdx_cons_zero, List.eraseIdx_cons_succ, List.setIfInBounds_toArray, World.size_alloc, selR, List.getD_cons_zero, List.getD_cons_succ] at H)
          refine hKK.out _ _ trivial (fun hHeld => ?_)
          clear hKK KK
          try simp only [Act.put, List.setIfInBounds_toArray, List.set_cons_zero, List.set_cons_succ]
          refine wpAnyH_ready (rs := [5]) (by kernel_rfl) (by simp) ?_
          refine (AllReadyH.cons (get_os (get_os (get_os (get_os (get_os (get_o0)))))) (fun KK hKK => ?_) AllReadyH.nil)
          refine step_append0 rfl (.tmp 19) (.tmp 22) _ rfl E_cls 0 (Nat.zero_le _) _ k _ rfl (H.out.row 3 rfl) _ 1 1 [.slice CA v.n cc] rfl (reads_of_block (H.out.blk 6 rfl) rfl) (by simp [Value.oneCell']) (by unfold maxLen; omega) (by omega) ?_
          intro vq wq howq hgq hatq
          replace H := Lib.hid (H.out.setRow 3 rfl hgq howq hatq); (try simp only [List.set_cons_zero, List.set_cons_succ, List.cons_append, List.nil_append, List.eraseIdx_cons_zero, List.eraseIdx_cons_succ, List.setIfInBounds_toArray, World.size_alloc, selR, List.getD_cons_zero, List.getD_cons_succ] at H)
          clear howq hgq hatq
          obtain ⟨A2, c2, rfl, _⟩ := own_slice (H.out.row 3 rfl)
          refine hKK.out _ _ trivial (fun hHeld => ?_)
          clear hKK KK
          try simp only [Act.put, List.setIfInBounds_toArray, List.set_cons_zero, List.set_cons_succ]
          refine wpAnyH_take (i := 6) (v := ?vq8_) (get_os (get_os (get_os (get_os (get_os (get_os (get_o0))))))) (by kernel_rfl) (by kernel_rfl) (by kernel_rfl) (by exact fun _ _ _ h => h) (Or.inl ⟨by rfl, ?hyq8_⟩) (by assumption) ?_
          case hyq8_ => (intro w hSw; (try dsimp only at hSw); go_simp) <;> with_reducible rfl
          try simp only [Act.put, List.setIfInBounds_toArray, List.set_cons_zero, List.set_cons_succ]
          refine wpAnyH_ready (rs := [7]) (by kernel_rfl) (by simp) ?_
          refine (AllReadyH.cons (get_os (get_os (get_os (get_os (get_os (get_os (get_os (get_o0)))))))) (fun KK hKK => ?_) AllReadyH.nil)
          have ca7 := (H.out.blk 2 rfl).cell 1; simp only [List.getElem?_toArray, List.getElem?_cons_zero, List.getElem?_cons_succ] at ca7; have fa7 := (H.out.blk 2 rfl).frozen 1
          go_simp
          replace H := Lib.hid (H.out.setCell 2 rfl 1 (.slice A2 (k + 1) c2)); (try simp only [List.set_cons_zero, List.set_cons_succ, List.cons_append, List.nil_append, List.eraseIdx_cons_zero, List.eraseIdx_cons_succ, List.setIfInBounds_toArray, World.size_alloc, selR, List.getD_cons_zero, List.getD_cons_succ] at H)
          clear ca7 fa7
          refine hKK.out _ _ trivial (fun hHeld => ?_)
          clear hKK KK
          try simp only [Act.put, List.setIfInBounds_toArray, List.set_cons_zero, List.set_cons_succ]
          refine wpAnyH_done (by kernel_rfl) ?_ _
          clear hHeld
          replace H := Lib.hid (H.out.snocD 4 5 (a := ⟨CA, v.n, cc, v.l⟩) (by omega) rfl rfl); (try simp only [List.set_cons_zero, List.set_cons_succ, List.cons_append, List.nil_append, List.eraseIdx_cons_zero, List.eraseIdx_cons_succ, List.setIfInBounds_toArray, World.size_alloc, selR, List.getD_cons_zero, List.getD_cons_succ] at H)
          replace H := Lib.hid (H.out.sel [0, 1, 2, 3, 4] (by decide) (by simp)); (try simp only [List.set_cons_zero, List.set_cons_succ, List.cons_append, List.nil_append, List.eraseIdx_cons_zero, List.eraseIdx_cons_succ, List.setIfInBounds_toArray, World.size_alloc, selR, List.getD_cons_zero, List.getD_cons_succ] at H)
          clear HCL
          go_wp2_with fail
          rw [← HAL.out]
          go_roundg (n.ls.n - (k + 1))
          case rel => exact ⟨k + 1, A2, c2, L ++ [⟨CA, v.n, cc, v.l⟩], rfl, by omega, by go_num, by show _ = _; rw [List.length_append, hLk.out]; rfl, by rw [List.map_append]; exact H, Lib.hid (HL2.out CA cc), Lib.hid (HLB2.out CA cc)⟩
          case measure => rw [Hgk.out]; omega
        · refine step_buildSlice1v rfl E_cls (.tmp 21) rfl (.slice CA v.n cc) rfl #[.slice CA v.n cc] rfl rfl (by omega) ?_
          replace H := Lib.hid (H.out.alloc #[.slice CA v.n cc] 44); (try simp only [List.set_cons_zero, List.set_cons_succ, List.cons_append, List.nil_append, List.eraseIdx_cons_zero, List.eraseIdx_cons_succ, List.setIfInBounds_toArray, World.size_alloc, selR, List.getD_cons_zero, List.getD_cons_succ] at H)
          refine hKK.out _ _ trivial (fun hHeld => ?_)
          clear hKK KK
          try simp only [Act.put, List.setIfInBounds_toArray, List.set_cons_zero, List.set_cons_succ]
          refine wpAnyH_ready (rs := [1]) (by kernel_rfl) (by simp) ?_
          refine (AllReadyH.cons (get_os (get_o0)) (fun KK hKK => ?_) AllReadyH.nil)
          have ca1 := (H.out.blk 2 rfl).cell 1; simp only [List.getElem?_toArray, List.getElem?_cons_zero, List.getElem?_cons_succ] at ca1
          go_simp
          clear ca1
          refine hKK.out _ _ trivial (fun hHeld => ?_)
          clear hKK KK
          try simp only [Act.put, List.setIfInBounds_toArray, List.set_cons_zero, List.set_cons_succ]
          refine wpAnyH_ready (rs := [5]) (by kernel_rfl) (by simp) ?_
          refine (AllReadyH.cons (get_os (get_os (get_os (get_os (get_os (get_o0)))))) (fun KK hKK => ?_) AllReadyH.nil)
          refine step_append0 rfl (.tmp 19) (.tmp 22) _ rfl E_cls 0 (Nat.zero_le _) _ k _ rfl (H.out.row 3 rfl) _ 1 1 [.slice CA v.n cc] rfl (reads_of_block (H.out.blk 6 rfl) rfl) (by simp [Value.oneCell']) (by unfold maxLen; omega) (by omega) ?_
          intro vq wq howq hgq hatq
          replace H := Lib.hid (H.out.setRow 3 rfl hgq howq hatq); (try simp only [List.set_cons_zero, List.set_cons_succ, List.cons_append, List.nil_append, List.eraseIdx_cons_zero, List.eraseIdx_cons_succ, List.setIfInBounds_toArray, World.size_alloc, selR, List.getD_cons_zero, List.getD_cons_succ] at H)
          clear howq hgq hatq
          obtain ⟨A2, c2, rfl, _⟩ := own_slice (H.out.row 3 rfl)
          refine hKK.out _ _ trivial (fun hHeld => ?_)
          clear hKK KK
          try simp only [Act.put, List.setIfInBounds_toArray, List.set_cons_zero, List.set_cons_succ]
          refine wpAnyH_take (i := 6) (v := ?vq9_) (get_os (get_os (get_os (get_os (get_os (get_os (get_o0))))))) (by kernel_rfl) (by kernel_rfl) (by kernel_rfl) (by exact fun _ _ _ h => h) (Or.inl ⟨by rfl, ?hyq9_⟩) (by assumption) ?_
          case hyq9_ => (intro w hSw; (try dsimp only at hSw); go_simp) <;> with_reducible rfl
          try simp only [Act.put, List.setIfInBounds_toArray, List.set_cons_zero, List.set_cons_succ]
          refine wpAnyH_ready (rs := [7]) (by kernel_rfl) (by simp) ?_
          refine (AllReadyH.cons (get_os (get_os (get_os (get_os (get_os (get_os (get_os (get_o0)))))))) (fun KK hKK => ?_) AllReadyH.nil)
          have ca7 := (H.out.blk 2 rfl).cell 1; simp only [List.getElem?_toArray, List.getElem?_cons_zero, List.getElem?_cons_succ] at ca7; have fa7 := (H.out.blk 2 rfl).frozen 1
          go_simp
          replace H := Lib.hid (H.out.setCell 2 rfl 1 (.slice A2 (k + 1) c2)); (try simp only [List.set_cons_zero, List.set_cons_succ, List.cons_append, List.nil_append, List.eraseIdx_cons_zero, List.eraseIdx_cons_succ, List.setIfInBounds_toArray, World.size_alloc, selR, List.getD_cons_zero, List.getD_cons_succ] at H)
          clear ca7 fa7
          refine hKK.out _ _ trivial (fun hHeld => ?_)
          clear hKK KK
          try simp only [Act.put, List.setIfInBounds_toArray, List.set_cons_zero, List.set_cons_succ]
          refine wpAnyH_done (by kernel_rfl) ?_ _
          clear hHeld
          replace H := Lib.hid (H.out.snocD 4 5 (a := ⟨CA, v.n, cc, v.l⟩) (by omega) rfl rfl); (try simp only [List.set_cons_zero, List.set_cons_succ, List.cons_append, List.nil_append, List.eraseIdx_cons_zero, List.eraseIdx_cons_succ, List.setIfInBounds_toArray, World.size_alloc, selR, List.getD_cons_zero, List.getD_cons_succ] at H)
          replace H := Lib.hid (H.out.sel [0, 1, 2, 3, 4] (by decide) (by simp)); (try simp only [List.set_cons_zero, List.set_cons_succ, List.cons_append, List.nil_append, List.eraseIdx_cons_zero, List.eraseIdx_cons_succ, List.setIfInBounds_toArray, World.size_alloc, selR, List.getD_cons_zero, List.getD_cons_succ] at H)
          clear HCL
          go_wp2_with fail
          rw [← HAL.out]
          go_roundg (n.ls.n - (k + 1))
          case rel => exact ⟨k + 1, A2, c2, L ++ [⟨CA, v.n, cc, v.l⟩], rfl, by omega, by go_num, by show _ = _; rw [List.length_append, hLk.out]; rfl, by rw [List.map_append]; exact H, Lib.hid (HL2.out CA cc), Lib.hid (HLB2.out CA cc)⟩
          case measure => rw [Hgk.out]; omega
    · obtain rfl : k = n.ls.n := by omega
      have HF : Hid (L.map Row.l = n.ls.l.map Row.l) := by
        show _ = _
        rw [HL.out, List.take_of_length_le (by rw [List.length_map, hll.out]; exact Nat.le_refl _)]
      go_wp2_with (first | ((with_reducible show wpList _ _ _ (⟨some 26, _, _, _, _, _⟩ :: _) _ _); (refine wpList_load_blk rfl rowNd (.tmp 3) rfl _ rfl (H.out.blk 2 rfl) rfl ?_)) | ((with_reducible show wpList _ _ _ (⟨_, .store _ (.tmp 2) _, _, _, _, _⟩ :: _) _ _); (refine wpList_store_blk rfl rowNd (.tmp 2) (.tmp 26) rfl _ rfl (H.out.blk 1 rfl) rfl ((Nd.mk n.dim ⟨B, n.ls.n, d, L⟩ n.all).cs) rfl rfl (nd_one _) ?_; intro wq bq hgq; replace H := Lib.hid (H.out.setBlk 1 rfl hgq bq); (try simp only [List.set_cons_zero, List.set_cons_succ, List.cons_append, List.nil_append, List.eraseIdx_cons_zero, List.eraseIdx_cons_succ, List.setIfInBounds_toArray, World.size_alloc, selR, List.getD_cons_zero, List.getD_cons_succ] at H); clear hgq bq)))
      refine bodyPost_ret (results_blk1 rfl rowNd rfl (H.out.blk 1 rfl) rfl) rfl ?_
      replace H := Lib.hid (H.out.sel [3, 4] (by decide) (by simp)); (try simp only [List.set_cons_zero, List.set_cons_succ, List.cons_append, List.nil_append, List.eraseIdx_cons_zero, List.eraseIdx_cons_succ, List.setIfInBounds_toArray, World.size_alloc, selR, List.getD_cons_zero, List.getD_cons_succ] at H)
      exact ⟨B, d, L, rfl, HF.out, HLB.out, hLk.out, H.out⟩

end Go.Proofs.Ytlclllkjnhgbjaa
