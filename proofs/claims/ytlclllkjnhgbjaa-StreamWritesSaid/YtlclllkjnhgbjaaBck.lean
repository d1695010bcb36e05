/- The document's nodes whose cells lead to places of nodes. -/
import Derived.Test.YtlclllkjnhgbjaaStrC
import Derived.Test.YtlclllkjnhgbjaaBv
import Derived.Test.YtlclllkjnhgbjaaBu
import Derived.Test.YtlclllkjnhgbjaaAreS
namespace Go.Proofs.Ytlclllkjnhgbjaa
open Go.RowKit
set_option linter.unusedVariables false
set_option linter.unusedSimpArgs false


def bck (l : List Int) (c : Int) : Int := (((idxF c l 0).getD 0 : Nat) : Int)
theorem via_key {α β : Type} {P : α → β → Prop} {G : α → β → Prop} {Q : Prop} (h1 : (∀ a b, P a b → G a b) → Q) (h2 : ∀ a b, P a b → G a b) : Q := h1 h2
theorem step_build1N {ops : Array Oper} {o : Oper} {a : Act} {w : World} {K : Act → World → Prop} {Q : Exit → Act → World → Prop} {X : Prop} (hw : Region.wanted o (yielded ops a.tmps) = true) {t : TypeId} (x : Operand) {i : Nat} (ho : o.op = .build t #[(i, x)])
    {vx v : Value} (hx : a.eval x = vx) (hr : ∀ w : World, (Instr.build t #[(i, vx)]).run Try.prog w = .ok v w) (h : K (a.put o.dst v) w) : if Region.wanted o (yielded ops a.tmps) = true then Oper.wp Try.prog o a w K Q else X := by
  rw [if_pos hw]
  unfold Oper.wp execOp
  simp only [ho, List.map_toArray, List.map_cons, List.map_nil, hx, Sem.run_bind, hr, Result.andThen_ok, Sem.run_pure]
  exact h
theorem step_build2N {ops : Array Oper} {o : Oper} {a : Act} {w : World} {K : Act → World → Prop} {Q : Exit → Act → World → Prop} {X : Prop} (hw : Region.wanted o (yielded ops a.tmps) = true) {t : TypeId} (x y : Operand) {i j : Nat} (ho : o.op = .build t #[(i, x), (j, y)])
    {vx vy v : Value} (hx : a.eval x = vx) (hy : a.eval y = vy) (hr : ∀ w : World, (Instr.build t #[(i, vx), (j, vy)]).run Try.prog w = .ok v w) (h : K (a.put o.dst v) w) : if Region.wanted o (yielded ops a.tmps) = true then Oper.wp Try.prog o a w K Q else X := by
  rw [if_pos hw]
  unfold Oper.wp execOp
  simp only [ho, List.map_toArray, List.map_cons, List.map_nil, hx, hy, Sem.run_bind, hr, Result.andThen_ok, Sem.run_pure]
  exact h

set_option maxRecDepth 100000 in
set_option maxHeartbeats 2000000 in
theorem rback_last (s : Shp) (n : Nd) (pl : Row Int) (w : World) (hs : s.sz.n ≤ 9223372036854775807) (hd : n.dim = (s.sz.n : Int) - 1) :
    Calls Try.prog 65 #[.agg s.cs, .agg n.cs, .slice pl.A pl.n pl.c] w fun e w' => e = .returned (.agg n.cs) ∧ Bel w w' := by
  have H := Lib.hid ((((SL.start No w).alloc s.cs 24).alloc n.cs 34).alloc #[.int .i64 0, .slice none 0 0, .int .i64 0, .int .i64 0, .int .i64 0, .int .i64 0, .int .i64 0, .int .i64 0, .int .i64 0, .int .i64 0, .int .i64 0, .int .i64 0, .int .i64 0, .int .i64 0] 34)
  (try simp only [List.set_cons_zero, List.set_cons_succ, List.cons_append, List.nil_append, List.eraseIdx_cons_zero, List.eraseIdx_cons_succ, List.setIfInBounds_toArray, World.size_alloc, selR, List.getD_cons_zero, List.getD_cons_succ] at H)
  have hcs : s.cs = #[.slice s.sz.A s.sz.n s.sz.c, .int .i64 s.ms] := rfl
  have HCS := Lib.hid hcs
  clear hcs
  go_enter Try.func65, Try.ntmps65
  go_upto_region 1 with fail
  (try rw [← HCS.out] at *)
  generalize w.heap.size + 1 + 1 = r at *
  generalize w.heap.size + 1 = y at *
  generalize w.heap.size = x at *
  generalize World.alloc (World.alloc (World.alloc _ _) _) _ = w1 at *
  have cd : w1.cell? ⟨y, 0, none⟩ = some (.int .i64 n.dim) := (H.out.blk 1 rfl).cell 0
  have cz : w1.cell? ⟨x, 0, none⟩ = some (.slice s.sz.A s.sz.n s.sz.c) := (H.out.blk 0 rfl).cell 0
  have d1 : (n.dim == (s.sz.n : Int) - 1) = true := by simpa using hd
  clear hd
  go_wp2_with (first | ((with_reducible show wpList _ _ _ (⟨some 20, _, _, _, _, _⟩ :: _) _ _); (refine wpList_load_blk rfl rowNd (.tmp 4) rfl _ rfl (H.out.blk 1 rfl) rfl ?_)) | ((with_reducible show wpList _ _ _ (⟨_, .store _ (.tmp 6) _, _, _, _, _⟩ :: _) _ _); (refine wpList_store_blk rfl rowNd (.tmp 6) (.tmp 20) rfl _ rfl (H.out.blk 2 rfl) rfl (n.cs) rfl rfl (nd_one _) ?_; intro wq bq hgq; replace H := Lib.hid (H.out.setBlk 2 rfl hgq bq); (try simp only [List.set_cons_zero, List.set_cons_succ, List.cons_append, List.nil_append, List.eraseIdx_cons_zero, List.eraseIdx_cons_succ, List.setIfInBounds_toArray, World.size_alloc, selR, List.getD_cons_zero, List.getD_cons_succ] at H); clear hgq bq)))
  refine bodyPost_ret (results_blk1 rfl rowNd rfl (H.out.blk 2 rfl) rfl) rfl ?_
  exact ⟨rfl, H.out.to⟩

theorem i64_bck {l : List Int} (h : l.length ≤ 1000000) (c : Int) : I64 (bck l c) := by
  unfold bck I64
  cases hi : idxF c l 0 with
  | none => simp
  | some i =>
    have h1 := (List.getElem?_eq_some_iff.1 (idxF_some hi).2).1
    show _ ≤ ((i : Nat) : Int) ∧ ((i : Nat) : Int) ≤ _
    omega
set_option maxRecDepth 100000 in
set_option maxHeartbeats 4000000 in
theorem rback_inner (s : Shp) (n : Nd) (pl : Row Int) (w : World) (hs : s.rd w) (hn : n.rd w) (hp : pl.rd w) (hpn : pl.n ≤ 1000000) (hb1 : n.ls.n ≤ 1000000) (hb2 : ∀ x ∈ n.ls.l, x.n ≤ 1000000) (hd : n.dim ≠ (s.sz.n : Int) - 1) (hz : ∀ c ∈ eachN n.con, c.ag = .zero) (hk0 : n.all.key = 0) :
    Calls Try.prog 65 #[.agg s.cs, .agg n.cs, .slice pl.A pl.n pl.c] w fun e w' => ∃ D : Nd, e = .returned (.agg D.cs) ∧ D.con = moveC s.sz.n (bck pl.l) n.con ∧ D.ls.n = n.ls.n ∧ (∀ x ∈ D.ls.l, x.n ≤ 1000000) ∧ Bel w w' ∧ NewR w w' (rNd D) := by
  have H := Lib.hid ((((SL.start No w).alloc s.cs 24).alloc n.cs 34).alloc #[.int .i64 0, .slice none 0 0, .int .i64 0, .int .i64 0, .int .i64 0, .int .i64 0, .int .i64 0, .int .i64 0, .int .i64 0, .int .i64 0, .int .i64 0, .int .i64 0, .int .i64 0, .int .i64 0] 34)
  (try simp only [List.set_cons_zero, List.set_cons_succ, List.cons_append, List.nil_append, List.eraseIdx_cons_zero, List.eraseIdx_cons_succ, List.setIfInBounds_toArray, World.size_alloc, selR, List.getD_cons_zero, List.getD_cons_succ] at H)
  have HN := Lib.hid (fun w' (hb : Bel w w') => hn.ls.mono hb)
  have HP := Lib.hid (fun w' (hb : Bel w w') => hp.mono hb)
  have HPL : Hid (pl.l.length ≤ 1000000) := by show _ ≤ _; rw [show pl.l.length = pl.n from hp.len]; exact hpn
  have hll : Hid (n.ls.l.length = n.ls.n) := hn.ls.len
  have HB2 := Lib.hid hb2
  have HAZ := Lib.hid hz
  have HDM : Hid (I64 n.dim) := hn.dim
  have n63 := hs.sz.n63
  have hd64 := hn.dim
  unfold I64 at hd64
  have HMV : Hid (moveC s.sz.n (bck pl.l) n.con = ⟨n.dim, n.ls.l.map (fun v => v.l.map (mvCl (bck pl.l))), (Cl.mk 0 (bck pl.l n.all.ch) .zero)⟩) := by
    show (if _ then _ else _) = _
    rw [if_neg hd]
    show NC.mk n.dim ((n.ls.l.map Row.l).map _) (Cl.mk n.all.key _ n.all.ag) = _
    rw [List.map_map, hk0, hz n.all (List.mem_append_right _ (List.mem_singleton.2 rfl))]
    rfl
  have hcs : s.cs = #[.slice s.sz.A s.sz.n s.sz.c, .int .i64 s.ms] := rfl
  have HCS := Lib.hid hcs
  have d1 : (n.dim == (s.sz.n : Int) - 1) = false := by simpa using hd
  have hbA : ∀ w : World, (Instr.build 32 #[(1, .int .i64 (((idxF n.all.ch pl.l 0).getD 0 : Nat) : Int))]).run Try.prog w = .ok (.agg (Cl.mk 0 (bck pl.l n.all.ch) .zero).cs) w := fun _ => by kernel_rfl
  have hbN : ∀ w : World, (Instr.build 34 #[(0, .int .i64 n.dim), (2, .agg (Cl.mk 0 (bck pl.l n.all.ch) .zero).cs)]).run Try.prog w = .ok (.agg (Nd.mk n.dim ⟨none, 0, 0, []⟩ (Cl.mk 0 (bck pl.l n.all.ch) .zero)).cs) w := fun _ => by kernel_rfl
  clear hcs hs hn hp hb2 hd hz hk0
  go_enter Try.func65, Try.ntmps65
  go_upto_region 1 with fail
  (try rw [← HCS.out] at *)
  generalize w.heap.size + 1 + 1 = r at *
  generalize w.heap.size + 1 = y at *
  generalize w.heap.size = x at *
  generalize World.alloc (World.alloc (World.alloc _ _) _) _ = w1 at *
  have cd : w1.cell? ⟨y, 0, none⟩ = some (.int .i64 n.dim) := (H.out.blk 1 rfl).cell 0
  have cz : w1.cell? ⟨x, 0, none⟩ = some (.slice s.sz.A s.sz.n s.sz.c) := (H.out.blk 0 rfl).cell 0
  go_upto_region 3 with fail
  clear cd cz d1
  refine' via_key (P := fun (o : Nat) (wq : World) => Hid (SL No w wq [rBlk x 24 s.cs, rBlk y 34 n.cs, rBlk r 34 #[.int .i64 0, .slice none 0 0, .int .i64 0, .int .i64 0, .int .i64 0, .int .i64 0, .int .i64 0, .int .i64 0, .int .i64 0, .int .i64 0, .int .i64 0, .int .i64 0, .int .i64 0, .int .i64 0], rBlk o 34 (Nd.mk n.dim ⟨none, 0, 0, []⟩ (Cl.mk 0 (bck pl.l n.all.ch) .zero)).cs])) (fun key => ?mn) ?tl
  case mn =>
    refine wp_region_held_drew (S := fun W => W.cell? ⟨y, 0, none⟩ = some (.int .i64 n.dim) ∧ W.cell? ⟨y, 3, none⟩ = some (.int .i64 n.all.ch)) (by kernel_rfl) ⟨(H.out.blk 1 rfl).cell 0, (H.out.blk 1 rfl).cell 3⟩ (fun hHeld => ?_)
    replace H := Lib.hid (H.out.drew); (try simp only [List.set_cons_zero, List.set_cons_succ, List.cons_append, List.nil_append, List.eraseIdx_cons_zero, List.eraseIdx_cons_succ, List.setIfInBounds_toArray, World.size_alloc, selR, List.getD_cons_zero, List.getD_cons_succ] at H)
    generalize World.drew _ = w8 at *
    refine wpAnyH_take (i := 0) (v := ?vq9_0) (get_o0) (by kernel_rfl) (by kernel_rfl) (by kernel_rfl) (by exact fun _ _ _ h => h) (Or.inl ⟨by rfl, ?hyq9_0⟩) (by assumption) ?_
    case hyq9_0 => (intro w hSw; (try dsimp only at hSw); go_simp) <;> with_reducible rfl
    try simp only [Act.put, List.setIfInBounds_toArray, List.set_cons_zero, List.set_cons_succ]
    refine wpAnyH_take (i := 1) (v := ?vq9_1) (get_os (get_o0)) (by kernel_rfl) (by kernel_rfl) (by kernel_rfl) (by exact fun _ _ _ h => h) (Or.inl ⟨by rfl, ?hyq9_1⟩) (by assumption) ?_
    case hyq9_1 => (intro w hSw; (try dsimp only at hSw); go_simp) <;> with_reducible rfl
    try simp only [Act.put, List.setIfInBounds_toArray, List.set_cons_zero, List.set_cons_succ]
    refine wpAnyH_take (i := 2) (v := ?vq9_2) (get_os (get_os (get_o0))) (by kernel_rfl) (by kernel_rfl) (by kernel_rfl) (by exact fun _ _ _ h => h) (Or.inl ⟨by rfl, ?hyq9_2⟩) (by assumption) ?_
    case hyq9_2 => (intro w hSw; (try dsimp only at hSw); go_simp) <;> with_reducible rfl
    try simp only [Act.put, List.setIfInBounds_toArray, List.set_cons_zero, List.set_cons_succ]
    refine wpAnyH_take (i := 3) (v := ?vq9_3) (get_os (get_os (get_os (get_o0)))) (by kernel_rfl) (by kernel_rfl) (by kernel_rfl) (by exact fun _ _ _ h => h) (Or.inl ⟨by rfl, ?hyq9_3⟩) (by assumption) ?_
    case hyq9_3 => (intro w hSw; (try dsimp only at hSw); go_simp) <;> with_reducible rfl
    try simp only [Act.put, List.setIfInBounds_toArray, List.set_cons_zero, List.set_cons_succ]
    refine wpAnyH_take (i := 4) (v := ?vq9_4) (get_os (get_os (get_os (get_os (get_o0))))) (by kernel_rfl) (by kernel_rfl) (by kernel_rfl) (by exact fun _ _ _ h => h) (Or.inl ⟨by rfl, ?hyq9_4⟩) (by assumption) ?_
    case hyq9_4 => (intro w hSw; (try dsimp only at hSw); go_simp) <;> with_reducible rfl
    try simp only [Act.put, List.setIfInBounds_toArray, List.set_cons_zero, List.set_cons_succ]
    refine wpAnyH_take (i := 5) (v := ?vq9_5) (get_os (get_os (get_os (get_os (get_os (get_o0)))))) (by kernel_rfl) (by kernel_rfl) (by kernel_rfl) (by exact fun _ _ _ h => h) (Or.inl ⟨by rfl, ?hyq9_5⟩) (by assumption) ?_
    case hyq9_5 => (intro w hSw; (try dsimp only at hSw); go_simp) <;> with_reducible rfl
    try simp only [Act.put, List.setIfInBounds_toArray, List.set_cons_zero, List.set_cons_succ]
    refine wpAnyH_ready (rs := [6, 9]) (by kernel_rfl) (by simp) ?_
    refine (AllReadyH.cons (get_os (get_os (get_os (get_os (get_os (get_os (get_o0))))))) (fun KK hKK => ?_) (AllReadyH.cons (get_os (get_os (get_os (get_os (get_os (get_os (get_os (get_os (get_os (get_o0)))))))))) (fun KK hKK => ?_) AllReadyH.nil))
    · go_simp
      refine (rplace_any pl n.all.ch _ (HP.out _ H.out.to)).mono ?_; rintro e' w6 ⟨rfl, hb6⟩
      replace H := Lib.hid (H.out.bel hb6); (try simp only [List.set_cons_zero, List.set_cons_succ, List.cons_append, List.nil_append, List.eraseIdx_cons_zero, List.eraseIdx_cons_succ, List.setIfInBounds_toArray, World.size_alloc, selR, List.getD_cons_zero, List.getD_cons_succ] at H)
      clear hb6
      refine hKK.out _ _ ⟨(H.out.blk 1 rfl).cell 0, (H.out.blk 1 rfl).cell 3⟩ (fun hHeld => ?_)
      clear hKK KK
      try simp only [Act.put, List.setIfInBounds_toArray, List.set_cons_zero, List.set_cons_succ]
      refine wpAnyH_ready (rs := [7, 9]) (by kernel_rfl) (by simp) ?_
      refine (AllReadyH.cons (get_os (get_os (get_os (get_os (get_os (get_os (get_os (get_o0)))))))) (fun KK hKK => ?_) (AllReadyH.cons (get_os (get_os (get_os (get_os (get_os (get_os (get_os (get_os (get_os (get_o0)))))))))) (fun KK hKK => ?_) AllReadyH.nil))
      · refine step_build1N (by rfl) (.tmp 27) rfl rfl hbA ?_
        refine hKK.out _ _ ⟨(H.out.blk 1 rfl).cell 0, (H.out.blk 1 rfl).cell 3⟩ (fun hHeld => ?_)
        clear hKK KK
        try simp only [Act.put, List.setIfInBounds_toArray, List.set_cons_zero, List.set_cons_succ]
        refine wpAnyH_ready (rs := [8, 9]) (by kernel_rfl) (by simp) ?_
        refine (AllReadyH.cons (get_os (get_os (get_os (get_os (get_os (get_os (get_os (get_os (get_o0))))))))) (fun KK hKK => ?_) (AllReadyH.cons (get_os (get_os (get_os (get_os (get_os (get_os (get_os (get_os (get_os (get_o0)))))))))) (fun KK hKK => ?_) AllReadyH.nil))
        · refine step_build2N (by rfl) (.tmp 22) (.tmp 28) rfl rfl rfl hbN ?_
          refine hKK.out _ _ ⟨(H.out.blk 1 rfl).cell 0, (H.out.blk 1 rfl).cell 3⟩ (fun hHeld => ?_)
          clear hKK KK
          try simp only [Act.put, List.setIfInBounds_toArray, List.set_cons_zero, List.set_cons_succ]
          refine wpAnyH_ready (rs := [9]) (by kernel_rfl) (by simp) ?_
          refine (AllReadyH.cons (get_os (get_os (get_os (get_os (get_os (get_os (get_os (get_os (get_os (get_o0)))))))))) (fun KK hKK => ?_) AllReadyH.nil)
          go_simp
          replace H := Lib.hid (H.out.alloc #[.int .i64 0, .slice none 0 0, .int .i64 0, .int .i64 0, .int .i64 0, .int .i64 0, .int .i64 0, .int .i64 0, .int .i64 0, .int .i64 0, .int .i64 0, .int .i64 0, .int .i64 0, .int .i64 0] 34); (try simp only [List.set_cons_zero, List.set_cons_succ, List.cons_append, List.nil_append, List.eraseIdx_cons_zero, List.eraseIdx_cons_succ, List.setIfInBounds_toArray, World.size_alloc, selR, List.getD_cons_zero, List.getD_cons_succ] at H)
          generalize w6.heap.size = o at *
          generalize World.alloc w6 _ = w7 at *
          refine hKK.out _ _ ⟨(H.out.blk 1 rfl).cell 0, (H.out.blk 1 rfl).cell 3⟩ (fun hHeld => ?_)
          clear hKK KK
          try simp only [Act.put, List.setIfInBounds_toArray, List.set_cons_zero, List.set_cons_succ]
          refine wpAnyH_ready (rs := [10]) (by kernel_rfl) (by simp) ?_
          refine (AllReadyH.cons (get_ot (get_o0)) (fun KK hKK => ?_) AllReadyH.nil)
          refine step_store_blkA rfl rowNd (.tmp 7) (.tmp 29) rfl _ rfl (H.out.blk 3 rfl) rfl ((Nd.mk n.dim ⟨none, 0, 0, []⟩ (Cl.mk 0 (bck pl.l n.all.ch) .zero)).cs) rfl rfl (nd_one _) ?_
          intro wq bq hgq
          replace H := Lib.hid (H.out.setBlk 3 rfl hgq bq); (try simp only [List.set_cons_zero, List.set_cons_succ, List.cons_append, List.nil_append, List.eraseIdx_cons_zero, List.eraseIdx_cons_succ, List.setIfInBounds_toArray, World.size_alloc, selR, List.getD_cons_zero, List.getD_cons_succ] at H)
          clear hgq bq
          refine hKK.out _ _ ⟨(H.out.blk 1 rfl).cell 0, (H.out.blk 1 rfl).cell 3⟩ (fun hHeld => ?_)
          clear hKK KK
          try simp only [Act.put, List.setIfInBounds_toArray, List.set_cons_zero, List.set_cons_succ]
          refine wpAnyH_done (by kernel_rfl) ?_ _
          clear hHeld
          exact key _ _ H
        · go_simp
          replace H := Lib.hid (H.out.alloc #[.int .i64 0, .slice none 0 0, .int .i64 0, .int .i64 0, .int .i64 0, .int .i64 0, .int .i64 0, .int .i64 0, .int .i64 0, .int .i64 0, .int .i64 0, .int .i64 0, .int .i64 0, .int .i64 0] 34); (try simp only [List.set_cons_zero, List.set_cons_succ, List.cons_append, List.nil_append, List.eraseIdx_cons_zero, List.eraseIdx_cons_succ, List.setIfInBounds_toArray, World.size_alloc, selR, List.getD_cons_zero, List.getD_cons_succ] at H)
          generalize w6.heap.size = o at *
          generalize World.alloc w6 _ = w7 at *
          refine hKK.out _ _ ⟨(H.out.blk 1 rfl).cell 0, (H.out.blk 1 rfl).cell 3⟩ (fun hHeld => ?_)
          clear hKK KK
          try simp only [Act.put, List.setIfInBounds_toArray, List.set_cons_zero, List.set_cons_succ]
          refine wpAnyH_ready (rs := [8]) (by kernel_rfl) (by simp) ?_
          refine (AllReadyH.cons (get_os (get_os (get_os (get_os (get_os (get_os (get_os (get_os (get_o0))))))))) (fun KK hKK => ?_) AllReadyH.nil)
          refine step_build2N (by rfl) (.tmp 22) (.tmp 28) rfl rfl rfl hbN ?_
          refine hKK.out _ _ ⟨(H.out.blk 1 rfl).cell 0, (H.out.blk 1 rfl).cell 3⟩ (fun hHeld => ?_)
          clear hKK KK
          try simp only [Act.put, List.setIfInBounds_toArray, List.set_cons_zero, List.set_cons_succ]
          refine wpAnyH_ready (rs := [10]) (by kernel_rfl) (by simp) ?_
          refine (AllReadyH.cons (get_ot (get_o0)) (fun KK hKK => ?_) AllReadyH.nil)
          refine step_store_blkA rfl rowNd (.tmp 7) (.tmp 29) rfl _ rfl (H.out.blk 3 rfl) rfl ((Nd.mk n.dim ⟨none, 0, 0, []⟩ (Cl.mk 0 (bck pl.l n.all.ch) .zero)).cs) rfl rfl (nd_one _) ?_
          intro wq bq hgq
          replace H := Lib.hid (H.out.setBlk 3 rfl hgq bq); (try simp only [List.set_cons_zero, List.set_cons_succ, List.cons_append, List.nil_append, List.eraseIdx_cons_zero, List.eraseIdx_cons_succ, List.setIfInBounds_toArray, World.size_alloc, selR, List.getD_cons_zero, List.getD_cons_succ] at H)
          clear hgq bq
          refine hKK.out _ _ ⟨(H.out.blk 1 rfl).cell 0, (H.out.blk 1 rfl).cell 3⟩ (fun hHeld => ?_)
          clear hKK KK
          try simp only [Act.put, List.setIfInBounds_toArray, List.set_cons_zero, List.set_cons_succ]
          refine wpAnyH_done (by kernel_rfl) ?_ _
          clear hHeld
          exact key _ _ H
      · go_simp
        replace H := Lib.hid (H.out.alloc #[.int .i64 0, .slice none 0 0, .int .i64 0, .int .i64 0, .int .i64 0, .int .i64 0, .int .i64 0, .int .i64 0, .int .i64 0, .int .i64 0, .int .i64 0, .int .i64 0, .int .i64 0, .int .i64 0] 34); (try simp only [List.set_cons_zero, List.set_cons_succ, List.cons_append, List.nil_append, List.eraseIdx_cons_zero, List.eraseIdx_cons_succ, List.setIfInBounds_toArray, World.size_alloc, selR, List.getD_cons_zero, List.getD_cons_succ] at H)
        generalize w6.heap.size = o at *
        generalize World.alloc w6 _ = w7 at *
        refine hKK.out _ _ ⟨(H.out.blk 1 rfl).cell 0, (H.out.blk 1 rfl).cell 3⟩ (fun hHeld => ?_)
        clear hKK KK
        try simp only [Act.put, List.setIfInBounds_toArray, List.set_cons_zero, List.set_cons_succ]
        refine wpAnyH_ready (rs := [7]) (by kernel_rfl) (by simp) ?_
        refine (AllReadyH.cons (get_os (get_os (get_os (get_os (get_os (get_os (get_os (get_o0)))))))) (fun KK hKK => ?_) AllReadyH.nil)
        refine step_build1N (by rfl) (.tmp 27) rfl rfl hbA ?_
        refine hKK.out _ _ ⟨(H.out.blk 1 rfl).cell 0, (H.out.blk 1 rfl).cell 3⟩ (fun hHeld => ?_)
        clear hKK KK
        try simp only [Act.put, List.setIfInBounds_toArray, List.set_cons_zero, List.set_cons_succ]
        refine wpAnyH_ready (rs := [8]) (by kernel_rfl) (by simp) ?_
        refine (AllReadyH.cons (get_os (get_os (get_os (get_os (get_os (get_os (get_os (get_os (get_o0))))))))) (fun KK hKK => ?_) AllReadyH.nil)
        refine step_build2N (by rfl) (.tmp 22) (.tmp 28) rfl rfl rfl hbN ?_
        refine hKK.out _ _ ⟨(H.out.blk 1 rfl).cell 0, (H.out.blk 1 rfl).cell 3⟩ (fun hHeld => ?_)
        clear hKK KK
        try simp only [Act.put, List.setIfInBounds_toArray, List.set_cons_zero, List.set_cons_succ]
        refine wpAnyH_ready (rs := [10]) (by kernel_rfl) (by simp) ?_
        refine (AllReadyH.cons (get_ot (get_o0)) (fun KK hKK => ?_) AllReadyH.nil)
        refine step_store_blkA rfl rowNd (.tmp 7) (.tmp 29) rfl _ rfl (H.out.blk 3 rfl) rfl ((Nd.mk n.dim ⟨none, 0, 0, []⟩ (Cl.mk 0 (bck pl.l n.all.ch) .zero)).cs) rfl rfl (nd_one _) ?_
        intro wq bq hgq
        replace H := Lib.hid (H.out.setBlk 3 rfl hgq bq); (try simp only [List.set_cons_zero, List.set_cons_succ, List.cons_append, List.nil_append, List.eraseIdx_cons_zero, List.eraseIdx_cons_succ, List.setIfInBounds_toArray, World.size_alloc, selR, List.getD_cons_zero, List.getD_cons_succ] at H)
        clear hgq bq
        refine hKK.out _ _ ⟨(H.out.blk 1 rfl).cell 0, (H.out.blk 1 rfl).cell 3⟩ (fun hHeld => ?_)
        clear hKK KK
        try simp only [Act.put, List.setIfInBounds_toArray, List.set_cons_zero, List.set_cons_succ]
        refine wpAnyH_done (by kernel_rfl) ?_ _
        clear hHeld
        exact key _ _ H
    · go_simp
      replace H := Lib.hid (H.out.alloc #[.int .i64 0, .slice none 0 0, .int .i64 0, .int .i64 0, .int .i64 0, .int .i64 0, .int .i64 0, .int .i64 0, .int .i64 0, .int .i64 0, .int .i64 0, .int .i64 0, .int .i64 0, .int .i64 0] 34); (try simp only [List.set_cons_zero, List.set_cons_succ, List.cons_append, List.nil_append, List.eraseIdx_cons_zero, List.eraseIdx_cons_succ, List.setIfInBounds_toArray, World.size_alloc, selR, List.getD_cons_zero, List.getD_cons_succ] at H)
      generalize w8.heap.size = o at *
      generalize World.alloc w8 _ = w7 at *
      refine hKK.out _ _ ⟨(H.out.blk 1 rfl).cell 0, (H.out.blk 1 rfl).cell 3⟩ (fun hHeld => ?_)
      clear hKK KK
      try simp only [Act.put, List.setIfInBounds_toArray, List.set_cons_zero, List.set_cons_succ]
      refine wpAnyH_ready (rs := [6]) (by kernel_rfl) (by simp) ?_
      refine (AllReadyH.cons (get_os (get_os (get_os (get_os (get_os (get_os (get_o0))))))) (fun KK hKK => ?_) AllReadyH.nil)
      go_simp
      refine (rplace_any pl n.all.ch _ (HP.out _ H.out.to)).mono ?_; rintro e' w6 ⟨rfl, hb6⟩
      replace H := Lib.hid (H.out.bel hb6); (try simp only [List.set_cons_zero, List.set_cons_succ, List.cons_append, List.nil_append, List.eraseIdx_cons_zero, List.eraseIdx_cons_succ, List.setIfInBounds_toArray, World.size_alloc, selR, List.getD_cons_zero, List.getD_cons_succ] at H)
      clear hb6
      refine hKK.out _ _ ⟨(H.out.blk 1 rfl).cell 0, (H.out.blk 1 rfl).cell 3⟩ (fun hHeld => ?_)
      clear hKK KK
      try simp only [Act.put, List.setIfInBounds_toArray, List.set_cons_zero, List.set_cons_succ]
      refine wpAnyH_ready (rs := [7]) (by kernel_rfl) (by simp) ?_
      refine (AllReadyH.cons (get_os (get_os (get_os (get_os (get_os (get_os (get_os (get_o0)))))))) (fun KK hKK => ?_) AllReadyH.nil)
      refine step_build1N (by rfl) (.tmp 27) rfl rfl hbA ?_
      refine hKK.out _ _ ⟨(H.out.blk 1 rfl).cell 0, (H.out.blk 1 rfl).cell 3⟩ (fun hHeld => ?_)
      clear hKK KK
      try simp only [Act.put, List.setIfInBounds_toArray, List.set_cons_zero, List.set_cons_succ]
      refine wpAnyH_ready (rs := [8]) (by kernel_rfl) (by simp) ?_
      refine (AllReadyH.cons (get_os (get_os (get_os (get_os (get_os (get_os (get_os (get_os (get_o0))))))))) (fun KK hKK => ?_) AllReadyH.nil)
      refine step_build2N (by rfl) (.tmp 22) (.tmp 28) rfl rfl rfl hbN ?_
      refine hKK.out _ _ ⟨(H.out.blk 1 rfl).cell 0, (H.out.blk 1 rfl).cell 3⟩ (fun hHeld => ?_)
      clear hKK KK
      try simp only [Act.put, List.setIfInBounds_toArray, List.set_cons_zero, List.set_cons_succ]
      refine wpAnyH_ready (rs := [10]) (by kernel_rfl) (by simp) ?_
      refine (AllReadyH.cons (get_ot (get_o0)) (fun KK hKK => ?_) AllReadyH.nil)
      refine step_store_blkA rfl rowNd (.tmp 7) (.tmp 29) rfl _ rfl (H.out.blk 3 rfl) rfl ((Nd.mk n.dim ⟨none, 0, 0, []⟩ (Cl.mk 0 (bck pl.l n.all.ch) .zero)).cs) rfl rfl (nd_one _) ?_
      intro wq bq hgq
      replace H := Lib.hid (H.out.setBlk 3 rfl hgq bq); (try simp only [List.set_cons_zero, List.set_cons_succ, List.cons_append, List.nil_append, List.eraseIdx_cons_zero, List.eraseIdx_cons_succ, List.setIfInBounds_toArray, World.size_alloc, selR, List.getD_cons_zero, List.getD_cons_succ] at H)
      clear hgq bq
      refine hKK.out _ _ ⟨(H.out.blk 1 rfl).cell 0, (H.out.blk 1 rfl).cell 3⟩ (fun hHeld => ?_)
      clear hKK KK
      try simp only [Act.put, List.setIfInBounds_toArray, List.set_cons_zero, List.set_cons_succ]
      refine wpAnyH_done (by kernel_rfl) ?_ _
      clear hHeld
      exact key _ _ H
  case tl =>
  intro o wq H
  (try simp only [List.set_cons_zero, List.set_cons_succ, List.cons_append, List.nil_append, List.eraseIdx_cons_zero, List.eraseIdx_cons_succ, List.setIfInBounds_toArray, World.size_alloc, selR, List.getD_cons_zero, List.getD_cons_succ] at H)
  replace H := Lib.hid (H.out.addNil 44 1); (try simp only [List.set_cons_zero, List.set_cons_succ, List.cons_append, List.nil_append, List.eraseIdx_cons_zero, List.eraseIdx_cons_succ, List.setIfInBounds_toArray, World.size_alloc, selR, List.getD_cons_zero, List.getD_cons_succ] at H)
  replace H := Lib.hid (H.out.add (Bel.refl _) (rListD rCs []) (holds_listD_nil _ _) listD_nil_D); (try simp only [List.set_cons_zero, List.set_cons_succ, List.cons_append, List.nil_append, List.eraseIdx_cons_zero, List.eraseIdx_cons_succ, List.setIfInBounds_toArray, World.size_alloc, selR, List.getD_cons_zero, List.getD_cons_succ] at H)
  have cl : wq.cell? ⟨y, 1, none⟩ = some (.slice n.ls.A n.ls.n n.ls.c) := (H.out.blk 1 rfl).cell 1
  have HL : Hid (([] : List (Row Cl)).map Row.l = (n.ls.l.take 0).map (fun v => v.l.map (mvCl (bck pl.l)))) := rfl
  have HLB : Hid (∀ x ∈ ([] : List (Row Cl)), x.n ≤ 1000000 ∧ ∀ c ∈ x.l, c.ok) := fun x hx => by cases hx
  go_upto_region 5 with fail
  clear cl
  go_loopg [9, 10, 33] n.ls.n (fun gg s9 s10 s33 wr => ∃ (k : Nat) (B : Option Addr) (d : Nat) (L : List (Row Cl)), gg = n.ls.n - k ∧ k ≤ n.ls.n ∧ s33 = .int .i64 k ∧ Hid (L.length = k) ∧ Hid (SL No w wr [rBlk x 24 s.cs, rBlk y 34 n.cs, rBlk r 34 #[.int .i64 0, .slice none 0 0, .int .i64 0, .int .i64 0, .int .i64 0, .int .i64 0, .int .i64 0, .int .i64 0, .int .i64 0, .int .i64 0, .int .i64 0, .int .i64 0, .int .i64 0, .int .i64 0], rBlk o 34 (Nd.mk n.dim ⟨B, k, d, L⟩ (Cl.mk 0 (bck pl.l n.all.ch) .zero)).cs, rRow 44 1 (.slice B k d) k (L.map Row.v), rListD rCs L]) ∧ Hid (L.map Row.l = (n.ls.l.take k).map (fun v => v.l.map (mvCl (bck pl.l)))) ∧ Hid (∀ x ∈ L, x.n ≤ 1000000 ∧ ∀ c ∈ x.l, c.ok))
  case atStart => exact ⟨0, none, 0, [], rfl, by omega, rfl, rfl, H, HL, HLB⟩
  case round =>
    clear H HL HLB
    obtain ⟨k, B, d, L, hgk, hk, rfl, hLk, H, HL, HLB⟩ := hrel
    have Hgk := Lib.hid hgk
    clear hgk
    obtain ⟨W0, hW0⟩ : ∃ W0, W0 = wr := ⟨_, rfl⟩
    subst hW0
    by_cases hlt : k < n.ls.n
    · obtain ⟨bl, ol, v, hAl, hvk, hvok, hvc⟩ := (HN.out _ H.out.to).clsAt (k := k) hlt
      have hvn := HB2.out v (List.mem_of_getElem? hvk)
      have hvm := List.mem_of_getElem? hvk
      have HVK := Lib.hid hvk
      have HVR := Lib.hid (fun w' (hb : Bel w w') => Row.ok.rds ((HN.out w' hb).all v hvm))
      have HVZ : Hid (∀ c ∈ v.l, c.ag = .zero) := fun c hc => HAZ.out c (List.mem_append_left _ (List.mem_flatten.2 ⟨v.l, List.mem_map.2 ⟨v, hvm, rfl⟩, hc⟩))
      have hvl : Hid (v.l.length = v.n) := hvok.len
      have HAL := Lib.hid hAl
      have HVO := Lib.hid hvok.all
      have k0 : (0 : Int) ≤ k := by omega
      have k1 : (k : Int) < n.ls.n := by omega
      rw [hAl]
      clear hvk hvok hvm hAl
      replace H := Lib.hid (H.out.addNil 32 12); (try simp only [List.set_cons_zero, List.set_cons_succ, List.cons_append, List.nil_append, List.eraseIdx_cons_zero, List.eraseIdx_cons_succ, List.setIfInBounds_toArray, World.size_alloc, selR, List.getD_cons_zero, List.getD_cons_succ] at H)
      go_upto_region 9 with fail
      clear hvc
      go_loopg [10, 39] v.n (fun gg s10 s39 wx => ∃ (j : Nat) (A : Option Addr) (c : Nat), gg = v.n - j ∧ j ≤ v.n ∧ s10 = .slice A j c ∧ s39 = .int .i64 j ∧ Hid (SL No w wx [rBlk x 24 s.cs, rBlk y 34 n.cs, rBlk r 34 #[.int .i64 0, .slice none 0 0, .int .i64 0, .int .i64 0, .int .i64 0, .int .i64 0, .int .i64 0, .int .i64 0, .int .i64 0, .int .i64 0, .int .i64 0, .int .i64 0, .int .i64 0, .int .i64 0], rBlk o 34 (Nd.mk n.dim ⟨B, k, d, L⟩ (Cl.mk 0 (bck pl.l n.all.ch) .zero)).cs, rRow 44 1 (.slice B k d) k (L.map Row.v), rListD rCs L, rRow 32 12 (.slice A j c) j (((v.l.take j).map (mvCl (bck pl.l))).flatMap Cel.cells)]))
      case atStart => exact ⟨0, none, 0, rfl, by omega, rfl, rfl, H⟩
      case round =>
        clear H
        obtain ⟨j, A, c, hgj, hj, rfl, rfl, H⟩ := hrel
        have Hgj := Lib.hid hgj
        clear hgj
        by_cases hjlt : j < v.n
        · obtain ⟨bv, ov, q, hAv, hbv, hqk, hqok, hrg⟩ := (HVR.out _ H.out.to).clAt (k := j) hjlt
          have HQK := Lib.hid hqk
          have HQZ := Lib.hid (HVZ.out q (List.mem_of_getElem? hqk))
          have HAV := Lib.hid hAv
          have HRG := Lib.hid hrg
          have hbQ : ∀ w : World, (Instr.build 32 #[(0, .int .i64 q.key), (1, .int .i64 (((idxF q.ch pl.l 0).getD 0 : Nat) : Int))]).run Try.prog w = .ok (.agg (Cl.mk q.key (bck pl.l q.ch) .zero).cs) w := fun _ => by kernel_rfl
          have j0 : (0 : Int) ≤ j := by omega
          have j1 : (j : Int) < v.n := by omega
          rw [hAv]
          clear hqk hAv hrg hqok
          go_upto_region 11 with (first | ((with_reducible show wpList _ _ _ (⟨some 42, _, _, _, _, _⟩ :: _) _ _); (refine wpList_load_row_at rfl rowCl (.tmp 41) rfl bv (ov + j * 12) rfl q.cs rfl HRG.out ?_)) | ((with_reducible show wpList _ _ _ (⟨_, .store _ (.tmp 12) _, _, _, _, _⟩ :: _) _ _); (refine wpList_store_new rfl rowCl (.tmp 12) (.tmp 42) rfl rfl rfl (q.cs) rfl rfl (cl_one q) ?_; replace H := Lib.hid (H.out.alloc (q.cs) 32); (try simp only [List.set_cons_zero, List.set_cons_succ, List.cons_append, List.nil_append, List.eraseIdx_cons_zero, List.eraseIdx_cons_succ, List.setIfInBounds_toArray, World.size_alloc, selR, List.getD_cons_zero, List.getD_cons_succ] at H))))
          (try simp only [Act.put, List.setIfInBounds_toArray, List.set_cons_zero, List.set_cons_succ])
          clear HRG hbv
          generalize wr.heap.size = u at *
          generalize World.alloc wr _ = w5 at *
          refine wp_region_held_drew (S := fun W => W.cell? ⟨u, 0, none⟩ = some (.int .i64 q.key) ∧ W.cell? ⟨u, 1, none⟩ = some (.int .i64 q.ch)) (by kernel_rfl) ⟨(H.out.blk 7 rfl).cell 0, (H.out.blk 7 rfl).cell 1⟩ (fun hHeld => ?_)
          replace H := Lib.hid (H.out.drew); (try simp only [List.set_cons_zero, List.set_cons_succ, List.cons_append, List.nil_append, List.eraseIdx_cons_zero, List.eraseIdx_cons_succ, List.setIfInBounds_toArray, World.size_alloc, selR, List.getD_cons_zero, List.getD_cons_succ] at H)
          generalize World.drew _ = w8 at *
          refine wpAnyH_take (i := 0) (v := ?vq7_0) (get_o0) (by kernel_rfl) (by kernel_rfl) (by kernel_rfl) (by exact fun _ _ _ h => h) (Or.inl ⟨by rfl, ?hyq7_0⟩) (by assumption) ?_
          case hyq7_0 => (intro w hSw; (try dsimp only at hSw); go_simp) <;> with_reducible rfl
          try simp only [Act.put, List.setIfInBounds_toArray, List.set_cons_zero, List.set_cons_succ]
          refine wpAnyH_take (i := 1) (v := ?vq7_1) (get_os (get_o0)) (by kernel_rfl) (by kernel_rfl) (by kernel_rfl) (by exact fun _ _ _ h => h) (Or.inl ⟨by rfl, ?hyq7_1⟩) (by assumption) ?_
          case hyq7_1 => (intro w hSw; (try dsimp only at hSw); go_simp) <;> with_reducible rfl
          try simp only [Act.put, List.setIfInBounds_toArray, List.set_cons_zero, List.set_cons_succ]
          refine wpAnyH_take (i := 2) (v := ?vq7_2) (get_os (get_os (get_o0))) (by kernel_rfl) (by kernel_rfl) (by kernel_rfl) (by exact fun _ _ _ h => h) (Or.inl ⟨by rfl, ?hyq7_2⟩) (by assumption) ?_
          case hyq7_2 => (intro w hSw; (try dsimp only at hSw); go_simp) <;> with_reducible rfl
          try simp only [Act.put, List.setIfInBounds_toArray, List.set_cons_zero, List.set_cons_succ]
          refine wpAnyH_take (i := 3) (v := ?vq7_3) (get_os (get_os (get_os (get_o0)))) (by kernel_rfl) (by kernel_rfl) (by kernel_rfl) (by exact fun _ _ _ h => h) (Or.inl ⟨by rfl, ?hyq7_3⟩) (by assumption) ?_
          case hyq7_3 => (intro w hSw; (try dsimp only at hSw); go_simp) <;> with_reducible rfl
          try simp only [Act.put, List.setIfInBounds_toArray, List.set_cons_zero, List.set_cons_succ]
          refine wpAnyH_take (i := 4) (v := ?vq7_4) (get_os (get_os (get_os (get_os (get_o0))))) (by kernel_rfl) (by kernel_rfl) (by kernel_rfl) (by exact fun _ _ _ h => h) (Or.inl ⟨by rfl, ?hyq7_4⟩) (by assumption) ?_
          case hyq7_4 => (intro w hSw; (try dsimp only at hSw); go_simp) <;> with_reducible rfl
          try simp only [Act.put, List.setIfInBounds_toArray, List.set_cons_zero, List.set_cons_succ]
          refine wpAnyH_take (i := 5) (v := ?vq7_5) (get_os (get_os (get_os (get_os (get_os (get_o0)))))) (by kernel_rfl) (by kernel_rfl) (by kernel_rfl) (by exact fun _ _ _ h => h) (Or.inl ⟨by rfl, ?hyq7_5⟩) (by assumption) ?_
          case hyq7_5 => (intro w hSw; (try dsimp only at hSw); go_simp) <;> with_reducible rfl
          try simp only [Act.put, List.setIfInBounds_toArray, List.set_cons_zero, List.set_cons_succ]
          refine wpAnyH_ready (rs := [6]) (by kernel_rfl) (by simp) ?_
          refine (AllReadyH.cons (get_os (get_os (get_os (get_os (get_os (get_os (get_o0))))))) (fun KK hKK => ?_) AllReadyH.nil)
          go_simp
          refine (rplace_any pl q.ch _ (HP.out _ H.out.to)).mono ?_; rintro e' w6 ⟨rfl, hb6⟩
          replace H := Lib.hid (H.out.bel hb6); (try simp only [List.set_cons_zero, List.set_cons_succ, List.cons_append, List.nil_append, List.eraseIdx_cons_zero, List.eraseIdx_cons_succ, List.setIfInBounds_toArray, World.size_alloc, selR, List.getD_cons_zero, List.getD_cons_succ] at H)
          clear hb6
          refine hKK.out _ _ ⟨(H.out.blk 7 rfl).cell 0, (H.out.blk 7 rfl).cell 1⟩ (fun hHeld => ?_)
          clear hKK KK
          try simp only [Act.put, List.setIfInBounds_toArray, List.set_cons_zero, List.set_cons_succ]
          refine wpAnyH_ready (rs := [7]) (by kernel_rfl) (by simp) ?_
          refine (AllReadyH.cons (get_os (get_os (get_os (get_os (get_os (get_os (get_os (get_o0)))))))) (fun KK hKK => ?_) AllReadyH.nil)
          refine step_build2N (by rfl) (.tmp 45) (.tmp 49) rfl rfl rfl hbQ ?_
          refine hKK.out _ _ ⟨(H.out.blk 7 rfl).cell 0, (H.out.blk 7 rfl).cell 1⟩ (fun hHeld => ?_)
          clear hKK KK
          try simp only [Act.put, List.setIfInBounds_toArray, List.set_cons_zero, List.set_cons_succ]
          refine wpAnyH_ready (rs := [8]) (by kernel_rfl) (by simp) ?_
          refine (AllReadyH.cons (get_os (get_os (get_os (get_os (get_os (get_os (get_os (get_os (get_o0))))))))) (fun KK hKK => ?_) AllReadyH.nil)
          refine step_buildSlice1 rfl E_cl (.tmp 50) rfl ((Cl.mk q.key (bck pl.l q.ch) .zero).cs) rfl rfl (by omega) ?_
          replace H := Lib.hid (H.out.addRow ((Bel.refl _).alloc _) (own_made _ 32 ((Cl.mk q.key (bck pl.l q.ch) .zero).cs) _ rfl)); (try simp only [List.set_cons_zero, List.set_cons_succ, List.cons_append, List.nil_append, List.eraseIdx_cons_zero, List.eraseIdx_cons_succ, List.setIfInBounds_toArray, World.size_alloc, selR, List.getD_cons_zero, List.getD_cons_succ] at H)
          refine hKK.out _ _ ⟨(H.out.blk 7 rfl).cell 0, (H.out.blk 7 rfl).cell 1⟩ (fun hHeld => ?_)
          clear hKK KK
          try simp only [Act.put, List.setIfInBounds_toArray, List.set_cons_zero, List.set_cons_succ]
          refine wpAnyH_ready (rs := [9]) (by kernel_rfl) (by simp) ?_
          refine (AllReadyH.cons (get_os (get_os (get_os (get_os (get_os (get_os (get_os (get_os (get_os (get_o0)))))))))) (fun KK hKK => ?_) AllReadyH.nil)
          refine step_append0 rfl (.tmp 43) (.tmp 51) _ rfl E_cl 0 (Nat.zero_le _) _ j _ rfl (H.out.row 6 rfl) _ 1 1 _ rfl (Rd.of_own (H.out.row 8 rfl)) (cl1_one (Cl.mk q.key (bck pl.l q.ch) .zero)) (by unfold maxLen; omega) (by omega) ?_
          intro vq wq howq hgq hatq
          replace H := Lib.hid (H.out.setRow 6 rfl hgq howq hatq); (try simp only [List.set_cons_zero, List.set_cons_succ, List.cons_append, List.nil_append, List.eraseIdx_cons_zero, List.eraseIdx_cons_succ, List.setIfInBounds_toArray, World.size_alloc, selR, List.getD_cons_zero, List.getD_cons_succ] at H)
          clear howq hgq hatq
          obtain ⟨A3, c3, rfl, _⟩ := own_slice (H.out.row 6 rfl)
          refine hKK.out _ _ ⟨(H.out.blk 7 rfl).cell 0, (H.out.blk 7 rfl).cell 1⟩ (fun hHeld => ?_)
          clear hKK KK
          try simp only [Act.put, List.setIfInBounds_toArray, List.set_cons_zero, List.set_cons_succ]
          refine wpAnyH_take (i := 10) (v := ?vq8_) (get_ot (get_o0)) (by kernel_rfl) (by kernel_rfl) (by kernel_rfl) (by exact fun _ _ _ h => h) (Or.inl ⟨by rfl, ?hyq8_⟩) (by assumption) ?_
          case hyq8_ => (intro w hSw; (try dsimp only at hSw); go_simp) <;> with_reducible rfl
          try simp only [Act.put, List.setIfInBounds_toArray, List.set_cons_zero, List.set_cons_succ]
          refine wpAnyH_done (by kernel_rfl) ?_ _
          clear hHeld
          replace H := Lib.hid (H.out.sel [0, 1, 2, 3, 4, 5, 6] (by decide) (by simp)); (try simp only [List.set_cons_zero, List.set_cons_succ, List.cons_append, List.nil_append, List.eraseIdx_cons_zero, List.eraseIdx_cons_succ, List.setIfInBounds_toArray, World.size_alloc, selR, List.getD_cons_zero, List.getD_cons_succ] at H)
          have HAF : Hid (((v.l.take j).map (mvCl (bck pl.l))).flatMap Cel.cells ++ (Cl.mk q.key (bck pl.l q.ch) .zero).cs.toList = ((v.l.take (j + 1)).map (mvCl (bck pl.l))).flatMap Cel.cells) := by
            show _ = _
            rw [take_snoc' HQK.out, List.map_append, List.flatMap_append]
            show _ ++ _ = _ ++ (Cel.cells (mvCl (bck pl.l) q) ++ [])
            rw [List.append_nil]
            unfold mvCl
            rw [HQZ.out]
            rfl
          rw [HAF.out] at H
          go_wp2_with fail
          rw [← HAV.out]
          go_roundg (v.n - (j + 1))
          case rel => exact ⟨j + 1, A3, c3, rfl, by omega, rfl, by go_num, H⟩
          case measure => rw [Hgj.out]; omega
        · obtain rfl : j = v.n := by omega
          have HTL : Hid ((v.l.take v.n).map (mvCl (bck pl.l)) = v.l.map (mvCl (bck pl.l))) := by show _ = _; rw [List.take_of_length_le (by rw [hvl.out]; exact Nat.le_refl _)]
          rw [HTL.out] at H
          have c1 := (H.out.blk 3 rfl).cell 1; simp only [List.getElem?_toArray, List.getElem?_cons_zero, List.getElem?_cons_succ] at c1
          go_wp2_with ((with_reducible show wpList _ _ _ (⟨some 58, _, _, _, _, _⟩ :: _) _ _); (replace H := Lib.hid (H.out.alloc #[.slice A v.n c] 44); (try simp only [List.set_cons_zero, List.set_cons_succ, List.cons_append, List.nil_append, List.eraseIdx_cons_zero, List.eraseIdx_cons_succ, List.setIfInBounds_toArray, World.size_alloc, selR, List.getD_cons_zero, List.getD_cons_succ] at H); refine wpList_append0 rfl (.tmp 55) (.tmp 57) _ rfl E_cls 0 (Nat.zero_le _) _ k _ rfl (H.out.row 4 rfl) _ 1 1 [.slice A v.n c] rfl (reads_of_block (H.out.blk 7 rfl) rfl) (by simp [Value.oneCell']) (by unfold maxLen; omega) (by omega) ?_; intro vq wq howq hgq hatq; replace H := Lib.hid (H.out.setRow 4 rfl hgq howq hatq); (try simp only [List.set_cons_zero, List.set_cons_succ, List.cons_append, List.nil_append, List.eraseIdx_cons_zero, List.eraseIdx_cons_succ, List.setIfInBounds_toArray, World.size_alloc, selR, List.getD_cons_zero, List.getD_cons_succ] at H); clear howq hgq hatq; obtain ⟨B2, e2, rfl, _⟩ := own_slice (H.out.row 4 rfl); clear c1; have c1 := (H.out.blk 3 rfl).cell 1; simp only [List.getElem?_toArray, List.getElem?_cons_zero, List.getElem?_cons_succ] at c1; have f1 := (H.out.blk 3 rfl).frozen 1))
          replace H := Lib.hid (H.out.setCell 3 rfl 1 (.slice B2 (k + 1) e2)); (try simp only [List.set_cons_zero, List.set_cons_succ, List.cons_append, List.nil_append, List.eraseIdx_cons_zero, List.eraseIdx_cons_succ, List.setIfInBounds_toArray, World.size_alloc, selR, List.getD_cons_zero, List.getD_cons_succ] at H)
          clear c1 f1
          replace H := Lib.hid (H.out.snocD 5 6 (r := rCs) (a := (⟨A, v.n, c, v.l.map (mvCl (bck pl.l))⟩ : Row Cl)) (by omega) rfl rfl); (try simp only [List.set_cons_zero, List.set_cons_succ, List.cons_append, List.nil_append, List.eraseIdx_cons_zero, List.eraseIdx_cons_succ, List.setIfInBounds_toArray, World.size_alloc, selR, List.getD_cons_zero, List.getD_cons_succ] at H)
          replace H := Lib.hid (H.out.sel [0, 1, 2, 3, 4, 5] (by decide) (by simp)); (try simp only [List.set_cons_zero, List.set_cons_succ, List.cons_append, List.nil_append, List.eraseIdx_cons_zero, List.eraseIdx_cons_succ, List.setIfInBounds_toArray, World.size_alloc, selR, List.getD_cons_zero, List.getD_cons_succ] at H)
          have HLB2 : Hid (∀ y ∈ L ++ [(⟨A, v.n, c, v.l.map (mvCl (bck pl.l))⟩ : Row Cl)], y.n ≤ 1000000 ∧ ∀ c ∈ y.l, c.ok) := fun y hy => by
            rcases List.mem_append.1 hy with h | h
            · exact HLB.out y h
            · rw [List.mem_singleton] at h
              subst h
              refine ⟨hvn, fun z hz => ?_⟩
              obtain ⟨z0, hz0, rfl⟩ := List.mem_map.1 hz
              have h0 := HVO.out z0 hz0
              exact ⟨h0.key, i64_bck HPL.out _, h0.ag⟩
          have HL2 : Hid ((L ++ [(⟨A, v.n, c, v.l.map (mvCl (bck pl.l))⟩ : Row Cl)]).map Row.l = (n.ls.l.take (k + 1)).map (fun v => v.l.map (mvCl (bck pl.l)))) := by show _ = _; rw [List.map_append, HL.out, take_snoc' HVK.out, List.map_append]; rfl
          clear HLB HL
          rw [← HAL.out]
          go_roundg (n.ls.n - (k + 1))
          case rel => exact ⟨k + 1, B2, e2, L ++ [(⟨A, v.n, c, v.l.map (mvCl (bck pl.l))⟩ : Row Cl)], rfl, by omega, by go_num, by show _ = _; rw [List.length_append, hLk.out]; rfl, by rw [List.map_append]; exact H, HL2, HLB2⟩
          case measure => rw [Hgk.out]; omega
    · obtain rfl : k = n.ls.n := by omega
      have HF : Hid (L.map Row.l = n.ls.l.map (fun v => v.l.map (mvCl (bck pl.l)))) := by show _ = _; rw [HL.out, List.take_of_length_le (by rw [hll.out]; exact Nat.le_refl _)]
      go_wp2_with (first | ((with_reducible show wpList _ _ _ (⟨some 61, _, _, _, _, _⟩ :: _) _ _); (refine wpList_load_blk rfl rowNd (.tmp 7) rfl _ rfl (H.out.blk 3 rfl) rfl ?_)) | ((with_reducible show wpList _ _ _ (⟨_, .store _ (.tmp 6) _, _, _, _, _⟩ :: _) _ _); (refine wpList_store_blk rfl rowNd (.tmp 6) (.tmp 61) rfl _ rfl (H.out.blk 2 rfl) rfl ((Nd.mk n.dim ⟨B, n.ls.n, d, L⟩ (Cl.mk 0 (bck pl.l n.all.ch) .zero)).cs) rfl rfl (nd_one _) ?_; intro wq bq hgq; replace H := Lib.hid (H.out.setBlk 2 rfl hgq bq); (try simp only [List.set_cons_zero, List.set_cons_succ, List.cons_append, List.nil_append, List.eraseIdx_cons_zero, List.eraseIdx_cons_succ, List.setIfInBounds_toArray, World.size_alloc, selR, List.getD_cons_zero, List.getD_cons_succ] at H); clear hgq bq)))
      refine bodyPost_ret (results_blk1 rfl rowNd rfl (H.out.blk 2 rfl) rfl) rfl ?_
      replace H := Lib.hid (H.out.mkNd 4 5 (n := Nd.mk n.dim ⟨B, n.ls.n, d, L⟩ (Cl.mk 0 (bck pl.l n.all.ch) .zero)) (by omega) rfl rfl ⟨HDM.out, z_i64, i64_bck HPL.out _, ag_zero_ok⟩ HLB.out hb1); (try simp only [List.set_cons_zero, List.set_cons_succ, List.cons_append, List.nil_append, List.eraseIdx_cons_zero, List.eraseIdx_cons_succ, List.setIfInBounds_toArray, World.size_alloc, selR, List.getD_cons_zero, List.getD_cons_succ] at H)
      refine ⟨Nd.mk n.dim ⟨B, n.ls.n, d, L⟩ (Cl.mk 0 (bck pl.l n.all.ch) .zero), rfl, ?_, rfl, fun y hy => (HLB.out y hy).1, H.out.to, H.out.get 4 rfl, H.out.new 4 rfl⟩
      rw [HMV.out]
      show NC.mk n.dim (L.map Row.l) _ = _
      rw [HF.out]

end Go.Proofs.Ytlclllkjnhgbjaa
