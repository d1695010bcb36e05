/- The heap of runs: Swap, Push. -/
import Derived.Test.YtnekknemjhlgdaaKmA
namespace Go.Proofs.Ytnekknemjhlgdaa
open Go.RowKit
set_option linter.unusedVariables false
set_option linter.unusedSimpArgs false


section
variable {P : Program} {w : World}
theorem step_loadK {ops : Array Oper} {o : Oper} {a : Act} {K : Act → World → Prop} {Q : Exit → Act → World → Prop} {X : Prop} (hgd : o.guard = none) {ty : TypeId} {n : Nat} (R : RowTy P ty n) (x : Operand) (ho : o.op = .load ty x)
    (b off : Nat) (hx : a.eval x = .pointer (some ⟨b, off, none⟩)) (cs : Array Value) (hr : w.rangeAt b off cs.toList) (hn : cs.size = n)
    (h : K (a.put o.dst (.agg cs)) w) : if Region.wanted o (yielded ops a.tmps) = true then Oper.wp P o a w K Q else X := by
  have hw : Region.wanted o (yielded ops a.tmps) = true := by simp [Region.wanted, hgd]
  rw [if_pos hw]
  obtain ⟨d, hu, hd⟩ := R.hu
  exact wp_load_mid ty x ho b off hx cs.toList d hr hu hd (by rw [R.hi]; simp [hn]) (by simpa using h)
theorem step_store_own {α : Type} [Cel α] {base : Nat} {e : TypeId} {g n c : Nat} {l : List α} {ops : Array Oper} {o : Oper} {a : Act} {K : Act → World → Prop} {Q : Exit → Act → World → Prop} {X : Prop} (hgd : o.guard = none) {ty : TypeId} {size : Nat} (R : RowTy P ty size) (x y : Operand) (ho : o.op = .store ty x y) (hsz : size = Cel.size α)
    (k : Nat) (hx : a.eval x = .pointer (some ⟨g, k * Cel.size α, none⟩)) (h : w.ownsRow base e (Cel.size α) (.slice (some ⟨g, 0, none⟩) n c) n (l.flatMap Cel.cells)) (hk : k < n) (f : α) (cs : Array Value) (hcs : cs.toList = Cel.cells f) (hy : a.eval y = .agg cs) (h1 : cs.all (·.oneCell') = true)
    (hn : ∀ w', w'.ownsRow base e (Cel.size α) (.slice (some ⟨g, 0, none⟩) n c) n ((l.set k f).flatMap Cel.cells) → w.grownBy w' (some g) → K (a.put o.dst undef) w') : if Region.wanted o (yielded ops a.tmps) = true then Oper.wp P o a w K Q else X := by
  have hw : Region.wanted o (yielded ops a.tmps) = true := by simp [Region.wanted, hgd]
  have hss : cs.size = Cel.size α := by have := congrArg List.length hcs; rw [Array.length_toList, Cel.len] at this; exact this
  rw [if_pos hw]
  refine wp_store_mid ty x y ho g (k * Cel.size α) cs hx hy (by rw [hss]; exact own_there h hk) (by rw [R.hi, hss, hsz]) h1 ?_
  rw [hcs]
  exact hn _ (own_setRow h hk f) (setCells_grown w g _ _)
end
set_option maxRecDepth 100000 in
set_option maxHeartbeats 2000000 in
theorem hswap_any (w0 w : World) (g : Nat) (A : Option Addr) (n c i k : Nat) (L : List HdR) (rest : List Res) (x y : HdR) (h : SL No w0 w (rHeap g A n c L rest)) (hn : n ≤ 1000000) (ha : L[i]? = some x) (hb : L[k]? = some y) :
    Calls Try.prog 260 #[.slice A n c, .int .i64 i, .int .i64 k] w fun e w' => e = .returned (.tuple #[]) ∧ SL No w0 w' (rHeap g A n c ((L.set i y).set k x) rest) := by
  have hl : L.length = n := rd_len (Rd.of_own (h.row 1 rfl))
  have hi := (List.getElem?_eq_some_iff.1 ha).1
  have hk := (List.getElem?_eq_some_iff.1 hb).1
  obtain ⟨b, rfl⟩ := own_blk0 (h.row 1 rfl) (by omega)
  have H := Lib.hid h
  clear h
  have i0 : (0 : Int) ≤ i := by omega
  have i1 : (i : Int) < n := by omega
  have k0 : (0 : Int) ≤ k := by omega
  have k1 : (k : Int) < n := by omega
  go_enter Try.func260, Try.ntmps260
  go_upto_region 0 with fail
  refine wp_region_held_drew (S := fun _ => True) (by kernel_rfl) trivial (fun hHeld => ?_)
  replace H := Lib.hid (H.out.drew); (try simp only [List.set_cons_zero, List.set_cons_succ, List.cons_append, List.nil_append, List.eraseIdx_cons_zero, List.eraseIdx_cons_succ, List.setIfInBounds_toArray, World.size_alloc, selR, List.getD_cons_zero, List.getD_cons_succ] at H)
  refine wpAnyH_take (i := 0) (v := ?vq1_0) (get_o0) (by kernel_rfl) (by kernel_rfl) (by kernel_rfl) (by exact fun _ _ _ h => h) (Or.inl ⟨by rfl, ?hyq1_0⟩) (by assumption) ?_
  case hyq1_0 => (intro w hSw; (try dsimp only at hSw); go_simp) <;> with_reducible rfl
  try simp only [Act.put, List.setIfInBounds_toArray, List.set_cons_zero, List.set_cons_succ]
  refine wpAnyH_take (i := 1) (v := ?vq1_1) (get_os (get_o0)) (by kernel_rfl) (by kernel_rfl) (by kernel_rfl) (by exact fun _ _ _ h => h) (Or.inl ⟨by rfl, ?hyq1_1⟩) (by assumption) ?_
  case hyq1_1 => (intro w hSw; (try dsimp only at hSw); go_simp) <;> with_reducible rfl
  try simp only [Act.put, List.setIfInBounds_toArray, List.set_cons_zero, List.set_cons_succ]
  refine wpAnyH_take (i := 2) (v := ?vq1_2) (get_os (get_os (get_o0))) (by kernel_rfl) (by kernel_rfl) (by kernel_rfl) (by exact fun _ _ _ h => h) (Or.inl ⟨by rfl, ?hyq1_2⟩) (by assumption) ?_
  case hyq1_2 => (intro w hSw; (try dsimp only at hSw); go_simp) <;> with_reducible rfl
  try simp only [Act.put, List.setIfInBounds_toArray, List.set_cons_zero, List.set_cons_succ]
  refine wpAnyH_take (i := 3) (v := ?vq1_3) (get_os (get_os (get_os (get_o0)))) (by kernel_rfl) (by kernel_rfl) (by kernel_rfl) (by exact fun _ _ _ h => h) (Or.inl ⟨by rfl, ?hyq1_3⟩) (by assumption) ?_
  case hyq1_3 => (intro w hSw; (try dsimp only at hSw); go_simp) <;> with_reducible rfl
  try simp only [Act.put, List.setIfInBounds_toArray, List.set_cons_zero, List.set_cons_succ]
  refine wpAnyH_take (i := 4) (v := ?vq1_4) (get_os (get_os (get_os (get_os (get_o0))))) (by kernel_rfl) (by kernel_rfl) (by kernel_rfl) (by exact fun _ _ _ h => h) (Or.inl ⟨by rfl, ?hyq1_4⟩) (by assumption) ?_
  case hyq1_4 => (intro w hSw; (try dsimp only at hSw); go_simp) <;> with_reducible rfl
  try simp only [Act.put, List.setIfInBounds_toArray, List.set_cons_zero, List.set_cons_succ]
  refine wpAnyH_take (i := 5) (v := ?vq1_5) (get_os (get_os (get_os (get_os (get_os (get_o0)))))) (by kernel_rfl) (by kernel_rfl) (by kernel_rfl) (by exact fun _ _ _ h => h) (Or.inl ⟨by rfl, ?hyq1_5⟩) (by assumption) ?_
  case hyq1_5 => (intro w hSw; (try dsimp only at hSw); go_simp) <;> with_reducible rfl
  try simp only [Act.put, List.setIfInBounds_toArray, List.set_cons_zero, List.set_cons_succ]
  refine wpAnyH_take (i := 6) (v := ?vq1_6) (get_os (get_os (get_os (get_os (get_os (get_os (get_o0))))))) (by kernel_rfl) (by kernel_rfl) (by kernel_rfl) (by exact fun _ _ _ h => h) (Or.inl ⟨by rfl, ?hyq1_6⟩) (by assumption) ?_
  case hyq1_6 => (intro w hSw; (try dsimp only at hSw); go_simp) <;> with_reducible rfl
  try simp only [Act.put, List.setIfInBounds_toArray, List.set_cons_zero, List.set_cons_succ]
  refine wpAnyH_take (i := 8) (v := ?vq1_8) (get_os (get_os (get_os (get_os (get_os (get_os (get_os (get_os (get_o0))))))))) (by kernel_rfl) (by kernel_rfl) (by kernel_rfl) (by exact fun _ _ _ h => h) (Or.inl ⟨by rfl, ?hyq1_8⟩) (by assumption) ?_
  case hyq1_8 => (intro w hSw; (try dsimp only at hSw); go_simp) <;> with_reducible rfl
  try simp only [Act.put, List.setIfInBounds_toArray, List.set_cons_zero, List.set_cons_succ]
  refine wpAnyH_take (i := 9) (v := ?vq1_9) (get_os (get_os (get_os (get_os (get_os (get_os (get_os (get_os (get_os (get_o0)))))))))) (by kernel_rfl) (by kernel_rfl) (by kernel_rfl) (by exact fun _ _ _ h => h) (Or.inl ⟨by rfl, ?hyq1_9⟩) (by assumption) ?_
  case hyq1_9 => (intro w hSw; (try dsimp only at hSw); go_simp) <;> with_reducible rfl
  try simp only [Act.put, List.setIfInBounds_toArray, List.set_cons_zero, List.set_cons_succ]
  refine wpAnyH_take (i := 10) (v := ?vq1_10) (get_ot (get_o0)) (by kernel_rfl) (by kernel_rfl) (by kernel_rfl) (by exact fun _ _ _ h => h) (Or.inl ⟨by rfl, ?hyq1_10⟩) (by assumption) ?_
  case hyq1_10 => (intro w hSw; (try dsimp only at hSw); go_simp) <;> with_reducible rfl
  try simp only [Act.put, List.setIfInBounds_toArray, List.set_cons_zero, List.set_cons_succ]
  refine wpAnyH_ready (rs := [7, 11]) (by kernel_rfl) (by simp) ?_
  refine (AllReadyH.cons (get_os (get_os (get_os (get_os (get_os (get_os (get_os (get_o0)))))))) (fun KK hKK => ?_) (AllReadyH.cons (get_ot (get_os (get_o0))) (fun KK hKK => ?_) AllReadyH.nil))
  · refine step_loadK rfl rowHdR (.tmp 12) (by first | rfl | go_simp) b (k * 2) (by first | rfl | go_simp) y.cs (own_range (H.out.row 1 rfl) (by assumption)).1 rfl ?_
    refine hKK.out _ _ trivial (fun hHeld => ?_)
    clear hKK KK
    try simp only [Act.put, List.setIfInBounds_toArray, List.set_cons_zero, List.set_cons_succ]
    refine wpAnyH_ready (rs := [11]) (by kernel_rfl) (by simp) ?_
    refine (AllReadyH.cons (get_ot (get_os (get_o0))) (fun KK hKK => ?_) AllReadyH.nil)
    refine step_loadK rfl rowHdR (.tmp 16) (by first | rfl | go_simp) b (i * 2) (by first | rfl | go_simp) x.cs (own_range (H.out.row 1 rfl) (by assumption)).1 rfl ?_
    refine hKK.out _ _ trivial (fun hHeld => ?_)
    clear hKK KK
    try simp only [Act.put, List.setIfInBounds_toArray, List.set_cons_zero, List.set_cons_succ]
    refine wpAnyH_ready (rs := [12]) (by kernel_rfl) (by simp) ?_
    refine (AllReadyH.cons (get_ot (get_os (get_os (get_o0)))) (fun KK hKK => ?_) AllReadyH.nil)
    go_simp
    refine hKK.out _ _ trivial (fun hHeld => ?_)
    clear hKK KK
    try simp only [Act.put, List.setIfInBounds_toArray, List.set_cons_zero, List.set_cons_succ]
    refine wpAnyH_ready (rs := [13]) (by kernel_rfl) (by simp) ?_
    refine (AllReadyH.cons (get_ot (get_os (get_os (get_os (get_o0))))) (fun KK hKK => ?_) AllReadyH.nil)
    refine step_store_own rfl rowHdR (.tmp 18) (.tmp 13) rfl rfl i (by first | rfl | go_simp) (H.out.row 1 rfl) (by omega) y y.cs rfl (by first | rfl | go_simp) (hdr_one _) ?_
    intro wq howq hgq
    replace H := Lib.hid (H.out.setRow 1 rfl hgq howq (.inl rfl)); (try simp only [List.set_cons_zero, List.set_cons_succ, List.cons_append, List.nil_append, List.eraseIdx_cons_zero, List.eraseIdx_cons_succ, List.setIfInBounds_toArray, World.size_alloc, selR, List.getD_cons_zero, List.getD_cons_succ] at H)
    clear howq hgq
    refine hKK.out _ _ trivial (fun hHeld => ?_)
    clear hKK KK
    try simp only [Act.put, List.setIfInBounds_toArray, List.set_cons_zero, List.set_cons_succ]
    refine wpAnyH_ready (rs := [14]) (by kernel_rfl) (by simp) ?_
    refine (AllReadyH.cons (get_ot (get_os (get_os (get_os (get_os (get_o0)))))) (fun KK hKK => ?_) AllReadyH.nil)
    go_simp
    refine hKK.out _ _ trivial (fun hHeld => ?_)
    clear hKK KK
    try simp only [Act.put, List.setIfInBounds_toArray, List.set_cons_zero, List.set_cons_succ]
    refine wpAnyH_ready (rs := [15]) (by kernel_rfl) (by simp) ?_
    refine (AllReadyH.cons (get_ot (get_os (get_os (get_os (get_os (get_os (get_o0))))))) (fun KK hKK => ?_) AllReadyH.nil)
    refine step_store_own rfl rowHdR (.tmp 19) (.tmp 17) rfl rfl k (by first | rfl | go_simp) (H.out.row 1 rfl) (by omega) x x.cs rfl (by first | rfl | go_simp) (hdr_one _) ?_
    intro wq howq hgq
    replace H := Lib.hid (H.out.setRow 1 rfl hgq howq (.inl rfl)); (try simp only [List.set_cons_zero, List.set_cons_succ, List.cons_append, List.nil_append, List.eraseIdx_cons_zero, List.eraseIdx_cons_succ, List.setIfInBounds_toArray, World.size_alloc, selR, List.getD_cons_zero, List.getD_cons_succ] at H)
    clear howq hgq
    refine hKK.out _ _ trivial (fun hHeld => ?_)
    clear hKK KK
    try simp only [Act.put, List.setIfInBounds_toArray, List.set_cons_zero, List.set_cons_succ]
    refine wpAnyH_done (by kernel_rfl) ?_ _
    clear hHeld
    go_wp2
    go_returns
    exact ⟨rfl, H.out⟩
  · refine step_loadK rfl rowHdR (.tmp 16) (by first | rfl | go_simp) b (i * 2) (by first | rfl | go_simp) x.cs (own_range (H.out.row 1 rfl) (by assumption)).1 rfl ?_
    refine hKK.out _ _ trivial (fun hHeld => ?_)
    clear hKK KK
    try simp only [Act.put, List.setIfInBounds_toArray, List.set_cons_zero, List.set_cons_succ]
    refine wpAnyH_ready (rs := [7]) (by kernel_rfl) (by simp) ?_
    refine (AllReadyH.cons (get_os (get_os (get_os (get_os (get_os (get_os (get_os (get_o0)))))))) (fun KK hKK => ?_) AllReadyH.nil)
    refine step_loadK rfl rowHdR (.tmp 12) (by first | rfl | go_simp) b (k * 2) (by first | rfl | go_simp) y.cs (own_range (H.out.row 1 rfl) (by assumption)).1 rfl ?_
    refine hKK.out _ _ trivial (fun hHeld => ?_)
    clear hKK KK
    try simp only [Act.put, List.setIfInBounds_toArray, List.set_cons_zero, List.set_cons_succ]
    refine wpAnyH_ready (rs := [12]) (by kernel_rfl) (by simp) ?_
    refine (AllReadyH.cons (get_ot (get_os (get_os (get_o0)))) (fun KK hKK => ?_) AllReadyH.nil)
    go_simp
    refine hKK.out _ _ trivial (fun hHeld => ?_)
    clear hKK KK
    try simp only [Act.put, List.setIfInBounds_toArray, List.set_cons_zero, List.set_cons_succ]
    refine wpAnyH_ready (rs := [13]) (by kernel_rfl) (by simp) ?_
    refine (AllReadyH.cons (get_ot (get_os (get_os (get_os (get_o0))))) (fun KK hKK => ?_) AllReadyH.nil)
    refine step_store_own rfl rowHdR (.tmp 18) (.tmp 13) rfl rfl i (by first | rfl | go_simp) (H.out.row 1 rfl) (by omega) y y.cs rfl (by first | rfl | go_simp) (hdr_one _) ?_
    intro wq howq hgq
    replace H := Lib.hid (H.out.setRow 1 rfl hgq howq (.inl rfl)); (try simp only [List.set_cons_zero, List.set_cons_succ, List.cons_append, List.nil_append, List.eraseIdx_cons_zero, List.eraseIdx_cons_succ, List.setIfInBounds_toArray, World.size_alloc, selR, List.getD_cons_zero, List.getD_cons_succ] at H)
    clear howq hgq
    refine hKK.out _ _ trivial (fun hHeld => ?_)
    clear hKK KK
    try simp only [Act.put, List.setIfInBounds_toArray, List.set_cons_zero, List.set_cons_succ]
    refine wpAnyH_ready (rs := [14]) (by kernel_rfl) (by simp) ?_
    refine (AllReadyH.cons (get_ot (get_os (get_os (get_os (get_os (get_o0)))))) (fun KK hKK => ?_) AllReadyH.nil)
    go_simp
    refine hKK.out _ _ trivial (fun hHeld => ?_)
    clear hKK KK
    try simp only [Act.put, List.setIfInBounds_toArray, List.set_cons_zero, List.set_cons_succ]
    refine wpAnyH_ready (rs := [15]) (by kernel_rfl) (by simp) ?_
    refine (AllReadyH.cons (get_ot (get_os (get_os (get_os (get_os (get_os (get_o0))))))) (fun KK hKK => ?_) AllReadyH.nil)
    refine step_store_own rfl rowHdR (.tmp 19) (.tmp 17) rfl rfl k (by first | rfl | go_simp) (H.out.row 1 rfl) (by omega) x x.cs rfl (by first | rfl | go_simp) (hdr_one _) ?_
    intro wq howq hgq
    replace H := Lib.hid (H.out.setRow 1 rfl hgq howq (.inl rfl)); (try simp only [List.set_cons_zero, List.set_cons_succ, List.cons_append, List.nil_append, List.eraseIdx_cons_zero, List.eraseIdx_cons_succ, List.setIfInBounds_toArray, World.size_alloc, selR, List.getD_cons_zero, List.getD_cons_succ] at H)
    clear howq hgq
    refine hKK.out _ _ trivial (fun hHeld => ?_)
    clear hKK KK
    try simp only [Act.put, List.setIfInBounds_toArray, List.set_cons_zero, List.set_cons_succ]
    refine wpAnyH_done (by kernel_rfl) ?_ _
    clear hHeld
    go_wp2
    go_returns
    exact ⟨rfl, H.out⟩


set_option maxRecDepth 100000 in
theorem assert_head (v : Value) (w : World) : (Instr.typeAssert (.iface 188 v) 20 188 true).run Try.prog w = .ok (.tuple #[v, .bool true]) w := by kernel_rfl
set_option maxRecDepth 100000 in
set_option maxHeartbeats 2000000 in
theorem hpush_any (w0 w : World) (g : Nat) (A : Option Addr) (n c : Nat) (L : List HdR) (rest : List Res) (h : HdR) (hh : SL No w0 w (rHeap g A n c L rest)) (hn : n ≤ 1000000) :
    Calls Try.prog 259 #[.pointer (some ⟨g, 0, none⟩), .iface 188 (.agg h.cs)] w fun e w' => e = .returned (.tuple #[]) ∧ ∃ (A' : Option Addr) (c' : Nat), SL No w0 w' (rHeap g A' (n + 1) c' (L ++ [h]) rest) := by
  have H := Lib.hid hh
  clear hh
  go_enter Try.func259, Try.ntmps259
  have hta : ∀ w, (Instr.typeAssert (.iface 188 (.agg h.cs)) 20 188 true).run Try.prog w = .ok (.tuple #[.agg h.cs, .bool true]) w := fun w => assert_head _ w
  go_upto_region 1 with ((with_reducible show wpList _ _ _ (⟨_, .store _ (.tmp 4) _, _, _, _, _⟩ :: _) _ _); refine wpList_store_new rfl rowHdR (.tmp 4) (.tmp 9) rfl rfl rfl h.cs rfl rfl (hdr_one _) ?_; replace H := Lib.hid ((H.out.alloc h.cs 188).rot); (try simp only [List.set_cons_zero, List.set_cons_succ, List.cons_append, List.nil_append, List.eraseIdx_cons_zero, List.eraseIdx_cons_succ, List.setIfInBounds_toArray, World.size_alloc, selR, List.getD_cons_zero, List.getD_cons_succ] at H))
  (try simp only [Act.put, List.setIfInBounds_toArray, List.set_cons_zero, List.set_cons_succ])
  generalize w.heap.size = x at *
  generalize World.alloc _ _ = w1 at *
  refine wp_region_held_drew (S := fun _ => True) (by kernel_rfl) trivial (fun hHeld => ?_)
  replace H := Lib.hid (H.out.drew); (try simp only [List.set_cons_zero, List.set_cons_succ, List.cons_append, List.nil_append, List.eraseIdx_cons_zero, List.eraseIdx_cons_succ, List.setIfInBounds_toArray, World.size_alloc, selR, List.getD_cons_zero, List.getD_cons_succ] at H)
  refine wpAnyH_take (i := 0) (v := ?vq2_0) (get_o0) (by kernel_rfl) (by kernel_rfl) (by kernel_rfl) (by exact fun _ _ _ h => h) (Or.inl ⟨by rfl, ?hyq2_0⟩) (by assumption) ?_
  case hyq2_0 => (intro w hSw; (try dsimp only at hSw); go_simp) <;> with_reducible rfl
  try simp only [Act.put, List.setIfInBounds_toArray, List.set_cons_zero, List.set_cons_succ]
  refine wpAnyH_take (i := 1) (v := ?vq2_1) (get_os (get_o0)) (by kernel_rfl) (by kernel_rfl) (by kernel_rfl) (by exact fun _ _ _ h => h) (Or.inl ⟨by rfl, ?hyq2_1⟩) (by assumption) ?_
  case hyq2_1 => (intro w hSw; (try dsimp only at hSw); go_simp) <;> with_reducible rfl
  try simp only [Act.put, List.setIfInBounds_toArray, List.set_cons_zero, List.set_cons_succ]
  refine wpAnyH_take (i := 2) (v := ?vq2_2) (get_os (get_os (get_o0))) (by kernel_rfl) (by kernel_rfl) (by kernel_rfl) (by exact fun _ _ _ h => h) (Or.inl ⟨by rfl, ?hyq2_2⟩) (by assumption) ?_
  case hyq2_2 => (intro w hSw; (try dsimp only at hSw); go_simp) <;> with_reducible rfl
  try simp only [Act.put, List.setIfInBounds_toArray, List.set_cons_zero, List.set_cons_succ]
  refine wpAnyH_ready (rs := [3, 4]) (by kernel_rfl) (by simp) ?_
  refine (AllReadyH.cons (get_os (get_os (get_os (get_o0)))) (fun KK hKK => ?_) (AllReadyH.cons (get_os (get_os (get_os (get_os (get_o0))))) (fun KK hKK => ?_) AllReadyH.nil))
  · have c3 := (H.out.blk 1 rfl).cell 0; simp only [List.getElem?_toArray, List.getElem?_cons_zero, List.getElem?_cons_succ] at c3
    go_simp
    clear c3
    refine hKK.out _ _ trivial (fun hHeld => ?_)
    clear hKK KK
    try simp only [Act.put, List.setIfInBounds_toArray, List.set_cons_zero, List.set_cons_succ]
    refine wpAnyH_ready (rs := [4]) (by kernel_rfl) (by simp) ?_
    refine (AllReadyH.cons (get_os (get_os (get_os (get_os (get_o0))))) (fun KK hKK => ?_) AllReadyH.nil)
    refine step_loadK rfl rowHdR (.tmp 4) (by first | rfl | go_simp) _ 0 (by first | rfl | go_simp) h.cs (H.out.blk 0 rfl).range rfl ?_
    refine hKK.out _ _ trivial (fun hHeld => ?_)
    clear hKK KK
    try simp only [Act.put, List.setIfInBounds_toArray, List.set_cons_zero, List.set_cons_succ]
    refine wpAnyH_ready (rs := [5]) (by kernel_rfl) (by simp) ?_
    refine (AllReadyH.cons (get_os (get_os (get_os (get_os (get_os (get_o0)))))) (fun KK hKK => ?_) AllReadyH.nil)
    refine step_buildSlice1 rfl E_hdr (.tmp 15) rfl (h.cs) (by first | rfl | go_simp) rfl (by omega) ?_
    replace H := Lib.hid ((H.out.alloc (h.cs) 188).rot); (try simp only [List.set_cons_zero, List.set_cons_succ, List.cons_append, List.nil_append, List.eraseIdx_cons_zero, List.eraseIdx_cons_succ, List.setIfInBounds_toArray, World.size_alloc, selR, List.getD_cons_zero, List.getD_cons_succ] at H)
    generalize World.alloc _ _ = w2 at *
    refine hKK.out _ _ trivial (fun hHeld => ?_)
    clear hKK KK
    try simp only [Act.put, List.setIfInBounds_toArray, List.set_cons_zero, List.set_cons_succ]
    refine wpAnyH_ready (rs := [6]) (by kernel_rfl) (by simp) ?_
    refine (AllReadyH.cons (get_os (get_os (get_os (get_os (get_os (get_os (get_o0))))))) (fun KK hKK => ?_) AllReadyH.nil)
    refine step_append0 rfl (.tmp 14) (.tmp 16) _ rfl E_hdr 0 (Nat.zero_le _) _ n _ rfl (H.out.row 3 rfl) _ 1 1 h.cs.toList rfl (reads_of_block (H.out.blk 0 rfl) rfl) (fun u hu => Array.all_eq_true_iff_forall_mem.1 (hdr_one h) u (by simpa using hu)) (by unfold maxLen; omega) (by omega) ?_
    intro vq wq howq hgq hatq
    replace H := Lib.hid (H.out.setRow 3 rfl hgq howq hatq); (try simp only [List.set_cons_zero, List.set_cons_succ, List.cons_append, List.nil_append, List.eraseIdx_cons_zero, List.eraseIdx_cons_succ, List.setIfInBounds_toArray, World.size_alloc, selR, List.getD_cons_zero, List.getD_cons_succ] at H)
    clear howq hgq hatq
    obtain ⟨A2, c2, rfl, _⟩ := own_slice (H.out.row 3 rfl)
    refine hKK.out _ _ trivial (fun hHeld => ?_)
    clear hKK KK
    try simp only [Act.put, List.setIfInBounds_toArray, List.set_cons_zero, List.set_cons_succ]
    refine wpAnyH_ready (rs := [7]) (by kernel_rfl) (by simp) ?_
    refine (AllReadyH.cons (get_os (get_os (get_os (get_os (get_os (get_os (get_os (get_o0)))))))) (fun KK hKK => ?_) AllReadyH.nil)
    go_simp
    refine hKK.out _ _ trivial (fun hHeld => ?_)
    clear hKK KK
    try simp only [Act.put, List.setIfInBounds_toArray, List.set_cons_zero, List.set_cons_succ]
    refine wpAnyH_ready (rs := [8]) (by kernel_rfl) (by simp) ?_
    refine (AllReadyH.cons (get_os (get_os (get_os (get_os (get_os (get_os (get_os (get_os (get_o0))))))))) (fun KK hKK => ?_) AllReadyH.nil)
    have c8 := (H.out.blk 2 rfl).cell 0; simp only [List.getElem?_toArray, List.getElem?_cons_zero, List.getElem?_cons_succ] at c8; have f8 := (H.out.blk 2 rfl).frozen 0
    go_simp
    replace H := Lib.hid (H.out.setCell 2 rfl 0 (.slice A2 (n + 1) c2)); (try simp only [List.set_cons_zero, List.set_cons_succ, List.cons_append, List.nil_append, List.eraseIdx_cons_zero, List.eraseIdx_cons_succ, List.setIfInBounds_toArray, World.size_alloc, selR, List.getD_cons_zero, List.getD_cons_succ] at H)
    clear c8 f8
    refine hKK.out _ _ trivial (fun hHeld => ?_)
    clear hKK KK
    try simp only [Act.put, List.setIfInBounds_toArray, List.set_cons_zero, List.set_cons_succ]
    refine wpAnyH_done (by kernel_rfl) ?_ _
    clear hHeld
    go_wp2
    go_returns
    refine ⟨rfl, A2, c2, ?_⟩
    have hf : L.flatMap Cel.cells ++ h.cs.toList = (L ++ [h]).flatMap Cel.cells := by simp [Cel.cells]
    have H2 := H.out.tl.tl
    rw [hf] at H2
    exact H2
  · refine step_loadK rfl rowHdR (.tmp 4) (by first | rfl | go_simp) _ 0 (by first | rfl | go_simp) h.cs (H.out.blk 0 rfl).range rfl ?_
    refine hKK.out _ _ trivial (fun hHeld => ?_)
    clear hKK KK
    try simp only [Act.put, List.setIfInBounds_toArray, List.set_cons_zero, List.set_cons_succ]
    refine wpAnyH_ready (rs := [3, 5]) (by kernel_rfl) (by simp) ?_
    refine (AllReadyH.cons (get_os (get_os (get_os (get_o0)))) (fun KK hKK => ?_) (AllReadyH.cons (get_os (get_os (get_os (get_os (get_os (get_o0)))))) (fun KK hKK => ?_) AllReadyH.nil))
    · have c3 := (H.out.blk 1 rfl).cell 0; simp only [List.getElem?_toArray, List.getElem?_cons_zero, List.getElem?_cons_succ] at c3
      go_simp
      clear c3
      refine hKK.out _ _ trivial (fun hHeld => ?_)
      clear hKK KK
      try simp only [Act.put, List.setIfInBounds_toArray, List.set_cons_zero, List.set_cons_succ]
      refine wpAnyH_ready (rs := [5]) (by kernel_rfl) (by simp) ?_
      refine (AllReadyH.cons (get_os (get_os (get_os (get_os (get_os (get_o0)))))) (fun KK hKK => ?_) AllReadyH.nil)
      refine step_buildSlice1 rfl E_hdr (.tmp 15) rfl (h.cs) (by first | rfl | go_simp) rfl (by omega) ?_
      replace H := Lib.hid ((H.out.alloc (h.cs) 188).rot); (try simp only [List.set_cons_zero, List.set_cons_succ, List.cons_append, List.nil_append, List.eraseIdx_cons_zero, List.eraseIdx_cons_succ, List.setIfInBounds_toArray, World.size_alloc, selR, List.getD_cons_zero, List.getD_cons_succ] at H)
      generalize World.alloc _ _ = w2 at *
      refine hKK.out _ _ trivial (fun hHeld => ?_)
      clear hKK KK
      try simp only [Act.put, List.setIfInBounds_toArray, List.set_cons_zero, List.set_cons_succ]
      refine wpAnyH_ready (rs := [6]) (by kernel_rfl) (by simp) ?_
      refine (AllReadyH.cons (get_os (get_os (get_os (get_os (get_os (get_os (get_o0))))))) (fun KK hKK => ?_) AllReadyH.nil)
      refine step_append0 rfl (.tmp 14) (.tmp 16) _ rfl E_hdr 0 (Nat.zero_le _) _ n _ rfl (H.out.row 3 rfl) _ 1 1 h.cs.toList rfl (reads_of_block (H.out.blk 0 rfl) rfl) (fun u hu => Array.all_eq_true_iff_forall_mem.1 (hdr_one h) u (by simpa using hu)) (by unfold maxLen; omega) (by omega) ?_
      intro vq wq howq hgq hatq
      replace H := Lib.hid (H.out.setRow 3 rfl hgq howq hatq); (try simp only [List.set_cons_zero, List.set_cons_succ, List.cons_append, List.nil_append, List.eraseIdx_cons_zero, List.eraseIdx_cons_succ, List.setIfInBounds_toArray, World.size_alloc, selR, List.getD_cons_zero, List.getD_cons_succ] at H)
      clear howq hgq hatq
      obtain ⟨A2, c2, rfl, _⟩ := own_slice (H.out.row 3 rfl)
      refine hKK.out _ _ trivial (fun hHeld => ?_)
      clear hKK KK
      try simp only [Act.put, List.setIfInBounds_toArray, List.set_cons_zero, List.set_cons_succ]
      refine wpAnyH_ready (rs := [7]) (by kernel_rfl) (by simp) ?_
      refine (AllReadyH.cons (get_os (get_os (get_os (get_os (get_os (get_os (get_os (get_o0)))))))) (fun KK hKK => ?_) AllReadyH.nil)
      go_simp
      refine hKK.out _ _ trivial (fun hHeld => ?_)
      clear hKK KK
      try simp only [Act.put, List.setIfInBounds_toArray, List.set_cons_zero, List.set_cons_succ]
      refine wpAnyH_ready (rs := [8]) (by kernel_rfl) (by simp) ?_
      refine (AllReadyH.cons (get_os (get_os (get_os (get_os (get_os (get_os (get_os (get_os (get_o0))))))))) (fun KK hKK => ?_) AllReadyH.nil)
      have c8 := (H.out.blk 2 rfl).cell 0; simp only [List.getElem?_toArray, List.getElem?_cons_zero, List.getElem?_cons_succ] at c8; have f8 := (H.out.blk 2 rfl).frozen 0
      go_simp
      replace H := Lib.hid (H.out.setCell 2 rfl 0 (.slice A2 (n + 1) c2)); (try simp only [List.set_cons_zero, List.set_cons_succ, List.cons_append, List.nil_append, List.eraseIdx_cons_zero, List.eraseIdx_cons_succ, List.setIfInBounds_toArray, World.size_alloc, selR, List.getD_cons_zero, List.getD_cons_succ] at H)
      clear c8 f8
      refine hKK.out _ _ trivial (fun hHeld => ?_)
      clear hKK KK
      try simp only [Act.put, List.setIfInBounds_toArray, List.set_cons_zero, List.set_cons_succ]
      refine wpAnyH_done (by kernel_rfl) ?_ _
      clear hHeld
      go_wp2
      go_returns
      refine ⟨rfl, A2, c2, ?_⟩
      have hf : L.flatMap Cel.cells ++ h.cs.toList = (L ++ [h]).flatMap Cel.cells := by simp [Cel.cells]
      have H2 := H.out.tl.tl
      rw [hf] at H2
      exact H2
    · refine step_buildSlice1 rfl E_hdr (.tmp 15) rfl (h.cs) (by first | rfl | go_simp) rfl (by omega) ?_
      replace H := Lib.hid ((H.out.alloc (h.cs) 188).rot); (try simp only [List.set_cons_zero, List.set_cons_succ, List.cons_append, List.nil_append, List.eraseIdx_cons_zero, List.eraseIdx_cons_succ, List.setIfInBounds_toArray, World.size_alloc, selR, List.getD_cons_zero, List.getD_cons_succ] at H)
      generalize World.alloc _ _ = w2 at *
      refine hKK.out _ _ trivial (fun hHeld => ?_)
      clear hKK KK
      try simp only [Act.put, List.setIfInBounds_toArray, List.set_cons_zero, List.set_cons_succ]
      refine wpAnyH_ready (rs := [3]) (by kernel_rfl) (by simp) ?_
      refine (AllReadyH.cons (get_os (get_os (get_os (get_o0)))) (fun KK hKK => ?_) AllReadyH.nil)
      have c3 := (H.out.blk 2 rfl).cell 0; simp only [List.getElem?_toArray, List.getElem?_cons_zero, List.getElem?_cons_succ] at c3
      go_simp
      clear c3
      refine hKK.out _ _ trivial (fun hHeld => ?_)
      clear hKK KK
      try simp only [Act.put, List.setIfInBounds_toArray, List.set_cons_zero, List.set_cons_succ]
      refine wpAnyH_ready (rs := [6]) (by kernel_rfl) (by simp) ?_
      refine (AllReadyH.cons (get_os (get_os (get_os (get_os (get_os (get_os (get_o0))))))) (fun KK hKK => ?_) AllReadyH.nil)
      refine step_append0 rfl (.tmp 14) (.tmp 16) _ rfl E_hdr 0 (Nat.zero_le _) _ n _ rfl (H.out.row 3 rfl) _ 1 1 h.cs.toList rfl (reads_of_block (H.out.blk 0 rfl) rfl) (fun u hu => Array.all_eq_true_iff_forall_mem.1 (hdr_one h) u (by simpa using hu)) (by unfold maxLen; omega) (by omega) ?_
      intro vq wq howq hgq hatq
      replace H := Lib.hid (H.out.setRow 3 rfl hgq howq hatq); (try simp only [List.set_cons_zero, List.set_cons_succ, List.cons_append, List.nil_append, List.eraseIdx_cons_zero, List.eraseIdx_cons_succ, List.setIfInBounds_toArray, World.size_alloc, selR, List.getD_cons_zero, List.getD_cons_succ] at H)
      clear howq hgq hatq
      obtain ⟨A2, c2, rfl, _⟩ := own_slice (H.out.row 3 rfl)
      refine hKK.out _ _ trivial (fun hHeld => ?_)
      clear hKK KK
      try simp only [Act.put, List.setIfInBounds_toArray, List.set_cons_zero, List.set_cons_succ]
      refine wpAnyH_ready (rs := [7]) (by kernel_rfl) (by simp) ?_
      refine (AllReadyH.cons (get_os (get_os (get_os (get_os (get_os (get_os (get_os (get_o0)))))))) (fun KK hKK => ?_) AllReadyH.nil)
      go_simp
      refine hKK.out _ _ trivial (fun hHeld => ?_)
      clear hKK KK
      try simp only [Act.put, List.setIfInBounds_toArray, List.set_cons_zero, List.set_cons_succ]
      refine wpAnyH_ready (rs := [8]) (by kernel_rfl) (by simp) ?_
      refine (AllReadyH.cons (get_os (get_os (get_os (get_os (get_os (get_os (get_os (get_os (get_o0))))))))) (fun KK hKK => ?_) AllReadyH.nil)
      have c8 := (H.out.blk 2 rfl).cell 0; simp only [List.getElem?_toArray, List.getElem?_cons_zero, List.getElem?_cons_succ] at c8; have f8 := (H.out.blk 2 rfl).frozen 0
      go_simp
      replace H := Lib.hid (H.out.setCell 2 rfl 0 (.slice A2 (n + 1) c2)); (try simp only [List.set_cons_zero, List.set_cons_succ, List.cons_append, List.nil_append, List.eraseIdx_cons_zero, List.eraseIdx_cons_succ, List.setIfInBounds_toArray, World.size_alloc, selR, List.getD_cons_zero, List.getD_cons_succ] at H)
      clear c8 f8
      refine hKK.out _ _ trivial (fun hHeld => ?_)
      clear hKK KK
      try simp only [Act.put, List.setIfInBounds_toArray, List.set_cons_zero, List.set_cons_succ]
      refine wpAnyH_done (by kernel_rfl) ?_ _
      clear hHeld
      go_wp2
      go_returns
      refine ⟨rfl, A2, c2, ?_⟩
      have hf : L.flatMap Cel.cells ++ h.cs.toList = (L ++ [h]).flatMap Cel.cells := by simp [Cel.cells]
      have H2 := H.out.tl.tl
      rw [hf] at H2
      exact H2


end Go.Proofs.Ytnekknemjhlgdaa
