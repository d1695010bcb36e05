/- arena.New. -/
import Derived.Test.YtlclllkjnhgbjaaAreA
import Derived.Test.YtlclllkjnhgbjaaBs
import Derived.Test.YtlclllkjnhgbjaaAskR
import Derived.Test.YtlclllkjnhgbjaaBb
namespace Go.Proofs.Ytlclllkjnhgbjaa
open Go.RowKit
set_option linter.unusedVariables false
set_option linter.unusedSimpArgs false

theorem wpList_build2N {ops : Array Oper} {rest : List Oper} {o : Oper} {a : Act} {w : World} {Q : Exit → Act → World → Prop} (hgd : o.guard = none) {t : TypeId} (x y : Operand) {i j : Nat} (ho : o.op = .build t #[(i, x), (j, y)])
    {vx vy v : Value} (hx : a.eval x = vx) (hy : a.eval y = vy) (hr : ∀ w : World, (Instr.build t #[(i, vx), (j, vy)]).run Try.prog w = .ok v w)
    (h : wpList Try.prog ops Q rest (a.put o.dst v) w) : wpList Try.prog ops Q (o :: rest) a w := by
  refine wpList_plain hgd fun K hK => ?_
  unfold Oper.wp execOp
  simp only [ho, List.map_toArray, List.map_cons, List.map_nil, hx, hy, Sem.run_bind, hr, Result.andThen_ok, Sem.run_pure]
  exact hK _ _ h

theorem E_intssA : ElemInfo Try.prog 22 59 1 24 := ElemInfo.mk' (z := .slice none 0 0) Try.underlying22 (by kernel_rfl) rfl (by omega)
theorem own_emptyI (w : World) (e : TypeId) (size : Nat) : (w.alloc (.cells #[] e)).ownsRow w.heap.size e size (.slice (some ⟨w.heap.size, 0, none⟩) 0 0) 0 [] :=
  World.ownsRow_made w #[] 0 (Nat.le_refl _) (by unfold maxLen; omega) (by simp)
set_option maxRecDepth 100000 in
set_option maxHeartbeats 1000000 in
theorem iclone_any (x : Row Int) (w : World) (hx : x.rd w) (hn : x.n ≤ 1000000) :
    Calls Try.prog 87 #[.slice x.A x.n x.c] w fun e w' => ∃ (A : Option Addr) (c : Nat), e = .returned (.slice A x.n c) ∧ Bel w w' ∧ w'.ownsRow w.heap.size 3 1 (.slice A x.n c) x.n (x.l.map (Value.int .i64)) := by
  have hr : Rd w 1 x.A x.n (x.l.map (Value.int .i64)) := hx.ints
  have hlen : Hid (x.l.length = x.n) := hx.len
  obtain ⟨A, n, c, l⟩ := x
  simp only at *
  clear hx
  cases A with
  | none =>
    obtain rfl : n = 0 := by
      rcases Nat.eq_zero_or_pos n with h | h
      · exact h
      · obtain ⟨ad, e, _⟩ := hr.2 (by omega); cases e
    have hl : l = [] := List.eq_nil_of_length_eq_zero hlen.out
    subst hl
    have he := fun (c : Nat) (w : World) => Lib.run_eql_slice_nil (P := Try.prog) w 59 3 none 0 c 0 0 Try.underlying59
    go_enter Try.func87, Try.ntmps87
    go_wp2
    go_ret
    exact ⟨none, 0, rfl, Bel.refl _, World.ownsRow_nil _ _ _ _⟩
  | some ad =>
    have he := fun (n c : Nat) (w : World) => Lib.run_eql_slice_nil (P := Try.prog) w 59 3 (some ad) n c 0 0 Try.underlying59
    have HRR := Lib.hid (fun w' (hb : Bel w w') => hr.bel hb)
    have H := Lib.hid ((SL.start No w).addRow ((Bel.refl _).alloc _) (own_emptyI w 3 1))
    (try simp only [List.set_cons_zero, List.set_cons_succ, List.cons_append, List.nil_append, List.eraseIdx_cons_zero, List.eraseIdx_cons_succ, List.setIfInBounds_toArray, World.size_alloc, selR, List.getD_cons_zero, List.getD_cons_succ] at H)
    go_enter Try.func87, Try.ntmps87
    go_wp2_with ((with_reducible show wpList _ _ _ (⟨some 7, _, _, _, _, _⟩ :: _) _ _); (refine wpList_append0 rfl (.tmp 5) (.tmp 6) _ rfl E_num 0 (Nat.zero_le _) _ 0 _ rfl (H.out.row 0 rfl) (some ad) n c (l.map (Value.int .i64)) rfl (HRR.out _ H.out.to) (by simp [Value.oneCell']) (by unfold maxLen; omega) (by omega) ?_; intro vq wq howq hgq hatq; replace H := Lib.hid (H.out.setRow 0 rfl hgq howq hatq); (try simp only [List.set_cons_zero, List.set_cons_succ, List.cons_append, List.nil_append, List.eraseIdx_cons_zero, List.eraseIdx_cons_succ, List.setIfInBounds_toArray, World.size_alloc, selR, List.getD_cons_zero, List.getD_cons_succ] at H); clear howq hgq hatq; obtain ⟨A2, c2, rfl, _⟩ := own_slice (H.out.row 0 rfl); simp only [Nat.zero_add, List.nil_append] at H ⊢))
    go_ret
    exact ⟨A2, c2, rfl, H.out.to, H.out.rowB 0 rfl⟩
/-- A row of numbers of the call's own. -/
abbrev rIs (x : Row Int) : Res := rRow 3 1 (.slice x.A x.n x.c) x.n (x.l.map (Value.int .i64))
theorem tier_le {l : List Int} (h : tierShape l = true) : l.length ≤ 4 := by simp only [tierShape, Bool.and_eq_true, decide_eq_true_eq] at h; omega
theorem shape_le {xs : List (List Int)} {ms : Int} (h : shapeOk xs ms = true) : (1 ≤ xs.length ∧ xs.length ≤ 16) ∧ (1 ≤ ms ∧ ms ≤ 3) ∧ ∀ l ∈ xs, l.length ≤ 4 := by
  simp only [shapeOk, Bool.and_eq_true, decide_eq_true_eq] at h
  exact ⟨h.1.1.1, ⟨h.1.1.2, h.1.2⟩, fun l hl => tier_le (List.all_eq_true.1 h.2 l hl)⟩
def NewPost (s : Shp) (most : Int) (w : World) (e : Ending) (w' : World) : Prop :=
  if shapeOk s.con s.ms = true ∧ 0 ≤ most ∧ most ≤ 131072 then ∃ (b : Nat) (A : Option Addr) (c : Nat) (L : List (Row Int)), e = .returned (.tuple #[.pointer (some ⟨b, 0, none⟩), .int .i64 0]) ∧ L.map Row.l = s.con ∧ L.length = s.sz.n ∧ SL No w w' [rBlk b 117 #[.slice A s.sz.n c, .int .i64 s.ms, .slice none 0 0, .int .i64 most], rRow 59 1 (.slice A s.sz.n c) s.sz.n (L.map Row.v), rListD rIs L]
  else e = .returned (.tuple #[.pointer none, .int .i64 2]) ∧ Bel w w'
set_option maxRecDepth 100000 in
set_option maxHeartbeats 4000000 in
theorem anew_any (s : Shp) (most : Int) (w : World) (hs : s.rd w) (hm : I64 most) :
    Calls Try.prog 50 #[.agg s.cs, .int .i64 most] w (NewPost s most w) := by
  have HM := Lib.hid (fun w' (hb : Bel w w') => amay_any s w' (hs.mono hb))
  have HSZ := Lib.hid (fun w' (hb : Bel w w') => hs.sz.mono hb)
  have hl1 : Hid (s.sz.l.length = s.sz.n) := hs.sz.len
  have H := Lib.hid ((SL.start No w).alloc s.cs 24)
  (try simp only [List.set_cons_zero, List.set_cons_succ, List.cons_append, List.nil_append, List.eraseIdx_cons_zero, List.eraseIdx_cons_succ, List.setIfInBounds_toArray, World.size_alloc, selR, List.getD_cons_zero, List.getD_cons_succ] at H)
  unfold I64 at hm
  have hcs : s.cs = #[.slice s.sz.A s.sz.n s.sz.c, .int .i64 s.ms] := rfl
  have HCS := Lib.hid hcs
  clear hcs hs
  go_enter Try.func50, Try.ntmps50
  (try rw [← HCS.out] at *)
  go_wp2_with ((with_reducible show wpList _ _ _ (⟨some 9, _, _, _, _, _⟩ :: _) _ _); (refine wpList_load_blk rfl rowShp2 (.tmp 2) rfl _ rfl (H.out.blk 0 rfl) rfl ?_))
  refine (HM.out _ H.out.to).mono ?_; rintro e w1 ⟨rfl, hb1⟩
  replace H := Lib.hid (H.out.bel hb1); (try simp only [List.set_cons_zero, List.set_cons_succ, List.cons_append, List.nil_append, List.eraseIdx_cons_zero, List.eraseIdx_cons_succ, List.setIfInBounds_toArray, World.size_alloc, selR, List.getD_cons_zero, List.getD_cons_succ] at H)
  clear hb1 HM
  generalize w.heap.size = x at *
  cases hok : shapeOk s.con s.ms with
  | false =>
    have HP : Hid (∀ e w', e = .returned (.tuple #[.pointer none, .int .i64 2]) → Bel w w' → NewPost s most w e w') := fun e w' he hb => by unfold NewPost; rw [if_neg (by rw [hok]; simp)]; exact ⟨he, hb⟩
    clear hok
    go_wp2_with fail
    refine bodyPost_ret (v := .tuple #[.pointer none, .int .i64 2]) (by kernel_rfl) rfl ?_
    exact HP.out _ _ rfl H.out.to
  | true =>
    have hle := shape_le hok
    by_cases g1 : most < 0
    · have HP : Hid (∀ e w', e = .returned (.tuple #[.pointer none, .int .i64 2]) → Bel w w' → NewPost s most w e w') := fun e w' he hb => by unfold NewPost; rw [if_neg (by omega)]; exact ⟨he, hb⟩
      have d1 : decide (most < 0) = true := by simp <;> omega
      clear hok g1 hle
      go_wp2_with fail
      refine bodyPost_ret (v := .tuple #[.pointer none, .int .i64 2]) (by kernel_rfl) rfl ?_
      exact HP.out _ _ rfl H.out.to
    have d1 : decide (most < 0) = false := by simp <;> omega
    by_cases g2 : 131072 < most
    · have HP : Hid (∀ e w', e = .returned (.tuple #[.pointer none, .int .i64 2]) → Bel w w' → NewPost s most w e w') := fun e w' he hb => by unfold NewPost; rw [if_neg (by omega)]; exact ⟨he, hb⟩
      have d2 : decide (131072 < most) = true := by simp <;> omega
      clear hok g1 g2 hle
      go_wp2_with fail
      refine bodyPost_ret (v := .tuple #[.pointer none, .int .i64 2]) (by kernel_rfl) rfl ?_
      exact HP.out _ _ rfl H.out.to
    have d2 : decide (131072 < most) = false := by simp <;> omega
    have HPost : Hid (∀ b A c L w', L.map Row.l = s.con → L.length = s.sz.n → SL No w w' [rBlk b 117 #[.slice A s.sz.n c, .int .i64 s.ms, .slice none 0 0, .int .i64 most], rRow 59 1 (.slice A s.sz.n c) s.sz.n (L.map Row.v), rListD rIs L] → NewPost s most w (.returned (.tuple #[.pointer (some ⟨b, 0, none⟩), .int .i64 0])) w') := fun b A c L w' h1 h2 h3 => by unfold NewPost; rw [if_pos ⟨hok, by omega, by omega⟩]; exact ⟨b, A, c, L, rfl, h1, h2, h3⟩
    have hn16 : s.sz.n ≤ 16 := by have h := hle.1.2; rw [List.length_map, hl1.out] at h; exact h
    have HV4 : Hid (∀ v ∈ s.sz.l, v.l.length ≤ 4) := fun v hv => hle.2.2 _ (List.mem_map.2 ⟨v, hv, rfl⟩)
    clear hle hok g1 g2
    have cm : w1.cell? ⟨x, 1, none⟩ = some (.int .i64 s.ms) := (H.out.blk 0 rfl).cell 1
    go_upto_region 4 with (first | ((with_reducible show wpList _ _ _ (⟨some 22, _, _, _, _, _⟩ :: _) _ _); refine wpList_build1 (vx := .int .i64 s.ms) (v := .agg #[.slice none 0 0, .int .i64 s.ms]) rfl (.tmp 21) rfl rfl (by intro w; kernel_rfl) ?_) | ((with_reducible show wpList _ _ _ (⟨_, .store _ (.tmp 6) _, _, _, _, _⟩ :: _) _ _); (refine wpList_store_new rfl rowShp2 (.tmp 6) (.tmp 22) rfl rfl rfl (#[.slice none 0 0, .int .i64 s.ms]) rfl rfl (by simp [Value.oneCell']) ?_; replace H := Lib.hid (H.out.alloc (#[.slice none 0 0, .int .i64 s.ms]) 24); (try simp only [List.set_cons_zero, List.set_cons_succ, List.cons_append, List.nil_append, List.eraseIdx_cons_zero, List.eraseIdx_cons_succ, List.setIfInBounds_toArray, World.size_alloc, selR, List.getD_cons_zero, List.getD_cons_succ] at H))))
    (try simp only [Act.put, List.setIfInBounds_toArray, List.set_cons_zero, List.set_cons_succ])
    clear cm d1 d2
    generalize w1.heap.size = z at *
    generalize World.alloc w1 _ = w2 at *
    replace H := Lib.hid (H.out.addNil 59 1); (try simp only [List.set_cons_zero, List.set_cons_succ, List.cons_append, List.nil_append, List.eraseIdx_cons_zero, List.eraseIdx_cons_succ, List.setIfInBounds_toArray, World.size_alloc, selR, List.getD_cons_zero, List.getD_cons_succ] at H)
    replace H := Lib.hid (H.out.add (Bel.refl _) (rListD rIs []) (holds_listD_nil _ _) listD_nil_D); (try simp only [List.set_cons_zero, List.set_cons_succ, List.cons_append, List.nil_append, List.eraseIdx_cons_zero, List.eraseIdx_cons_succ, List.setIfInBounds_toArray, World.size_alloc, selR, List.getD_cons_zero, List.getD_cons_succ] at H)
    have cl : w2.cell? ⟨x, 0, none⟩ = some (.slice s.sz.A s.sz.n s.sz.c) := (H.out.blk 0 rfl).cell 0
    have HL : Hid (([] : List (Row Int)).map Row.l = (s.sz.l.map Row.l).take 0) := rfl
    have hL0 : Hid (([] : List (Row Int)).length = 0) := rfl
    go_upto_region 5 with fail
    clear cl
    go_loopg [26] s.sz.n (fun gg s26 wr => ∃ (k : Nat) (B : Option Addr) (d : Nat) (L : List (Row Int)), gg = s.sz.n - k ∧ k ≤ s.sz.n ∧ s26 = .int .i64 k ∧ Hid (L.length = k) ∧ Hid (SL No w wr [rBlk x 24 s.cs, rBlk z 24 #[.slice B k d, .int .i64 s.ms], rRow 59 1 (.slice B k d) k (L.map Row.v), rListD rIs L]) ∧ Hid (L.map Row.l = (s.sz.l.map Row.l).take k))
    case atStart => exact ⟨0, none, 0, [], rfl, by omega, rfl, hL0, H, HL⟩
    case round =>
      clear H HL hL0
      obtain ⟨k, B, d, L, hgk, hk, rfl, hLk, H, HL⟩ := hrel
      have Hgk := Lib.hid hgk
      clear hgk
      by_cases hlt : k < s.sz.n
      · obtain ⟨bl, ol, v, hAl, hvk, hvok, hvc⟩ := (HSZ.out _ H.out.to).slAt (k := k) hlt
        have hvm := List.mem_of_getElem? hvk
        have hvn : v.n ≤ 4 := by have h := HV4.out v hvm; rw [hvok.rds.len] at h; exact h
        have HTK := Lib.hid (take_snoc_get (l := s.sz.l.map Row.l) (k := k) (x := v.l) (by rw [List.getElem?_map, hvk]; rfl))
        have HCL := Lib.hid (fun w' (hb : Bel w w') => iclone_any v w' (Row.ok.rds ((HSZ.out w' hb).all v hvm)) (by omega))
        have k0 : (0 : Int) ≤ k := by omega
        have k1 : (k : Int) < s.sz.n := by omega
        have HL2 : Hid (∀ CA cc, (L ++ [Row.mk CA v.n cc v.l]).map Row.l = (s.sz.l.map Row.l).take (k + 1)) := fun CA cc => by rw [HTK.out, List.map_append, HL.out]; rfl
        have HAL := Lib.hid hAl
        rw [hAl]
        clear hvk hvok HTK HL hvm
        go_upto_region 7 with fail
        clear hvc
        refine wp_region_held_drew (S := fun _ => True) (by kernel_rfl) trivial (fun hHeld => ?_)
        replace H := Lib.hid (H.out.drew); (try simp only [List.set_cons_zero, List.set_cons_succ, List.cons_append, List.nil_append, List.eraseIdx_cons_zero, List.eraseIdx_cons_succ, List.setIfInBounds_toArray, World.size_alloc, selR, List.getD_cons_zero, List.getD_cons_succ] at H)
        generalize World.drew _ = w8 at *
        refine wpAnyH_take (i := 0) (v := ?vq7_0) (get_o0) (by kernel_rfl) (by kernel_rfl) (by kernel_rfl) (by exact fun _ _ _ h => h) (Or.inl ⟨by rfl, ?hyq7_0⟩) (by assumption) ?_
        case hyq7_0 => (intro w hSw; (try dsimp only at hSw); go_simp) <;> with_reducible rfl
        try simp only [Act.put, List.setIfInBounds_toArray, List.set_cons_zero, List.set_cons_succ]
        refine wpAnyH_take (i := 2) (v := ?vq7_2) (get_os (get_os (get_o0))) (by kernel_rfl) (by kernel_rfl) (by kernel_rfl) (by exact fun _ _ _ h => h) (Or.inl ⟨by rfl, ?hyq7_2⟩) (by assumption) ?_
        case hyq7_2 => (intro w hSw; (try dsimp only at hSw); go_simp) <;> with_reducible rfl
        try simp only [Act.put, List.setIfInBounds_toArray, List.set_cons_zero, List.set_cons_succ]
        refine wpAnyH_ready (rs := [1, 3]) (by kernel_rfl) (by simp) ?_
        refine (AllReadyH.cons (get_os (get_o0)) (fun KK hKK => ?_) (AllReadyH.cons (get_os (get_os (get_os (get_o0)))) (fun KK hKK => ?_) AllReadyH.nil))
        · have ca1 := (H.out.blk 1 rfl).cell 0; simp only [List.getElem?_toArray, List.getElem?_cons_zero, List.getElem?_cons_succ] at ca1
          go_simp
          clear ca1
          refine hKK.out _ _ trivial (fun hHeld => ?_)
          clear hKK KK
          try simp only [Act.put, List.setIfInBounds_toArray, List.set_cons_zero, List.set_cons_succ]
          refine wpAnyH_ready (rs := [3]) (by kernel_rfl) (by simp) ?_
          refine (AllReadyH.cons (get_os (get_os (get_os (get_o0)))) (fun KK hKK => ?_) AllReadyH.nil)
          go_simp
          refine (HCL.out _ H.out.to).mono ?_; rintro e' w9 ⟨CA, cc, rfl, hb9, ho9⟩
          replace H := Lib.hid (H.out.addRow hb9 ho9); (try simp only [List.set_cons_zero, List.set_cons_succ, List.cons_append, List.nil_append, List.eraseIdx_cons_zero, List.eraseIdx_cons_succ, List.setIfInBounds_toArray, World.size_alloc, selR, List.getD_cons_zero, List.getD_cons_succ] at H)
          clear hb9 ho9
          refine hKK.out _ _ trivial (fun hHeld => ?_)
          clear hKK KK
          try simp only [Act.put, List.setIfInBounds_toArray, List.set_cons_zero, List.set_cons_succ]
          refine wpAnyH_ready (rs := [4]) (by kernel_rfl) (by simp) ?_
          refine (AllReadyH.cons (get_os (get_os (get_os (get_os (get_o0))))) (fun KK hKK => ?_) AllReadyH.nil)
          refine step_buildSlice1v rfl E_intssA (.tmp 33) rfl (.slice CA v.n cc) rfl #[.slice CA v.n cc] rfl rfl (by omega) ?_
          replace H := Lib.hid (H.out.alloc #[.slice CA v.n cc] 59); (try simp only [List.set_cons_zero, List.set_cons_succ, List.cons_append, List.nil_append, List.eraseIdx_cons_zero, List.eraseIdx_cons_succ, List.setIfInBounds_toArray, World.size_alloc, selR, List.getD_cons_zero, List.getD_cons_succ] at H)
          refine hKK.out _ _ trivial (fun hHeld => ?_)
          clear hKK KK
          try simp only [Act.put, List.setIfInBounds_toArray, List.set_cons_zero, List.set_cons_succ]
          refine wpAnyH_ready (rs := [5]) (by kernel_rfl) (by simp) ?_
          refine (AllReadyH.cons (get_os (get_os (get_os (get_os (get_os (get_o0)))))) (fun KK hKK => ?_) AllReadyH.nil)
          refine step_append0 rfl (.tmp 31) (.tmp 34) _ rfl E_intssA 0 (Nat.zero_le _) _ k _ rfl (H.out.row 2 rfl) _ 1 1 [.slice CA v.n cc] rfl (reads_of_block (H.out.blk 5 rfl) rfl) (by simp [Value.oneCell']) (by unfold maxLen; omega) (by omega) ?_
          intro vq wq howq hgq hatq
          replace H := Lib.hid (H.out.setRow 2 rfl hgq howq hatq); (try simp only [List.set_cons_zero, List.set_cons_succ, List.cons_append, List.nil_append, List.eraseIdx_cons_zero, List.eraseIdx_cons_succ, List.setIfInBounds_toArray, World.size_alloc, selR, List.getD_cons_zero, List.getD_cons_succ] at H)
          clear howq hgq hatq
          obtain ⟨A2, c2, rfl, _⟩ := own_slice (H.out.row 2 rfl)
          refine hKK.out _ _ trivial (fun hHeld => ?_)
          clear hKK KK
          try simp only [Act.put, List.setIfInBounds_toArray, List.set_cons_zero, List.set_cons_succ]
          refine wpAnyH_take (i := 6) (v := ?vq8_) (get_os (get_os (get_os (get_os (get_os (get_os (get_o0))))))) (by kernel_rfl) (by kernel_rfl) (by kernel_rfl) (by exact fun _ _ _ h => h) (Or.inl ⟨by rfl, ?hyq8_⟩) (by assumption) ?_
          case hyq8_ => (intro w hSw; (try dsimp only at hSw); go_simp) <;> with_reducible rfl
          try simp only [Act.put, List.setIfInBounds_toArray, List.set_cons_zero, List.set_cons_succ]
          refine wpAnyH_ready (rs := [7]) (by kernel_rfl) (by simp) ?_
          refine (AllReadyH.cons (get_os (get_os (get_os (get_os (get_os (get_os (get_os (get_o0)))))))) (fun KK hKK => ?_) AllReadyH.nil)
          have ca7 := (H.out.blk 1 rfl).cell 0; simp only [List.getElem?_toArray, List.getElem?_cons_zero, List.getElem?_cons_succ] at ca7; have fa7 := (H.out.blk 1 rfl).frozen 0
          go_simp
          replace H := Lib.hid (H.out.setCell 1 rfl 0 (.slice A2 (k + 1) c2)); (try simp only [List.set_cons_zero, List.set_cons_succ, List.cons_append, List.nil_append, List.eraseIdx_cons_zero, List.eraseIdx_cons_succ, List.setIfInBounds_toArray, World.size_alloc, selR, List.getD_cons_zero, List.getD_cons_succ] at H)
          clear ca7 fa7
          refine hKK.out _ _ trivial (fun hHeld => ?_)
          clear hKK KK
          try simp only [Act.put, List.setIfInBounds_toArray, List.set_cons_zero, List.set_cons_succ]
          refine wpAnyH_done (by kernel_rfl) ?_ _
          clear hHeld
          replace H := Lib.hid (H.out.snocD 3 4 (a := ⟨CA, v.n, cc, v.l⟩) (by omega) rfl rfl); (try simp only [List.set_cons_zero, List.set_cons_succ, List.cons_append, List.nil_append, List.eraseIdx_cons_zero, List.eraseIdx_cons_succ, List.setIfInBounds_toArray, World.size_alloc, selR, List.getD_cons_zero, List.getD_cons_succ] at H)
          replace H := Lib.hid (H.out.sel [0, 1, 2, 3] (by decide) (by simp)); (try simp only [List.set_cons_zero, List.set_cons_succ, List.cons_append, List.nil_append, List.eraseIdx_cons_zero, List.eraseIdx_cons_succ, List.setIfInBounds_toArray, World.size_alloc, selR, List.getD_cons_zero, List.getD_cons_succ] at H)
          clear HCL
          go_wp2_with fail
          rw [← HAL.out]
          go_roundg (s.sz.n - (k + 1))
          case rel => exact ⟨k + 1, A2, c2, L ++ [⟨CA, v.n, cc, v.l⟩], rfl, by omega, by go_num, by show _ = _; rw [List.length_append, hLk.out]; rfl, by rw [List.map_append]; exact H, Lib.hid (HL2.out CA cc)⟩
          case measure => rw [Hgk.out]; omega
        · go_simp
          refine (HCL.out _ H.out.to).mono ?_; rintro e' w9 ⟨CA, cc, rfl, hb9, ho9⟩
          replace H := Lib.hid (H.out.addRow hb9 ho9); (try simp only [List.set_cons_zero, List.set_cons_succ, List.cons_append, List.nil_append, List.eraseIdx_cons_zero, List.eraseIdx_cons_succ, List.setIfInBounds_toArray, World.size_alloc, selR, List.getD_cons_zero, List.getD_cons_succ] at H)
          clear hb9 ho9
          refine hKK.out _ _ trivial (fun hHeld => ?_)
          clear hKK KK
          try simp only [Act.put, List.setIfInBounds_toArray, List.set_cons_zero, List.set_cons_succ]
          refine wpAnyH_ready (rs := [1, 4]) (by kernel_rfl) (by simp) ?_
          refine (AllReadyH.cons (get_os (get_o0)) (fun KK hKK => ?_) (AllReadyH.cons (get_os (get_os (get_os (get_os (get_o0))))) (fun KK hKK => ?_) AllReadyH.nil))
          · have ca1 := (H.out.blk 1 rfl).cell 0; simp only [List.getElem?_toArray, List.getElem?_cons_zero, List.getElem?_cons_succ] at ca1
            go_simp
            clear ca1
            refine hKK.out _ _ trivial (fun hHeld => ?_)
            clear hKK KK
            try simp only [Act.put, List.setIfInBounds_toArray, List.set_cons_zero, List.set_cons_succ]
            refine wpAnyH_ready (rs := [4]) (by kernel_rfl) (by simp) ?_
            refine (AllReadyH.cons (get_os (get_os (get_os (get_os (get_o0))))) (fun KK hKK => ?_) AllReadyH.nil)
            refine step_buildSlice1v rfl E_intssA (.tmp 33) rfl (.slice CA v.n cc) rfl #[.slice CA v.n cc] rfl rfl (by omega) ?_
            replace H := Lib.hid (H.out.alloc #[.slice CA v.n cc] 59); (try simp only [List.set_cons_zero, List.set_cons_succ, List.cons_append, List.nil_append, List.eraseIdx_cons_zero, List.eraseIdx_cons_succ, List.setIfInBounds_toArray, World.size_alloc, selR, List.getD_cons_zero, List.getD_cons_succ] at H)
            refine hKK.out _ _ trivial (fun hHeld => ?_)
            clear hKK KK
            try simp only [Act.put, List.setIfInBounds_toArray, List.set_cons_zero, List.set_cons_succ]
            refine wpAnyH_ready (rs := [5]) (by kernel_rfl) (by simp) ?_
            refine (AllReadyH.cons (get_os (get_os (get_os (get_os (get_os (get_o0)))))) (fun KK hKK => ?_) AllReadyH.nil)
            refine step_append0 rfl (.tmp 31) (.tmp 34) _ rfl E_intssA 0 (Nat.zero_le _) _ k _ rfl (H.out.row 2 rfl) _ 1 1 [.slice CA v.n cc] rfl (reads_of_block (H.out.blk 5 rfl) rfl) (by simp [Value.oneCell']) (by unfold maxLen; omega) (by omega) ?_
            intro vq wq howq hgq hatq
            replace H := Lib.hid (H.out.setRow 2 rfl hgq howq hatq); (try simp only [List.set_cons_zero, List.set_cons_succ, List.cons_append, List.nil_append, List.eraseIdx_cons_zero, List.eraseIdx_cons_succ, List.setIfInBounds_toArray, World.size_alloc, selR, List.getD_cons_zero, List.getD_cons_succ] at H)
            clear howq hgq hatq
            obtain ⟨A2, c2, rfl, _⟩ := own_slice (H.out.row 2 rfl)
            refine hKK.out _ _ trivial (fun hHeld => ?_)
            clear hKK KK
            try simp only [Act.put, List.setIfInBounds_toArray, List.set_cons_zero, List.set_cons_succ]
            refine wpAnyH_take (i := 6) (v := ?vq9_) (get_os (get_os (get_os (get_os (get_os (get_os (get_o0))))))) (by kernel_rfl) (by kernel_rfl) (by kernel_rfl) (by exact fun _ _ _ h => h) (Or.inl ⟨by rfl, ?hyq9_⟩) (by assumption) ?_
            case hyq9_ => (intro w hSw; (try dsimp only at hSw); go_simp) <;> with_reducible rfl
            try simp only [Act.put, List.setIfInBounds_toArray, List.set_cons_zero, List.set_cons_succ]
            refine wpAnyH_ready (rs := [7]) (by kernel_rfl) (by simp) ?_
            refine (AllReadyH.cons (get_os (get_os (get_os (get_os (get_os (get_os (get_os (get_o0)))))))) (fun KK hKK => ?_) AllReadyH.nil)
            have ca7 := (H.out.blk 1 rfl).cell 0; simp only [List.getElem?_toArray, List.getElem?_cons_zero, List.getElem?_cons_succ] at ca7; have fa7 := (H.out.blk 1 rfl).frozen 0
            go_simp
            replace H := Lib.hid (H.out.setCell 1 rfl 0 (.slice A2 (k + 1) c2)); (try simp only [List.set_cons_zero, List.set_cons_succ, List.cons_append, List.nil_append, List.eraseIdx_cons_zero, List.eraseIdx_cons_succ, List.setIfInBounds_toArray, World.size_alloc, selR, List.getD_cons_zero, List.getD_cons_succ] at H)
            clear ca7 fa7
            refine hKK.out _ _ trivial (fun hHeld => ?_)
            clear hKK KK
            try simp only [Act.put, List.setIfInBounds_toArray, List.set_cons_zero, List.set_cons_succ]
            refine wpAnyH_done (by kernel_rfl) ?_ _
            clear hHeld
            replace H := Lib.hid (H.out.snocD 3 4 (a := ⟨CA, v.n, cc, v.l⟩) (by omega) rfl rfl); (try simp only [List.set_cons_zero, List.set_cons_succ, List.cons_append, List.nil_append, List.eraseIdx_cons_zero, List.eraseIdx_cons_succ, List.setIfInBounds_toArray, World.size_alloc, selR, List.getD_cons_zero, List.getD_cons_succ] at H)
            replace H := Lib.hid (H.out.sel [0, 1, 2, 3] (by decide) (by simp)); (try simp only [List.set_cons_zero, List.set_cons_succ, List.cons_append, List.nil_append, List.eraseIdx_cons_zero, List.eraseIdx_cons_succ, List.setIfInBounds_toArray, World.size_alloc, selR, List.getD_cons_zero, List.getD_cons_succ] at H)
            clear HCL
            go_wp2_with fail
            rw [← HAL.out]
            go_roundg (s.sz.n - (k + 1))
            case rel => exact ⟨k + 1, A2, c2, L ++ [⟨CA, v.n, cc, v.l⟩], rfl, by omega, by go_num, by show _ = _; rw [List.length_append, hLk.out]; rfl, by rw [List.map_append]; exact H, Lib.hid (HL2.out CA cc)⟩
            case measure => rw [Hgk.out]; omega
          · refine step_buildSlice1v rfl E_intssA (.tmp 33) rfl (.slice CA v.n cc) rfl #[.slice CA v.n cc] rfl rfl (by omega) ?_
            replace H := Lib.hid (H.out.alloc #[.slice CA v.n cc] 59); (try simp only [List.set_cons_zero, List.set_cons_succ, List.cons_append, List.nil_append, List.eraseIdx_cons_zero, List.eraseIdx_cons_succ, List.setIfInBounds_toArray, World.size_alloc, selR, List.getD_cons_zero, List.getD_cons_succ] at H)
            refine hKK.out _ _ trivial (fun hHeld => ?_)
            clear hKK KK
            try simp only [Act.put, List.setIfInBounds_toArray, List.set_cons_zero, List.set_cons_succ]
            refine wpAnyH_ready (rs := [1]) (by kernel_rfl) (by simp) ?_
            refine (AllReadyH.cons (get_os (get_o0)) (fun KK hKK => ?_) AllReadyH.nil)
            have ca1 := (H.out.blk 1 rfl).cell 0; simp only [List.getElem?_toArray, List.getElem?_cons_zero, List.getElem?_cons_succ] at ca1
            go_simp
            clear ca1
            refine hKK.out _ _ trivial (fun hHeld => ?_)
            clear hKK KK
            try simp only [Act.put, List.setIfInBounds_toArray, List.set_cons_zero, List.set_cons_succ]
            refine wpAnyH_ready (rs := [5]) (by kernel_rfl) (by simp) ?_
            refine (AllReadyH.cons (get_os (get_os (get_os (get_os (get_os (get_o0)))))) (fun KK hKK => ?_) AllReadyH.nil)
            refine step_append0 rfl (.tmp 31) (.tmp 34) _ rfl E_intssA 0 (Nat.zero_le _) _ k _ rfl (H.out.row 2 rfl) _ 1 1 [.slice CA v.n cc] rfl (reads_of_block (H.out.blk 5 rfl) rfl) (by simp [Value.oneCell']) (by unfold maxLen; omega) (by omega) ?_
            intro vq wq howq hgq hatq
            replace H := Lib.hid (H.out.setRow 2 rfl hgq howq hatq); (try simp only [List.set_cons_zero, List.set_cons_succ, List.cons_append, List.nil_append, List.eraseIdx_cons_zero, List.eraseIdx_cons_succ, List.setIfInBounds_toArray, World.size_alloc, selR, List.getD_cons_zero, List.getD_cons_succ] at H)
            clear howq hgq hatq
            obtain ⟨A2, c2, rfl, _⟩ := own_slice (H.out.row 2 rfl)
            refine hKK.out _ _ trivial (fun hHeld => ?_)
            clear hKK KK
            try simp only [Act.put, List.setIfInBounds_toArray, List.set_cons_zero, List.set_cons_succ]
            refine wpAnyH_take (i := 6) (v := ?vq10_) (get_os (get_os (get_os (get_os (get_os (get_os (get_o0))))))) (by kernel_rfl) (by kernel_rfl) (by kernel_rfl) (by exact fun _ _ _ h => h) (Or.inl ⟨by rfl, ?hyq10_⟩) (by assumption) ?_
            case hyq10_ => (intro w hSw; (try dsimp only at hSw); go_simp) <;> with_reducible rfl
            try simp only [Act.put, List.setIfInBounds_toArray, List.set_cons_zero, List.set_cons_succ]
            refine wpAnyH_ready (rs := [7]) (by kernel_rfl) (by simp) ?_
            refine (AllReadyH.cons (get_os (get_os (get_os (get_os (get_os (get_os (get_os (get_o0)))))))) (fun KK hKK => ?_) AllReadyH.nil)
            have ca7 := (H.out.blk 1 rfl).cell 0; simp only [List.getElem?_toArray, List.getElem?_cons_zero, List.getElem?_cons_succ] at ca7; have fa7 := (H.out.blk 1 rfl).frozen 0
            go_simp
            replace H := Lib.hid (H.out.setCell 1 rfl 0 (.slice A2 (k + 1) c2)); (try simp only [List.set_cons_zero, List.set_cons_succ, List.cons_append, List.nil_append, List.eraseIdx_cons_zero, List.eraseIdx_cons_succ, List.setIfInBounds_toArray, World.size_alloc, selR, List.getD_cons_zero, List.getD_cons_succ] at H)
            clear ca7 fa7
            refine hKK.out _ _ trivial (fun hHeld => ?_)
            clear hKK KK
            try simp only [Act.put, List.setIfInBounds_toArray, List.set_cons_zero, List.set_cons_succ]
            refine wpAnyH_done (by kernel_rfl) ?_ _
            clear hHeld
            replace H := Lib.hid (H.out.snocD 3 4 (a := ⟨CA, v.n, cc, v.l⟩) (by omega) rfl rfl); (try simp only [List.set_cons_zero, List.set_cons_succ, List.cons_append, List.nil_append, List.eraseIdx_cons_zero, List.eraseIdx_cons_succ, List.setIfInBounds_toArray, World.size_alloc, selR, List.getD_cons_zero, List.getD_cons_succ] at H)
            replace H := Lib.hid (H.out.sel [0, 1, 2, 3] (by decide) (by simp)); (try simp only [List.set_cons_zero, List.set_cons_succ, List.cons_append, List.nil_append, List.eraseIdx_cons_zero, List.eraseIdx_cons_succ, List.setIfInBounds_toArray, World.size_alloc, selR, List.getD_cons_zero, List.getD_cons_succ] at H)
            clear HCL
            go_wp2_with fail
            rw [← HAL.out]
            go_roundg (s.sz.n - (k + 1))
            case rel => exact ⟨k + 1, A2, c2, L ++ [⟨CA, v.n, cc, v.l⟩], rfl, by omega, by go_num, by show _ = _; rw [List.length_append, hLk.out]; rfl, by rw [List.map_append]; exact H, Lib.hid (HL2.out CA cc)⟩
            case measure => rw [Hgk.out]; omega
      · obtain rfl : k = s.sz.n := by omega
        have HF : Hid (L.map Row.l = s.con) := by
          show _ = _
          rw [HL.out, List.take_of_length_le (by rw [List.length_map, hl1.out]; exact Nat.le_refl _)]
        have hbd : ∀ w : World, (Instr.build 117 #[(0, .agg #[.slice B s.sz.n d, .int .i64 s.ms]), (2, .int .i64 most)]).run Try.prog w = .ok (.agg #[.slice B s.sz.n d, .int .i64 s.ms, .slice none 0 0, .int .i64 most]) w := fun _ => by kernel_rfl
        go_wp2_with (first | ((with_reducible show wpList _ _ _ (⟨some 38, _, _, _, _, _⟩ :: _) _ _); (refine wpList_load_blk rfl rowShp2 (.tmp 6) rfl _ rfl (H.out.blk 1 rfl) rfl ?_)) | ((with_reducible show wpList _ _ _ (⟨some 40, _, _, _, _, _⟩ :: _) _ _); refine wpList_build2N rfl (.tmp 38) (.tmp 39) rfl rfl rfl hbd ?_))
        refine bodyPost_ret (v := .tuple #[.pointer (some ⟨wr.heap.size, 0, none⟩), .int .i64 0]) (by kernel_rfl) rfl ?_
        replace H := Lib.hid (H.out.alloc #[.slice B s.sz.n d, .int .i64 s.ms, .slice none 0 0, .int .i64 most] 117); (try simp only [List.set_cons_zero, List.set_cons_succ, List.cons_append, List.nil_append, List.eraseIdx_cons_zero, List.eraseIdx_cons_succ, List.setIfInBounds_toArray, World.size_alloc, selR, List.getD_cons_zero, List.getD_cons_succ] at H)
        replace H := Lib.hid (H.out.sel [4, 2, 3] (by decide) (by simp)); (try simp only [List.set_cons_zero, List.set_cons_succ, List.cons_append, List.nil_append, List.eraseIdx_cons_zero, List.eraseIdx_cons_succ, List.setIfInBounds_toArray, World.size_alloc, selR, List.getD_cons_zero, List.getD_cons_succ] at H)
        exact HPost.out _ _ _ _ _ HF.out hLk.out H.out

end Go.Proofs.Ytlclllkjnhgbjaa
