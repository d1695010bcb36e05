/- stream.Read. -/
import Derived.Test.YtlclllkjnhgbjaaSrdA
import Derived.Test.YtlclllkjnhgbjaaMovC
import Derived.Test.YtlclllkjnhgbjaaBv
import Derived.Test.YtlclllkjnhgbjaaAreS
import Derived.Test.YtlclllkjnhgbjaaAreQ
import Derived.Test.YtlclllkjnhgbjaaBck
namespace Go.Proofs.Ytlclllkjnhgbjaa
open Go.RowKit
set_option linter.unusedVariables false
set_option linter.unusedSimpArgs false


theorem via_key3 {α β γ : Type} {P G : α → β → γ → Prop} {Q : Prop} (h1 : (∀ a b c, P a b c → G a b c) → Q) (h2 : ∀ a b c, P a b c → G a b c) : Q := h1 h2
theorem idxS_le {st : List Int} {k : Nat} (h : st.length = k) (hk : k ≤ 1000000) (c : Int) : idxS st c ≤ 1000000 := by
  unfold idxS
  cases hi : idxF c st 0 with
  | none => show (131072 : Int) ≤ _; omega
  | some i =>
    have h1 := (List.getElem?_eq_some_iff.1 (idxF_some hi).2).1
    show ((i : Nat) : Int) ≤ _
    omega
theorem flat_node {xs : List (List Int)} {ms : Int} {n : NC} (h : nodeErr xs ms n = 0) (hs : shapeOk xs ms = true) : n.ls.flatten.length ≤ 800 := by
  obtain ⟨h1, h2⟩ := node_lists h hs
  have : ∀ (l : List (List Cl)), (∀ y ∈ l, y.length ≤ 200) → l.flatten.length ≤ 200 * l.length := fun l => by
    induction l with
    | nil => intro _; simp
    | cons y l ih =>
      intro hy
      rw [List.flatten_cons, List.length_append, List.length_cons]
      have a := hy y (List.mem_cons_self ..)
      have b := ih fun z hz => hy z (List.mem_cons_of_mem _ hz)
      omega
  have h3 := this n.ls h2
  have h4 : 200 * n.ls.length ≤ 200 * 4 := Nat.mul_le_mul_left _ h1
  omega
theorem addE_addErrS {xs : List (List Int)} {ms most : Int} {z : Arn} {n : Nd} {m : Nat} (h1 : z.shp.con = xs) (h2 : z.ms = ms) (h3 : z.most = most) (h4 : z.nd.n = m) (h5 : xs.length = z.sz.n) {l : List NC} (h6 : l.length = m) (h7 : l = z.nd.l.map Nd.con) : addE (leadsN z.sz.n (z.nd.l.map Nd.con) n.con) z n = addErr xs ms most l n.con := by
  unfold addE addErr
  rw [h1, h2, h3, h4, h5, h6, h7]
/-- What Read answers. -/
def SRPost (s : Shp) (l : List UInt8) (top : Int) (w : World) (e : Ending) (w' : World) : Prop :=
  if shapeOk s.con s.ms = false then e = .returned (.tuple #[.pointer none, .int .i64 2]) ∧ Bel w w'
  else match preadT s.con s.ms l top with
    | none => e = .returned (.tuple #[.pointer none, .int .i64 15]) ∧ Bel w w'
    | some L => ∃ (b : Nat) (z : Arn), e = .returned (.tuple #[.pointer (some ⟨b, 0, none⟩), .int .i64 0]) ∧ (z.ok ∧ z.sz.n = s.sz.n ∧ z.shp.con = s.con ∧ z.ms = s.ms) ∧ z.nd.l.map Nd.con = L ∧ SL No w w' (arP b z)
set_option maxRecDepth 100000 in
set_option maxHeartbeats 4000000 in
theorem sread_any (sh : Shp) (s : List UInt8) (top : Int) (w : World) (hs : sh.rd w) (hsl : s.length ≤ 1000000) (hsm : SmallS sh) (ht : I64 top) :
    Calls Try.prog 30 #[.agg sh.cs, .string ⟨s.toArray⟩, .int .i64 top] w (SRPost sh s top w) := by
  have hmf : ∀ (fn : Fn) (first cap : Array Value) (w : World), (Instr.makeFunc fn first cap).run Try.prog w = .ok (.func fn first cap) w := fun _ _ _ _ => rfl
  have hmm := @run_makeMap Try.prog
  have HSR := Lib.hid (fun w' (hb : Bel w w') => hs.mono hb)
  have HSI : Hid (∀ y ∈ sh.sz.l, ∀ z ∈ y.l, I64 z) := fun y hy => (hs.sz.all y hy).all
  have hxl : sh.con.length = sh.sz.n := by show (sh.sz.l.map Row.l).length = _; rw [List.length_map]; exact hs.sz.len
  have HXL := Lib.hid hxl
  have HSML := Lib.hid hsm
  have HNEW := Lib.hid (fun w' (hb : Bel w w') => anew_any sh 131072 w' (hs.mono hb) (by unfold I64; omega))
  unfold I64 at ht
  have H := Lib.hid ((SL.start No w).alloc sh.cs 24)
  (try simp only [List.set_cons_zero, List.set_cons_succ, List.cons_append, List.nil_append, List.eraseIdx_cons_zero, List.eraseIdx_cons_succ, List.setIfInBounds_toArray, World.size_alloc, selR, List.getD_cons_zero, List.getD_cons_succ] at H)
  have hcs : sh.cs = #[.slice sh.sz.A sh.sz.n sh.sz.c, .int .i64 sh.ms] := rfl
  have HCS := Lib.hid hcs
  clear hcs hs hxl hsm
  go_enter Try.func30, Try.ntmps30
  go_upto_region 1 with fail
  (try rw [← HCS.out] at *)
  generalize w.heap.size = x at *
  generalize World.alloc w _ = w1 at *
  go_wp2_with ((with_reducible show wpList _ _ _ (⟨some 19, _, _, _, _, _⟩ :: _) _ _); (refine wpList_load_blk rfl rowShp2 (.tmp 3) rfl _ rfl (H.out.blk 0 rfl) rfl ?_))
  refine (HNEW.out _ H.out.to).mono ?_; intro e w2 hnew
  clear HNEW
  unfold NewPost at hnew
  cases hok : shapeOk sh.con sh.ms with
  | false =>
    rw [hok, if_neg (by simp)] at hnew
    obtain ⟨rfl, hb2⟩ := hnew
    have HV : Hid (∀ w', Bel w w' → SRPost sh s top w (.returned (.tuple #[.pointer none, .int .i64 2])) w') := fun w' hb => by unfold SRPost; rw [if_pos hok]; exact ⟨rfl, hb⟩
    replace H := Lib.hid (H.out.bel hb2); (try simp only [List.set_cons_zero, List.set_cons_succ, List.cons_append, List.nil_append, List.eraseIdx_cons_zero, List.eraseIdx_cons_succ, List.setIfInBounds_toArray, World.size_alloc, selR, List.getD_cons_zero, List.getD_cons_succ] at H)
    clear hb2 hok
    go_wp2_with fail
    go_ret2
    exact HV.out _ H.out.to
  | true =>
    rw [hok, if_pos ⟨rfl, by omega, by omega⟩] at hnew
    obtain ⟨b, A, c, L, rfl, hLc, hLn, hnew⟩ := hnew
    have HOKS := Lib.hid hok
    have hle := shape_le hok
    have h16 : sh.sz.n ≤ 16 := by have h := hle.1.2; rw [HXL.out] at h; exact h
    have h01 : 1 ≤ sh.sz.n := by have h := hle.1.1; rw [HXL.out] at h; exact h
    have hok0 : Hid (Arn.ok (Arn.mk ⟨A, sh.sz.n, c, L⟩ sh.ms ⟨none, 0, 0, []⟩ 131072)) := by
      refine ⟨by have := hle.2.1; show I64 sh.ms; unfold I64; omega, by show (0 : Int) ≤ 131072; omega, by show (131072 : Int) ≤ 131072; omega, h01, h16, fun y hy => ?_, Nat.zero_le _⟩
      have hm : y.l ∈ sh.con := by rw [← hLc]; exact List.mem_map.2 ⟨y, hy, rfl⟩
      obtain ⟨y', hy', e⟩ := List.mem_map.1 hm
      exact ⟨hle.2.2 _ hm, by rw [← e]; exact HSI.out y' hy'⟩
    replace H := Lib.hid (H.out.join hnew); (try simp only [List.set_cons_zero, List.set_cons_succ, List.cons_append, List.nil_append, List.eraseIdx_cons_zero, List.eraseIdx_cons_succ, List.setIfInBounds_toArray, World.size_alloc, selR, List.getD_cons_zero, List.getD_cons_succ] at H)
    replace H := Lib.hid (H.out.addNil 34 14); (try simp only [List.set_cons_zero, List.set_cons_succ, List.cons_append, List.nil_append, List.eraseIdx_cons_zero, List.eraseIdx_cons_succ, List.setIfInBounds_toArray, World.size_alloc, selR, List.getD_cons_zero, List.getD_cons_succ] at H)
    replace H := Lib.hid (H.out.add (Bel.refl _) (rListD rNd []) (holds_listD_nil _ _) listD_nil_D); (try simp only [List.set_cons_zero, List.set_cons_succ, List.cons_append, List.nil_append, List.eraseIdx_cons_zero, List.eraseIdx_cons_succ, List.setIfInBounds_toArray, World.size_alloc, selR, List.getD_cons_zero, List.getD_cons_succ] at H)
    obtain ⟨x0, hx0⟩ : ∃ x0, x0 = (Arn.mk ⟨A, sh.sz.n, c, L⟩ sh.ms ⟨none, 0, 0, []⟩ 131072) := ⟨_, rfl⟩
    have F0 : Hid (x0.ok ∧ x0.sz.n = sh.sz.n ∧ x0.shp.con = sh.con ∧ x0.ms = sh.ms ∧ x0.most = 131072) := by rw [hx0]; exact ⟨hok0.out, rfl, hLc, rfl, rfl⟩
    have N0 : Hid (x0.nd.n = 0 ∧ x0.nd.l = []) := by rw [hx0]; exact ⟨rfl, rfl⟩
    have H0 : Hid (SL No w w2 ([rBlk x 24 sh.cs] ++ arP b x0)) := by rw [hx0]; exact H.out
    clear H hx0 hnew hLc hLn hle hok0 HSI
    simp only [arP, List.cons_append, List.nil_append] at H0
    have H := H0
    clear H0
    have HNO : Hid (preadT sh.con sh.ms s top = none → ∀ w', Bel w w' → SRPost sh s top w (.returned (.tuple #[.pointer none, .int .i64 15])) w') := fun h w' hb => by unfold SRPost; rw [if_neg (by rw [HOKS.out]; simp), h]; exact ⟨rfl, hb⟩
    have HYES : Hid (∀ L, preadT sh.con sh.ms s top = some L → ∀ (z : Arn) w', (z.ok ∧ z.sz.n = sh.sz.n ∧ z.shp.con = sh.con ∧ z.ms = sh.ms) → z.nd.l.map Nd.con = L → SL No w w' (arP b z) → SRPost sh s top w (.returned (.tuple #[.pointer (some ⟨b, 0, none⟩), .int .i64 0])) w') := fun L h z w' h1 h2 h3 => by unfold SRPost; rw [if_neg (by rw [HOKS.out]; simp), h]; exact ⟨b, z, rfl, h1, h2, h3⟩
    clear hok
    replace H := Lib.hid (H.out.allocMap Try.prog 3 (plainElem (H := Unit) Try.prog 3)); (try simp only [List.set_cons_zero, List.set_cons_succ, List.cons_append, List.nil_append, List.eraseIdx_cons_zero, List.eraseIdx_cons_succ, List.setIfInBounds_toArray, World.size_alloc, selR, List.getD_cons_zero, List.getD_cons_succ] at H)
    replace H := Lib.hid (H.out.alloc #[.map (some w2.heap.size)] 115); (try simp only [List.set_cons_zero, List.set_cons_succ, List.cons_append, List.nil_append, List.eraseIdx_cons_zero, List.eraseIdx_cons_succ, List.setIfInBounds_toArray, World.size_alloc, selR, List.getD_cons_zero, List.getD_cons_succ] at H)
    replace H := Lib.hid (H.out.sel [0, 7, 6, 1, 2, 3, 4, 5] (by decide) (by simp)); (try simp only [List.set_cons_zero, List.set_cons_succ, List.cons_append, List.nil_append, List.eraseIdx_cons_zero, List.eraseIdx_cons_succ, List.setIfInBounds_toArray, World.size_alloc, selR, List.getD_cons_zero, List.getD_cons_succ] at H)
    go_upto_region 6 with fail
    (try simp only [World.size_alloc] at H)
    clear hmm hmf
    generalize w2.heap.size + 1 = g at *
    generalize w2.heap.size = mb at *
    generalize World.alloc (World.alloc w2 _) _ = w3 at *
    have HP0 : Hid (PlD (Maps.setOf one1 []) []) := PlD.nil
    have HR0 : Hid (pread sh.con sh.ms s = rstep sh.con sh.ms ((0 : Nat) : Int) (s.drop 0) [] (x0.nd.l.map Nd.con)) := by rw [N0.out.2]; rfl
    go_upto_region 8 with fail
    go_loopg [12, 13, 15, 16, 17] s.length (fun gg s12 s13 s15 s16 s17 wr => ∃ (p k : Nat) (st : List Int) (D : DataW Unit) (z : Arn), gg = s.length - p ∧ p ≤ s.length ∧ k ≤ p ∧ s12 = .int .i64 (wtop st) ∧ s13 = .int .i64 p ∧ Hid (st.length = k ∧ StOk st p ∧ PlD D st ∧ True) ∧ Hid (z.nd.n = k) ∧ Hid (z.nd.l.length = k) ∧ Hid (z.ok ∧ z.sz.n = sh.sz.n ∧ z.shp.con = sh.con ∧ z.ms = sh.ms ∧ z.most = 131072) ∧ Hid (pread sh.con sh.ms s = rstep sh.con sh.ms (p : Int) (s.drop p) st (z.nd.l.map Nd.con)) ∧ Hid (SL No w wr ([rBlk x 24 sh.cs, rBlk g 115 #[.map (some mb)], rMap Try.prog 3 (plainElem (H := Unit) Try.prog 3) mb k D] ++ arP b z)))
    case atStart => exact ⟨0, 0, [], Maps.setOf one1 [], x0, rfl, by omega, by omega, rfl, rfl, ⟨rfl, StOk.nil, HP0.out, trivial⟩, N0.out.1, by show _ = _; rw [N0.out.2]; rfl, F0, HR0, H⟩
    case round =>
      clear H F0 N0 HP0 HR0
      obtain ⟨p, k, st, D, z, hgp, hp, hkp, rfl, rfl, HST, HZN, HZL, F0, HR, H⟩ := hrel
      have Hgp := Lib.hid hgp
      have hkb : k ≤ 1000000 := by omega
      clear hgp
      simp only [arP, List.cons_append, List.nil_append] at H
      by_cases hlt : p < s.length
      · have hne : s.drop p ≠ [] := fun e => by have := congrArg List.length e; rw [List.length_drop, List.length_nil] at this; omega
        have hex : (⟨s.toArray⟩ : ByteArray).extract p s.length = ⟨(s.drop p).toArray⟩ := by rw [str_extract, List.take_of_length_le (by rw [List.length_drop]; exact Nat.le_refl _)]
        have HTK := Lib.hid (fun w' (hb : Bel w w') => celtake_any sh (s.drop p) w' (HSR.out w' hb) (by rw [List.length_drop]; omega) HSML.out)
        obtain ⟨O, hO⟩ : ∃ O, O = nodeTake sh.con sh.ms (s.drop p) := ⟨_, rfl⟩
        rw [← hO] at HTK
        have HOO := Lib.hid hO
        have d1 : decide ((p : Int) < (s.length : Int)) = true := by simp <;> omega
        have d1n : decide (p < s.length) = true := by simp <;> omega
        have p0 : (0 : Int) ≤ p := by omega
        have p1 : (p : Int) ≤ s.length := by omega
        clear hO
        go_upto_region 9 with fail
        clear d1 d1n
        refine' via_key3 (P := fun (u : Nat) (U : Nd) (wq : World) => U.con = ((O.map Prod.fst).getD .nil) ∧ SL No w wq ([rBlk x 24 sh.cs, rBlk g 115 #[.map (some mb)], rMap Try.prog 3 (plainElem (H := Unit) Try.prog 3) mb k D, rBlk u 34 U.cs, rNd U] ++ arP b z)) (fun key => ?mn) ?tl
        case mn =>
          refine wp_region_held_drew (S := fun W => Blk W x 24 sh.cs) (by kernel_rfl) (H.out.blk 0 rfl) (fun hHeld => ?_)
          replace H := Lib.hid (H.out.drew); (try simp only [List.set_cons_zero, List.set_cons_succ, List.cons_append, List.nil_append, List.eraseIdx_cons_zero, List.eraseIdx_cons_succ, List.setIfInBounds_toArray, World.size_alloc, selR, List.getD_cons_zero, List.getD_cons_succ] at H)
          generalize World.drew _ = w8 at *
          refine wpAnyH_take (i := 0) (v := .agg sh.cs) (get_o0) (by kernel_rfl) (by kernel_rfl) (by kernel_rfl) (by exact fun _ _ _ h => h) (yields_blkS rowShp2 (by rfl) (.tmp 3) rfl _ rfl (fun w h => h) rfl) (by assumption) ?_
          try simp only [Act.put, List.setIfInBounds_toArray, List.set_cons_zero, List.set_cons_succ]
          refine wpAnyH_take (i := 1) (v := ?vq22_1) (get_os (get_o0)) (by kernel_rfl) (by kernel_rfl) (by kernel_rfl) (by exact fun _ _ _ h => h) (Or.inl ⟨by rfl, ?hyq22_1⟩) (by assumption) ?_
          case hyq22_1 => (intro w hSw; (try dsimp only at hSw); go_simp) <;> with_reducible rfl
          try simp only [Act.put, List.setIfInBounds_toArray, List.set_cons_zero, List.set_cons_succ]
          refine wpAnyH_take (i := 2) (v := ?vq22_2) (get_os (get_os (get_o0))) (by kernel_rfl) (by kernel_rfl) (by kernel_rfl) (by exact fun _ _ _ h => h) (Or.inl ⟨by rfl, ?hyq22_2⟩) (by assumption) ?_
          case hyq22_2 => (intro w hSw; (try dsimp only at hSw); go_simp) <;> with_reducible rfl
          try simp only [Act.put, List.setIfInBounds_toArray, List.set_cons_zero, List.set_cons_succ]
          refine wpAnyH_take (i := 3) (v := ?vq22_3) (get_os (get_os (get_os (get_o0)))) (by kernel_rfl) (by kernel_rfl) (by kernel_rfl) (by exact fun _ _ _ h => h) (Or.inl ⟨by rfl, ?hyq22_3⟩) (by assumption) ?_
          case hyq22_3 => (intro w hSw; (try dsimp only at hSw); go_simp) <;> with_reducible rfl
          try simp only [Act.put, List.setIfInBounds_toArray, List.set_cons_zero, List.set_cons_succ]
          refine wpAnyH_ready (rs := [4, 9]) (by kernel_rfl) (by simp) ?_
          refine (AllReadyH.cons (get_os (get_os (get_os (get_os (get_o0))))) (fun KK hKK => ?_) (AllReadyH.cons (get_os (get_os (get_os (get_os (get_os (get_os (get_os (get_os (get_os (get_o0)))))))))) (fun KK hKK => ?_) AllReadyH.nil))
          · go_simp
            refine (HTK.out _ H.out.to).mono ?_; rintro e' w6 ⟨U, rfl, hUc, hb6, hnew⟩
            replace H := Lib.hid (H.out.add hb6 (rNd U) hnew.1 hnew.2); (try simp only [List.set_cons_zero, List.set_cons_succ, List.cons_append, List.nil_append, List.eraseIdx_cons_zero, List.eraseIdx_cons_succ, List.setIfInBounds_toArray, World.size_alloc, selR, List.getD_cons_zero, List.getD_cons_succ] at H)
            have HUc := Lib.hid hUc
            clear hUc hb6 hnew
            refine hKK.out _ _ (H.out.blk 0 rfl) (fun hHeld => ?_)
            clear hKK KK
            try simp only [Act.put, List.setIfInBounds_toArray, List.set_cons_zero, List.set_cons_succ]
            refine wpAnyH_take (i := 5) (v := ?vq23_) (get_os (get_os (get_os (get_os (get_os (get_o0)))))) (by kernel_rfl) (by kernel_rfl) (by kernel_rfl) (by exact fun _ _ _ h => h) (Or.inl ⟨by rfl, ?hyq23_⟩) (by assumption) ?_
            case hyq23_ => (intro w hSw; (try dsimp only at hSw); go_simp) <;> with_reducible rfl
            try simp only [Act.put, List.setIfInBounds_toArray, List.set_cons_zero, List.set_cons_succ]
            refine wpAnyH_take (i := 6) (v := ?vq24_) (get_os (get_os (get_os (get_os (get_os (get_os (get_o0))))))) (by kernel_rfl) (by kernel_rfl) (by kernel_rfl) (by exact fun _ _ _ h => h) (Or.inl ⟨by rfl, ?hyq24_⟩) (by assumption) ?_
            case hyq24_ => (intro w hSw; (try dsimp only at hSw); go_simp) <;> with_reducible rfl
            try simp only [Act.put, List.setIfInBounds_toArray, List.set_cons_zero, List.set_cons_succ]
            refine wpAnyH_take (i := 7) (v := ?vq25_) (get_os (get_os (get_os (get_os (get_os (get_os (get_os (get_o0)))))))) (by kernel_rfl) (by kernel_rfl) (by kernel_rfl) (by exact fun _ _ _ h => h) (Or.inl ⟨by rfl, ?hyq25_⟩) (by assumption) ?_
            case hyq25_ => (intro w hSw; (try dsimp only at hSw); go_simp) <;> with_reducible rfl
            try simp only [Act.put, List.setIfInBounds_toArray, List.set_cons_zero, List.set_cons_succ]
            refine wpAnyH_take (i := 8) (v := ?vq26_) (get_os (get_os (get_os (get_os (get_os (get_os (get_os (get_os (get_o0))))))))) (by kernel_rfl) (by kernel_rfl) (by kernel_rfl) (by exact fun _ _ _ h => h) (Or.inl ⟨by rfl, ?hyq26_⟩) (by assumption) ?_
            case hyq26_ => (intro w hSw; (try dsimp only at hSw); go_simp) <;> with_reducible rfl
            try simp only [Act.put, List.setIfInBounds_toArray, List.set_cons_zero, List.set_cons_succ]
            refine wpAnyH_ready (rs := [9]) (by kernel_rfl) (by simp) ?_
            refine (AllReadyH.cons (get_os (get_os (get_os (get_os (get_os (get_os (get_os (get_os (get_os (get_o0)))))))))) (fun KK hKK => ?_) AllReadyH.nil)
            go_simp
            replace H := Lib.hid (H.out.alloc #[.int .i64 0, .slice none 0 0, .int .i64 0, .int .i64 0, .int .i64 0, .int .i64 0, .int .i64 0, .int .i64 0, .int .i64 0, .int .i64 0, .int .i64 0, .int .i64 0, .int .i64 0, .int .i64 0] 34); (try simp only [List.set_cons_zero, List.set_cons_succ, List.cons_append, List.nil_append, List.eraseIdx_cons_zero, List.eraseIdx_cons_succ, List.setIfInBounds_toArray, World.size_alloc, selR, List.getD_cons_zero, List.getD_cons_succ] at H)
            generalize w6.heap.size = u at *
            generalize World.alloc w6 _ = w7 at *
            refine hKK.out _ _ (H.out.blk 0 rfl) (fun hHeld => ?_)
            clear hKK KK
            try simp only [Act.put, List.setIfInBounds_toArray, List.set_cons_zero, List.set_cons_succ]
            refine wpAnyH_ready (rs := [10]) (by kernel_rfl) (by simp) ?_
            refine (AllReadyH.cons (get_ot (get_o0)) (fun KK hKK => ?_) AllReadyH.nil)
            refine step_store_blkA rfl rowNd (.tmp 14) (.tmp 38) rfl _ rfl (H.out.blk 9 rfl) rfl (U.cs) rfl rfl (nd_one U) ?_
            intro wq bq hgq
            replace H := Lib.hid (H.out.setBlk 9 rfl hgq bq); (try simp only [List.set_cons_zero, List.set_cons_succ, List.cons_append, List.nil_append, List.eraseIdx_cons_zero, List.eraseIdx_cons_succ, List.setIfInBounds_toArray, World.size_alloc, selR, List.getD_cons_zero, List.getD_cons_succ] at H)
            clear hgq bq
            refine hKK.out _ _ (H.out.blk 0 rfl) (fun hHeld => ?_)
            clear hKK KK
            try simp only [Act.put, List.setIfInBounds_toArray, List.set_cons_zero, List.set_cons_succ]
            refine wpAnyH_take (i := 11) (v := ?vq27_) (get_ot (get_os (get_o0))) (by kernel_rfl) (by kernel_rfl) (by kernel_rfl) (by exact fun _ _ _ h => h) (Or.inl ⟨by rfl, ?hyq27_⟩) (by assumption) ?_
            case hyq27_ => (intro w hSw; (try dsimp only at hSw); go_simp) <;> with_reducible rfl
            try simp only [Act.put, List.setIfInBounds_toArray, List.set_cons_zero, List.set_cons_succ]
            refine wpAnyH_take (i := 12) (v := ?vq28_) (get_ot (get_os (get_os (get_o0)))) (by kernel_rfl) (by kernel_rfl) (by kernel_rfl) (by exact fun _ _ _ h => h) (Or.inl ⟨by rfl, ?hyq28_⟩) (by assumption) ?_
            case hyq28_ => (intro w hSw; (try dsimp only at hSw); go_simp) <;> with_reducible rfl
            try simp only [Act.put, List.setIfInBounds_toArray, List.set_cons_zero, List.set_cons_succ]
            refine wpAnyH_done (by kernel_rfl) ?_ _
            clear hHeld
            replace H := Lib.hid (H.out.sel [0, 1, 2, 9, 8, 3, 4, 5, 6, 7] (by decide) (by simp)); (try simp only [List.set_cons_zero, List.set_cons_succ, List.cons_append, List.nil_append, List.eraseIdx_cons_zero, List.eraseIdx_cons_succ, List.setIfInBounds_toArray, World.size_alloc, selR, List.getD_cons_zero, List.getD_cons_succ] at H)
            exact key u U _ ⟨HUc.out, H.out⟩
          · go_simp
            replace H := Lib.hid (H.out.alloc #[.int .i64 0, .slice none 0 0, .int .i64 0, .int .i64 0, .int .i64 0, .int .i64 0, .int .i64 0, .int .i64 0, .int .i64 0, .int .i64 0, .int .i64 0, .int .i64 0, .int .i64 0, .int .i64 0] 34); (try simp only [List.set_cons_zero, List.set_cons_succ, List.cons_append, List.nil_append, List.eraseIdx_cons_zero, List.eraseIdx_cons_succ, List.setIfInBounds_toArray, World.size_alloc, selR, List.getD_cons_zero, List.getD_cons_succ] at H)
            generalize w8.heap.size = u at *
            generalize World.alloc w8 _ = w7 at *
            refine hKK.out _ _ (H.out.blk 0 rfl) (fun hHeld => ?_)
            clear hKK KK
            try simp only [Act.put, List.setIfInBounds_toArray, List.set_cons_zero, List.set_cons_succ]
            refine wpAnyH_ready (rs := [4]) (by kernel_rfl) (by simp) ?_
            refine (AllReadyH.cons (get_os (get_os (get_os (get_os (get_o0))))) (fun KK hKK => ?_) AllReadyH.nil)
            go_simp
            refine (HTK.out _ H.out.to).mono ?_; rintro e' w6 ⟨U, rfl, hUc, hb6, hnew⟩
            replace H := Lib.hid (H.out.add hb6 (rNd U) hnew.1 hnew.2); (try simp only [List.set_cons_zero, List.set_cons_succ, List.cons_append, List.nil_append, List.eraseIdx_cons_zero, List.eraseIdx_cons_succ, List.setIfInBounds_toArray, World.size_alloc, selR, List.getD_cons_zero, List.getD_cons_succ] at H)
            have HUc := Lib.hid hUc
            clear hUc hb6 hnew
            refine hKK.out _ _ (H.out.blk 0 rfl) (fun hHeld => ?_)
            clear hKK KK
            try simp only [Act.put, List.setIfInBounds_toArray, List.set_cons_zero, List.set_cons_succ]
            refine wpAnyH_take (i := 5) (v := ?vq29_) (get_os (get_os (get_os (get_os (get_os (get_o0)))))) (by kernel_rfl) (by kernel_rfl) (by kernel_rfl) (by exact fun _ _ _ h => h) (Or.inl ⟨by rfl, ?hyq29_⟩) (by assumption) ?_
            case hyq29_ => (intro w hSw; (try dsimp only at hSw); go_simp) <;> with_reducible rfl
            try simp only [Act.put, List.setIfInBounds_toArray, List.set_cons_zero, List.set_cons_succ]
            refine wpAnyH_take (i := 6) (v := ?vq30_) (get_os (get_os (get_os (get_os (get_os (get_os (get_o0))))))) (by kernel_rfl) (by kernel_rfl) (by kernel_rfl) (by exact fun _ _ _ h => h) (Or.inl ⟨by rfl, ?hyq30_⟩) (by assumption) ?_
            case hyq30_ => (intro w hSw; (try dsimp only at hSw); go_simp) <;> with_reducible rfl
            try simp only [Act.put, List.setIfInBounds_toArray, List.set_cons_zero, List.set_cons_succ]
            refine wpAnyH_take (i := 7) (v := ?vq31_) (get_os (get_os (get_os (get_os (get_os (get_os (get_os (get_o0)))))))) (by kernel_rfl) (by kernel_rfl) (by kernel_rfl) (by exact fun _ _ _ h => h) (Or.inl ⟨by rfl, ?hyq31_⟩) (by assumption) ?_
            case hyq31_ => (intro w hSw; (try dsimp only at hSw); go_simp) <;> with_reducible rfl
            try simp only [Act.put, List.setIfInBounds_toArray, List.set_cons_zero, List.set_cons_succ]
            refine wpAnyH_take (i := 8) (v := ?vq32_) (get_os (get_os (get_os (get_os (get_os (get_os (get_os (get_os (get_o0))))))))) (by kernel_rfl) (by kernel_rfl) (by kernel_rfl) (by exact fun _ _ _ h => h) (Or.inl ⟨by rfl, ?hyq32_⟩) (by assumption) ?_
            case hyq32_ => (intro w hSw; (try dsimp only at hSw); go_simp) <;> with_reducible rfl
            try simp only [Act.put, List.setIfInBounds_toArray, List.set_cons_zero, List.set_cons_succ]
            refine wpAnyH_ready (rs := [10]) (by kernel_rfl) (by simp) ?_
            refine (AllReadyH.cons (get_ot (get_o0)) (fun KK hKK => ?_) AllReadyH.nil)
            refine step_store_blkA rfl rowNd (.tmp 14) (.tmp 38) rfl _ rfl (H.out.blk 8 rfl) rfl (U.cs) rfl rfl (nd_one U) ?_
            intro wq bq hgq
            replace H := Lib.hid (H.out.setBlk 8 rfl hgq bq); (try simp only [List.set_cons_zero, List.set_cons_succ, List.cons_append, List.nil_append, List.eraseIdx_cons_zero, List.eraseIdx_cons_succ, List.setIfInBounds_toArray, World.size_alloc, selR, List.getD_cons_zero, List.getD_cons_succ] at H)
            clear hgq bq
            refine hKK.out _ _ (H.out.blk 0 rfl) (fun hHeld => ?_)
            clear hKK KK
            try simp only [Act.put, List.setIfInBounds_toArray, List.set_cons_zero, List.set_cons_succ]
            refine wpAnyH_take (i := 11) (v := ?vq33_) (get_ot (get_os (get_o0))) (by kernel_rfl) (by kernel_rfl) (by kernel_rfl) (by exact fun _ _ _ h => h) (Or.inl ⟨by rfl, ?hyq33_⟩) (by assumption) ?_
            case hyq33_ => (intro w hSw; (try dsimp only at hSw); go_simp) <;> with_reducible rfl
            try simp only [Act.put, List.setIfInBounds_toArray, List.set_cons_zero, List.set_cons_succ]
            refine wpAnyH_take (i := 12) (v := ?vq34_) (get_ot (get_os (get_os (get_o0)))) (by kernel_rfl) (by kernel_rfl) (by kernel_rfl) (by exact fun _ _ _ h => h) (Or.inl ⟨by rfl, ?hyq34_⟩) (by assumption) ?_
            case hyq34_ => (intro w hSw; (try dsimp only at hSw); go_simp) <;> with_reducible rfl
            try simp only [Act.put, List.setIfInBounds_toArray, List.set_cons_zero, List.set_cons_succ]
            refine wpAnyH_done (by kernel_rfl) ?_ _
            clear hHeld
            replace H := Lib.hid (H.out.sel [0, 1, 2, 8, 9, 3, 4, 5, 6, 7] (by decide) (by simp)); (try simp only [List.set_cons_zero, List.set_cons_succ, List.cons_append, List.nil_append, List.eraseIdx_cons_zero, List.eraseIdx_cons_succ, List.setIfInBounds_toArray, World.size_alloc, selR, List.getD_cons_zero, List.getD_cons_succ] at H)
            exact key u U _ ⟨HUc.out, H.out⟩
        case tl =>
        rintro u U wq ⟨hUc, hH⟩
        replace H := Lib.hid hH
        clear hH
        (try simp only at H hUc)
        cases hO : O with
        | none =>
          rw [hO] at hUc
          have hpn : preadT sh.con sh.ms s top = none := by unfold preadT; rw [HR.out, rst_none hne (by rw [← HOO.out]; exact hO)]
          clear hUc hO
          go_wp2_with fail
          go_ret2
          exact HNO.out hpn _ H.out.to
        | some q =>
        obtain ⟨n, zl⟩ := q
        rw [hO] at hUc
        have hT : nodeTake sh.con sh.ms (s.drop p) = some (n, zl) := by rw [← HOO.out]; exact hO
        obtain ⟨i1, i2, i3, hrest⟩ := nodeTake_inv hT
        clear hrest
        rw [List.length_drop] at i2
        have HUc : Hid (U.con = n) := hUc
        have HT := Lib.hid hT
        have HI3 := Lib.hid i3
        rw [show szErr ((some (n, zl)).map Prod.snd) = 0 from rfl, show szN ((some (n, zl)).map Prod.snd) = (zl : Nat) from rfl]
        clear hUc hO hT
        have hun := (H.out.get 4 rfl : (rNd U).holds wq).now.2.2
        have HUB : Hid (U.ls.n ≤ 1000000 ∧ ∀ y ∈ U.ls.l, y.n ≤ 1000000) := ⟨hun.2, fun y hy => (hun.1 y hy).1⟩
        have HUOK := Lib.hid (nd_cells (nd_of_own (H.out.get 4 rfl)))
        clear hun
        have HMV : Hid (∀ W, SL No w W ([rBlk x 24 sh.cs, rBlk g 115 #[.map (some mb)], rMap Try.prog 3 (plainElem (H := Unit) Try.prog 3) mb k D, rBlk u 34 U.cs, rNd U] ++ arP b z) → Calls Try.prog 55 #[.agg sh.cs, .agg U.cs, .func (.func 61) #[] #[.pointer (some ⟨g, 0, none⟩)]] W fun e w' => ∃ M : Nd, e = .returned (.agg M.cs) ∧ M.con = moveC sh.sz.n (idxS st) U.con ∧ M.ls.n = U.ls.n ∧ (∀ x ∈ M.ls.l, x.n ≤ 1000000) ∧ Bel W w' ∧ NewR W w' (rNd M)) := fun W hS =>
          cmoveR_any sh U g (idxS st) W (HSR.out _ hS.to) (nd_of_own (hS.get 4 rfl)) HUB.out.1 HUB.out.2 (fun hd c hc => ⟨by have h1 := idxS_nonneg st c.ch; have h2 := idxS_le HST.out.1 hkb c.ch; unfold I64; omega, fun w' hb => srto_any g mb k D st c.ch w' (((hS.bel hb).blk 1 rfl).cell 0) ((hS.bel hb).map 2 rfl) HST.out.2.2.1 (HUOK.out c hc).ch⟩)
        have H' : Hid (SL No w wq ([rBlk x 24 sh.cs, rBlk g 115 #[.map (some mb)], rMap Try.prog 3 (plainElem (H := Unit) Try.prog 3) mb k D, rBlk u 34 U.cs, rNd U] ++ arP b z)) := H.out
        go_wp2_with (first | ((with_reducible show wpList _ _ _ (⟨some 46, _, _, _, _, _⟩ :: _) _ _); (refine wpList_load_blk rfl rowShp2 (.tmp 3) rfl _ rfl (H.out.blk 0 rfl) rfl ?_)) | ((with_reducible show wpList _ _ _ (⟨some 47, _, _, _, _, _⟩ :: _) _ _); (refine wpList_load_blk rfl rowNd (.tmp 14) rfl _ rfl (H.out.blk 3 rfl) rfl ?_)))
        refine (HMV.out _ H'.out).mono ?_; rintro e w4 ⟨M, rfl, hMc, hMn, hMy, hb4, hnew⟩
        clear H'
        replace H := Lib.hid (H.out.add hb4 (rNd M) hnew.1 hnew.2); (try simp only [List.set_cons_zero, List.set_cons_succ, List.cons_append, List.nil_append, List.eraseIdx_cons_zero, List.eraseIdx_cons_succ, List.setIfInBounds_toArray, World.size_alloc, selR, List.getD_cons_zero, List.getD_cons_succ] at H)
        rw [HUc.out] at hMc
        have HMC := Lib.hid hMc
        have HMB : Hid (M.ls.n ≤ 1000000 ∧ ∀ y ∈ M.ls.l, y.n ≤ 1000000) := ⟨by rw [hMn]; exact HUB.out.1, hMy⟩
        replace H := Lib.hid (H.out.sel [0, 1, 2, 3, 4, 10, 5, 6, 7, 8, 9] (by decide) (by simp)); (try simp only [List.set_cons_zero, List.set_cons_succ, List.cons_append, List.nil_append, List.eraseIdx_cons_zero, List.eraseIdx_cons_succ, List.setIfInBounds_toArray, World.size_alloc, selR, List.getD_cons_zero, List.getD_cons_succ] at H)
        have HMR : M.rd w4 := nd_of_own (H.out.get 5 rfl)
        have HME : Hid (nodeErr sh.con sh.ms M.con = 0) := by
          show _ = _
          rw [hMc, ← HXL.out, nodeErr_mv (fun hd c hc => ⟨cellOk_ch ((nodeErr_cells HI3.out).2 c hc), idxS_nonneg _ _⟩)]
          exact HI3.out
        have hMt : (M.ls.l.map Row.l).flatten.length ≤ 999999 := by have h := flat_node HME.out HOKS.out; exact Nat.le_trans h (by omega)
        have HMT := Lib.hid hMt
        clear hMc hMn hMy hnew hb4 HMV HMR hMt
        have HEE : Hid (addE (leadsN z.sz.n (z.nd.l.map Nd.con) M.con) z M = addErr sh.con sh.ms 131072 (z.nd.l.map Nd.con) (moveC sh.con.length (idxS st) n)) := by
          show _ = _
          rw [addE_addErrS F0.out.2.2.1 F0.out.2.2.2.1 F0.out.2.2.2.2 HZN.out (by rw [HXL.out, F0.out.2.1]) (show (z.nd.l.map Nd.con).length = k by rw [List.length_map]; exact HZL.out) rfl, HMC.out, HXL.out]
        go_wp2_with fail
        have H2 : Hid (SL No w w4 ([rBlk x 24 sh.cs, rBlk g 115 #[.map (some mb)], rMap Try.prog 3 (plainElem (H := Unit) Try.prog 3) mb k D, rBlk u 34 U.cs, rNd U, rNd M] ++ arP b z)) := H.out
        refine (aadd_any b z M _ w4 H2.out.focus F0.out.1 (nd_of_own (H2.out.get 5 rfl)) HMB.out.1 HMB.out.2 (fun hz w' hb => aleads_any b z M w' (H2.out.bel hb).focus F0.out.1 (nd_of_own ((H2.out.bel hb).get 5 rfl)) HMT.out hz)).mono ?_
        intro e w5 h5
        unfold AddPost at h5
        rw [HEE.out] at h5
        obtain ⟨E, hEE⟩ : ∃ E, E = addErr sh.con sh.ms 131072 (z.nd.l.map Nd.con) (moveC sh.con.length (idxS st) n) := ⟨_, rfl⟩
        rw [← hEE] at h5
        have HE0 := Lib.hid hEE
        clear hEE HEE
        by_cases hE0 : E = 0
        · rw [if_pos hE0] at h5
          have hE : addErr sh.con sh.ms 131072 (z.nd.l.map Nd.con) (moveC sh.con.length (idxS st) n) = 0 := by rw [← HE0.out]; exact hE0
          obtain ⟨n2, A2, c2, rfl, hn2c, h6⟩ := h5
          have HA0 := Lib.hid (addErr_zero2.1 hE)
          replace H := Lib.hid (H2.out.unfocus h6)
          clear H2 h6
          obtain ⟨z2, hz2⟩ : ∃ z2, z2 = Arn.mk z.sz z.ms ⟨A2, z.nd.n + 1, c2, z.nd.l ++ [n2]⟩ z.most := ⟨_, rfl⟩
          have HZC : Hid (z2.nd.l.map Nd.con = z.nd.l.map Nd.con ++ [moveC sh.con.length (idxS st) n]) := by show _ = _; rw [hz2, List.map_append, List.map_cons, List.map_nil, hn2c, HMC.out, HXL.out]
          have hlen2 := HA0.out.2.2
          rw [List.length_map, HZL.out] at hlen2
          have F2 : Hid (z2.ok ∧ z2.sz.n = sh.sz.n ∧ z2.shp.con = sh.con ∧ z2.ms = sh.ms ∧ z2.most = 131072) := by
            rw [hz2]
            have h := F0.out.1
            exact ⟨⟨h.ms, h.m0, h.m1, h.s1, h.s16, h.sv, by show z.nd.n + 1 ≤ _; rw [HZN.out]; omega⟩, F0.out.2⟩
          have HZN2 : Hid (z2.nd.n = k + 1 ∧ z2.nd.l.length = k + 1) := by rw [hz2]; exact ⟨by show z.nd.n + 1 = _; rw [HZN.out], by show (z.nd.l ++ [n2]).length = _; rw [List.length_append, HZL.out]; rfl⟩
          have HR2 : Hid (pread sh.con sh.ms s = rstep sh.con sh.ms ((p + zl : Nat) : Int) (s.drop (p + zl)) (st ++ [(p : Int)]) (z2.nd.l.map Nd.con)) := by
            show _ = _
            rw [HR.out, rst_step hne HT.out hE, HZC.out, List.drop_drop, Int.natCast_add]
          have hpm : (p : Int) ∉ st := fun h => by have := (HST.out.2.1.lt _ h).2; omega
          have HPD : Hid (PlD (D.put (.int .i64 (p : Int)) (.lit (.int .i64 ((st.length : Nat) : Int)))) (st ++ [(p : Int)])) := HST.out.2.2.1.put (H.out.map 2 rfl).isMap hpm
          rw [HST.out.1] at HPD
          have HST2 : Hid ((st ++ [(p : Int)]).length = k + 1 ∧ StOk (st ++ [(p : Int)]) (p + zl)) := ⟨by rw [List.length_append, HST.out.1]; rfl, HST.out.2.1.snoc (by omega)⟩
          have HZK : Hid (z.nd.n = k) := HZN.out
          have H3 : Hid (SL No w w5 ([rBlk x 24 sh.cs, rBlk g 115 #[.map (some mb)], rMap Try.prog 3 (plainElem (H := Unit) Try.prog 3) mb k D, rBlk u 34 U.cs, rNd U, rNd M] ++ arP b z2)) := by rw [hz2]; exact H.out
          clear H hz2 hn2c hE hE0
          simp only [arP, List.cons_append, List.nil_append] at H3
          have H := H3
          clear H3
          rw [HZK.out]
          have HWP := Lib.hid (wf64 (show I64 (p : Int) by unfold I64; omega))
          have HWK := Lib.hid (wf64 (show I64 (k : Int) by unfold I64; omega))
          have c1 := (H.out.blk 1 rfl).cell 0; simp only [List.getElem?_toArray, List.getElem?_cons_zero, List.getElem?_cons_succ] at c1
          go_wp2_with ((with_reducible show wpList _ _ _ (⟨_, .mapUpdate _ _ _ _, _, _, _, _⟩ :: _) _ _); refine wpList_mapUpdate_own _ rfl (.tmp 55) (.tmp 56) (.tmp 57) 115 rfl 3 3 (Maps.int_keyed Try.underlying3) Try.underlying115 (plainElem (H := Unit) Try.prog 3) mb k D rfl (H.out.map 2 rfl) (by unfold maxLen; omega) (.int .i64 p) (.int .i64 k) (.int .i64 p) rfl rfl (Maps.keyOf_int_mk Try.underlying3 HWP.out) (.lit (.int .i64 k)) [] (plainElem_int Try.underlying3 HWK.out) ?_; intro w8 hown1 hgrow1; clear c1; replace H := Lib.hid (H.out.setMap 2 rfl hgrow1 hown1); (try simp only [List.set_cons_zero, List.set_cons_succ, List.cons_append, List.nil_append, List.eraseIdx_cons_zero, List.eraseIdx_cons_succ, List.setIfInBounds_toArray, World.size_alloc, selR, List.getD_cons_zero, List.getD_cons_succ] at H); clear hown1 hgrow1)
          replace H := Lib.hid (H.out.sel [0, 1, 2, 6, 7, 8, 9, 10] (by decide) (by simp)); (try simp only [List.set_cons_zero, List.set_cons_succ, List.cons_append, List.nil_append, List.eraseIdx_cons_zero, List.eraseIdx_cons_succ, List.setIfInBounds_toArray, World.size_alloc, selR, List.getD_cons_zero, List.getD_cons_succ] at H)
          go_roundg (s.length - (p + zl))
          case rel => exact ⟨p + zl, k + 1, st ++ [(p : Int)], D.put (.int .i64 (p : Int)) (.lit (.int .i64 (k : Int))), z2, rfl, by omega, by omega, by rw [wtop_snoc], by go_num, ⟨HST2.out.1, HST2.out.2, HPD.out, trivial⟩, HZN2.out.1, HZN2.out.2, F2, HR2, H⟩
          case measure => rw [Hgp.out]; omega
        · rw [if_neg hE0] at h5
          have hE : addErr sh.con sh.ms 131072 (z.nd.l.map Nd.con) (moveC sh.con.length (idxS st) n) ≠ 0 := by rw [← HE0.out]; exact hE0
          obtain ⟨rfl, hb5⟩ := h5
          have hpn : preadT sh.con sh.ms s top = none := by unfold preadT; rw [HR.out, rst_bad hne HT.out hE]
          replace H := Lib.hid (H2.out.bel hb5); (try simp only [List.set_cons_zero, List.set_cons_succ, List.cons_append, List.nil_append, List.eraseIdx_cons_zero, List.eraseIdx_cons_succ, List.setIfInBounds_toArray, World.size_alloc, selR, List.getD_cons_zero, List.getD_cons_succ] at H)
          have dE : (E != 0) = true := by simpa using hE0
          clear H2 hb5 hE hE0
          go_wp2_with fail
          go_ret2
          exact HNO.out hpn _ H.out.to
      · obtain rfl : p = s.length := by omega
        have HRE : Hid (pread sh.con sh.ms s = some (st, z.nd.l.map Nd.con)) := by show _ = _; rw [HR.out, List.drop_length]; exact rst_nil
        have HTT : Hid (preadT sh.con sh.ms s top = if wtop st = top ∧ wholeC sh.con.length (z.nd.l.map Nd.con) = true then some (z.nd.l.map Nd.con) else none) := by show _ = _; unfold preadT; rw [HRE.out]
        have d0 : decide ((s.length : Int) < (s.length : Int)) = false := by simp
        by_cases htop : wtop st = top
        · have d1 : (wtop st != top) = false := by simpa using htop
          have hgood : GoodN sh.con sh.ms (z.nd.l.map Nd.con) := by
            obtain ⟨l2, e1, e2, e3, _⟩ := read_write HOKS.out s.length s [] [] [] st (z.nd.l.map Nd.con) (by show rstepF _ _ _ 0 _ _ _ = _; exact HRE.out) rfl StOk.nil (goodN_nil _ _)
            exact e3
          have hat : ∀ W, SL No w W ([rBlk x 24 sh.cs, rBlk g 115 #[.map (some mb)], rMap Try.prog 3 (plainElem (H := Unit) Try.prog 3) mb k D] ++ arP b z) → ArAt b z W := fun W h => ar_at F0.out.1 h.focus
          have HWH : Hid (∀ W, SL No w W ([rBlk x 24 sh.cs, rBlk g 115 #[.map (some mb)], rMap Try.prog 3 (plainElem (H := Unit) Try.prog 3) mb k D] ++ arP b z) → Calls Try.prog 53 #[.pointer (some ⟨b, 0, none⟩)] W fun e w' => e = .returned (.bool (wholeC z.sz.n (z.nd.l.map Nd.con))) ∧ Bel W w') := fun W h =>
            awhole_any b z W F0.out.1 (hat W h) (by rw [F0.out.2.2.1, F0.out.2.2.2.1]; exact hgood) (fun n hn => by
              obtain ⟨i, hi, hin⟩ := List.getElem_of_mem hn
              have h1 := (hgood i n.con (by rw [List.getElem?_map, List.getElem?_eq_getElem hi, hin]; rfl)).1
              exact Nat.le_trans (flat_node h1 HOKS.out) (by omega))
          clear hat hgood
          go_wp2_with fail
          refine (HWH.out _ H.out).mono ?_; rintro e w7 ⟨rfl, hb7⟩
          replace H := Lib.hid (H.out.bel hb7); (try simp only [List.set_cons_zero, List.set_cons_succ, List.cons_append, List.nil_append, List.eraseIdx_cons_zero, List.eraseIdx_cons_succ, List.setIfInBounds_toArray, World.size_alloc, selR, List.getD_cons_zero, List.getD_cons_succ] at H)
          clear hb7 HWH d1 d0
          cases hwh : wholeC z.sz.n (z.nd.l.map Nd.con) with
          | false =>
            have hpn : preadT sh.con sh.ms s top = none := by rw [HTT.out, if_neg (by rw [HXL.out, ← F0.out.2.1, hwh]; simp)]
            go_wp2_with fail
            go_ret2
            exact HNO.out hpn _ H.out.to
          | true =>
            have hps : preadT sh.con sh.ms s top = some (z.nd.l.map Nd.con) := by rw [HTT.out, if_pos ⟨htop, by rw [HXL.out, ← F0.out.2.1, hwh]⟩]
            have HPS := Lib.hid hps
            clear hps hwh htop
            replace H := Lib.hid (H.out.sel [3, 4, 5, 6, 7] (by decide) (by simp)); (try simp only [List.set_cons_zero, List.set_cons_succ, List.cons_append, List.nil_append, List.eraseIdx_cons_zero, List.eraseIdx_cons_succ, List.setIfInBounds_toArray, World.size_alloc, selR, List.getD_cons_zero, List.getD_cons_succ] at H)
            go_wp2_with fail
            go_ret2
            exact HYES.out _ HPS.out z _ ⟨F0.out.1, F0.out.2.1, F0.out.2.2.1, F0.out.2.2.2.1⟩ rfl H.out
        · have d1 : (wtop st != top) = true := by simpa using htop
          have hpn : preadT sh.con sh.ms s top = none := by rw [HTT.out, if_neg (fun h => htop h.1)]
          clear htop
          go_wp2_with fail
          go_ret2
          exact HNO.out hpn _ H.out.to

end Go.Proofs.Ytlclllkjnhgbjaa
