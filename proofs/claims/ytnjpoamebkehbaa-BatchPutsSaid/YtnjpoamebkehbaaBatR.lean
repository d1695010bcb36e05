/- batch.read: a row read by a reader. -/
import Derived.Test.YtnjpoamebkehbaaBatP
import Derived.Test.YtnjpoamebkehbaaSchR
namespace Go.Proofs.Ytnjpoamebkehbaa
open Go.RowKit
set_option linter.unusedVariables false
set_option linter.unusedSimpArgs false

/-- A row of the call's own. -/
structure RwOwn (r : Rw) (w : World) : Prop where
  ts : w.ownsRow 0 9 1 (.slice r.ts.A r.ts.n r.ts.c) r.ts.n (r.ts.l.map tx)
  tl : ∀ t ∈ r.ts.l, t.length ≤ 16
  vs : w.ownsRow 0 2 1 (.slice r.vs.A r.vs.n r.vs.c) r.vs.n (r.vs.l.map (Value.int .i64))
  vl : ∀ x ∈ r.vs.l, I64 x
  tn : r.ts.n ≤ 16
  vn : r.vs.n ≤ 3
def Rw.D (r : Rw) (g : Nat) : Prop := r.ts.v.ownBlock = some g ∨ r.vs.v.ownBlock = some g
abbrev rRw (r : Rw) : Res := ⟨r.D, RwOwn r⟩
theorem RwOwn.rd {r : Rw} {w : World} (h : RwOwn r w) : Rw.rd w r :=
  ⟨⟨by have := Rd.of_own h.ts; rw [flat_texts]; exact this, fun t ht => by have := h.tl t ht; show t.length ≤ _; omega, by have := h.tn; omega⟩, ⟨by have := Rd.of_own h.vs; rw [flat_ints]; exact this, fun t ht => h.vl t ht, by have := h.vn; omega⟩⟩
theorem holds_rw {A B : Option Addr} {n c m d : Nat} {ts : List (List UInt8)} {vs : List Int} {w : World} (h1 : (rRow 9 1 (.slice A n c) n (ts.map tx)).holds w) (h2 : (rRow 2 1 (.slice B m d) m (vs.map (Value.int .i64))).holds w) (h3 : ∀ x ∈ ts, x.length ≤ 16) (h4 : ∀ x ∈ vs, I64 x) (h5 : n ≤ 16) (h6 : m ≤ 3) : (rRw ⟨⟨A, n, c, ts⟩, ⟨B, m, d, vs⟩⟩).holds w := by
  refine ⟨?_, fun w' hs hk => ⟨h1.2 w' hs fun g hg => hk g (.inl hg), h3, h2.2 w' hs fun g hg => hk g (.inr hg), h4, h5, h6⟩⟩
  rintro g (hg | hg)
  · exact h1.1 g hg
  · exact h2.1 g hg
theorem int_i64 {l r : List UInt8} {v : Int} (h : pint l = .ok (v, r)) : I64 v := (i_pint_back h).2
/-- How batch.read ends. -/
def RwPost (b : Nat) (s : List UInt8) (o : PR RC) (w : World) (e : Ending) (w' : World) : Prop :=
  match o with
  | .error k => RErr b s k w e w'
  | .ok (d, l) => ∃ D : Rw, e = .returned (.agg D.cs) ∧ D.con = d ∧ w.grownBy w' (some b) ∧ Rdr w' b s l ∧ NewR w w' (rRw D)
theorem prow1 {D M : Nat} {l : List UInt8} {k : Int} (h : pmany ptrm D [] l = .error k) : prow D M l = .error k := by unfold prow; rw [h]
theorem prow2 {D M : Nat} {l r : List UInt8} {ts : List (List UInt8)} (h : pmany ptrm D [] l = .ok (ts, r)) : prow D M l = match pmany pint M [] r with | .error k => .error k | .ok (vs, r2) => .ok (⟨ts, vs⟩, r2) := by unfold prow; rw [h]; rfl

set_option maxRecDepth 100000 in
set_option maxHeartbeats 2000000 in
theorem batread_any (b : Nat) (s l : List UInt8) (d : Sch) (w : World) (hR : Rdr w b s l) (hn : d.dm.n ≤ 16) (hm : d.ms.n ≤ 3) :
    Calls Try.prog 113 #[.pointer (some ⟨b, 0, none⟩), .agg d.cs] w (RwPost b s (prow d.dm.n d.ms.n l) w) := by
  have hbw := hR.lt
  have H := Lib.hid ((((SL.rdr1 w hR).alloc d.cs 70).alloc #[.slice none 0 0, .slice none 0 0] 88).alloc #[.slice none 0 0, .slice none 0 0] 88)
  (try simp only [List.set_cons_zero, List.set_cons_succ, List.cons_append, List.nil_append, List.eraseIdx_cons_zero, List.eraseIdx_cons_succ, List.setIfInBounds_toArray, World.size_alloc, selR, List.getD_cons_zero, List.getD_cons_succ] at H)
  clear hR
  obtain ⟨⟨DA, n, cn, ds⟩, ⟨MB, m, cm, ms⟩⟩ := d
  simp only [Sch.cs] at *
  replace H := Lib.hid (H.out.addNil 9 1); (try simp only [List.set_cons_zero, List.set_cons_succ, List.cons_append, List.nil_append, List.eraseIdx_cons_zero, List.eraseIdx_cons_succ, List.setIfInBounds_toArray, World.size_alloc, selR, List.getD_cons_zero, List.getD_cons_succ] at H)
  go_enter Try.func113, Try.ntmps113
  have c0 := (H.out.blk 1 rfl).cell 0; simp only [List.getElem?_toArray, List.getElem?_cons_zero, List.getElem?_cons_succ] at c0
  go_wp2_with fail
  clear c0
  generalize w.heap.size + 1 + 1 = y at *
  generalize w.heap.size + 1 = z at *
  generalize w.heap.size = x at *
  generalize World.alloc (World.alloc _ _) _ = w1 at *
  have HP : Hid (pmany ptrm n [] l = pmany ptrm (n - 0) [] l) := rfl
  have HTL : Hid (∀ t ∈ ([] : List (List UInt8)), t.length ≤ 16) := by show ∀ t ∈ ([] : List (List UInt8)), _; intro t ht; cases ht
  go_loopg [10] n (fun gg s10 wr => ∃ (k : Nat) (ts : List (List UInt8)) (A : Option Addr) (c : Nat) (l' : List UInt8), gg = n - k ∧ k ≤ n ∧ s10 = .int .i64 k ∧ Hid (ts.length = k) ∧ Hid (∀ t ∈ ts, t.length ≤ 16) ∧ Hid (SL (One b) w wr [rRdr b s l', rBlk x 70 #[.slice DA n cn, .slice MB m cm], rBlk z 88 #[.slice none 0 0, .slice none 0 0], rBlk y 88 #[.slice A k c, .slice none 0 0], rRow 9 1 (.slice A k c) k (ts.map tx)]) ∧ Hid (pmany ptrm n [] l = pmany ptrm (n - k) ts l'))
  case atStart => exact ⟨0, [], none, 0, l, rfl, by omega, rfl, rfl, HTL, H, HP⟩
  case round =>
    clear H HP HTL
    obtain ⟨k, ts, A, c, l', hgk, hk, rfl, hac, HTL, H, HP⟩ := hrel
    have Hgk := Lib.hid hgk
    clear hgk
    by_cases hlt : k < n
    · have HN := Lib.hid (HP.out.trans (pmany_step hlt))
      have HT := Lib.hid (fun w (hr : Rdr w b s l') => text_any b s l' 16 w hr (by omega) (by omega))
      clear HP
      go_wp2_with fail
      cases hx : ptxt 16 l' with
      | error e1 =>
        have HE : Hid (prow n m l = .error e1) := by
          refine prow1 ?_
          rw [HN.out]
          unfold ptrm
          rw [hx]
        rw [hx] at HT
        clear hx HN
        refine (HT.out _ (H.out.rdr 0 rfl)).mono ?_; rintro e w2 ⟨rfl, hg, l3, hr⟩
        replace H := Lib.hid (H.out.setRdr 0 rfl hg hr); (try simp only [List.set_cons_zero, List.set_cons_succ, List.cons_append, List.nil_append, List.eraseIdx_cons_zero, List.eraseIdx_cons_succ, List.setIfInBounds_toArray, World.size_alloc, selR, List.getD_cons_zero, List.getD_cons_succ] at H)
        clear hg hr
        go_wp2_with fail
        refine ⟨rfl, ?_⟩
        rw [HE.out]
        exact ⟨rfl, H.out.fr.grown, l3, H.out.rdr 0 rfl⟩
      | ok q =>
        obtain ⟨t, l3⟩ := q
        have ht16 := (ptxt_ok hx).1
        have HC := Lib.hid (fun w => check_any t w (by omega))
        cases hT : isTerm t with
        | false =>
          have HE : Hid (prow n m l = .error 3) := by
            refine prow1 ?_
            rw [HN.out]
            unfold ptrm
            rw [hx]
            simp only
            rw [hT]
            rfl
          rw [hx] at HT
          rw [hT, show errOf false = 2 from rfl] at HC
          clear hx HN hT
          refine (HT.out _ (H.out.rdr 0 rfl)).mono ?_; rintro e w2 ⟨rfl, hg, hr⟩
          replace H := Lib.hid (H.out.setRdr 0 rfl hg hr); (try simp only [List.set_cons_zero, List.set_cons_succ, List.cons_append, List.nil_append, List.eraseIdx_cons_zero, List.eraseIdx_cons_succ, List.setIfInBounds_toArray, World.size_alloc, selR, List.getD_cons_zero, List.getD_cons_succ] at H)
          clear hg hr
          go_wp2_with fail
          refine (HC.out _).mono ?_; rintro e w3 ⟨rfl, rfl⟩
          go_wp2_with fail
          refine (want_no b s l3 3 _ (H.out.rdr 0 rfl)).mono ?_; rintro e w6 ⟨rfl, rfl⟩
          go_wp2_with fail
          refine ⟨rfl, ?_⟩
          rw [HE.out]
          exact ⟨rfl, H.out.fr.grown, _, H.out.rdr 0 rfl⟩
        | true =>
          have HN2 : Hid (pmany ptrm n [] l = pmany ptrm (n - (k + 1)) (ts ++ [t]) l3) := by
            show _ = _
            rw [HN.out]
            unfold ptrm
            rw [hx]
            simp only
            rw [hT]
            rfl
          have HTL2 : Hid (∀ y ∈ ts ++ [t], y.length ≤ 16) := by
            intro y hy
            rcases List.mem_append.1 hy with hy | hy
            · exact HTL.out y hy
            · rw [List.mem_singleton] at hy; subst hy; omega
          rw [hx] at HT
          rw [hT, show errOf true = 0 from rfl] at HC
          clear hx HN hT HTL
          refine (HT.out _ (H.out.rdr 0 rfl)).mono ?_; rintro e w2 ⟨rfl, hg, hr⟩
          replace H := Lib.hid (H.out.setRdr 0 rfl hg hr); (try simp only [List.set_cons_zero, List.set_cons_succ, List.cons_append, List.nil_append, List.eraseIdx_cons_zero, List.eraseIdx_cons_succ, List.setIfInBounds_toArray, World.size_alloc, selR, List.getD_cons_zero, List.getD_cons_succ] at H)
          clear hg hr
          go_wp2_with fail
          refine (HC.out _).mono ?_; rintro e w3 ⟨rfl, rfl⟩
          go_wp2_with fail
          refine (want_yes b s l3 3 _ (H.out.rdr 0 rfl)).mono ?_; rintro e w6 ⟨rfl, rfl⟩
          have c1 := (H.out.blk 3 rfl).cell 0; simp only [List.getElem?_toArray, List.getElem?_cons_zero, List.getElem?_cons_succ] at c1
          go_wp2_with ((with_reducible show wpList _ _ _ (⟨some 23, _, _, _, _, _⟩ :: _) _ _); (replace H := Lib.hid (H.out.alloc #[.string ⟨t.toArray⟩] 9); (try simp only [List.set_cons_zero, List.set_cons_succ, List.cons_append, List.nil_append, List.eraseIdx_cons_zero, List.eraseIdx_cons_succ, List.setIfInBounds_toArray, World.size_alloc, selR, List.getD_cons_zero, List.getD_cons_succ] at H); refine wpList_append0 rfl (.tmp 20) (.tmp 22) _ rfl E_text 0 (Nat.zero_le _) _ k _ rfl (H.out.row 4 rfl) _ 1 1 [.string ⟨t.toArray⟩] rfl (reads_of_block (H.out.blk 5 rfl) rfl) (by simp [Value.oneCell']) (by unfold maxLen; omega) (by omega) ?_; intro vq wq howq hgq hatq; replace H := Lib.hid (H.out.setRow 4 rfl hgq howq hatq); (try simp only [List.set_cons_zero, List.set_cons_succ, List.cons_append, List.nil_append, List.eraseIdx_cons_zero, List.eraseIdx_cons_succ, List.setIfInBounds_toArray, World.size_alloc, selR, List.getD_cons_zero, List.getD_cons_succ] at H); clear howq hgq hatq; obtain ⟨A2, c2, rfl, _⟩ := own_slice (H.out.row 4 rfl); clear c1; have c1 := (H.out.blk 3 rfl).cell 0; simp only [List.getElem?_toArray, List.getElem?_cons_zero, List.getElem?_cons_succ] at c1; have f1 := (H.out.blk 3 rfl).frozen 0))
          replace H := Lib.hid (H.out.setCell 3 rfl 0 (.slice A2 (k + 1) c2)); (try simp only [List.set_cons_zero, List.set_cons_succ, List.cons_append, List.nil_append, List.eraseIdx_cons_zero, List.eraseIdx_cons_succ, List.setIfInBounds_toArray, World.size_alloc, selR, List.getD_cons_zero, List.getD_cons_succ] at H)
          replace H := Lib.hid (H.out.sel [0, 1, 2, 3, 4] (by decide) (by simp)); (try simp only [List.set_cons_zero, List.set_cons_succ, List.cons_append, List.nil_append, List.eraseIdx_cons_zero, List.eraseIdx_cons_succ, List.setIfInBounds_toArray, World.size_alloc, selR, List.getD_cons_zero, List.getD_cons_succ] at H)
          clear c1 f1
          go_wp2_with fail
          go_roundg (n - (k + 1))
          case rel => exact ⟨k + 1, ts ++ [t], A2, c2, l3, rfl, by omega, by go_num, by show _ = _; rw [List.length_append, hac.out]; rfl, HTL2, by rw [List.map_append]; exact H, HN2⟩
          case measure => rw [Hgk.out]; omega
    · obtain rfl : k = n := by omega
      have HE : Hid (prow k m l = match pmany pint m [] l' with | .error k => .error k | .ok (vs, r2) => .ok (⟨ts, vs⟩, r2)) := prow2 (by rw [HP.out, Nat.sub_self]; rfl)
      clear HP
      replace H := Lib.hid (H.out.addNil 2 1); (try simp only [List.set_cons_zero, List.set_cons_succ, List.cons_append, List.nil_append, List.eraseIdx_cons_zero, List.eraseIdx_cons_succ, List.setIfInBounds_toArray, World.size_alloc, selR, List.getD_cons_zero, List.getD_cons_succ] at H)
      have c6 := (H.out.blk 1 rfl).cell 1; simp only [List.getElem?_toArray, List.getElem?_cons_zero, List.getElem?_cons_succ] at c6
      go_wp2_with fail
      clear c6
      obtain ⟨l1, hl1⟩ : ∃ l1, l1 = l' := ⟨_, rfl⟩
      rw [← hl1] at HE H
      have HP : Hid (pmany pint m [] l1 = pmany pint (m - 0) [] l1) := rfl
      have HVL : Hid (∀ t ∈ ([] : List Int), I64 t) := by show ∀ t ∈ ([] : List Int), _; intro t ht; cases ht
      clear hl1
      go_loopg [29] m (fun gg s29 wr => ∃ (j : Nat) (vs : List Int) (B : Option Addr) (e : Nat) (l' : List UInt8), gg = m - j ∧ j ≤ m ∧ s29 = .int .i64 j ∧ Hid (vs.length = j) ∧ Hid (∀ t ∈ vs, I64 t) ∧ Hid (SL (One b) w wr [rRdr b s l', rBlk x 70 #[.slice DA k cn, .slice MB m cm], rBlk z 88 #[.slice none 0 0, .slice none 0 0], rBlk y 88 #[.slice A k c, .slice B j e], rRow 9 1 (.slice A k c) k (ts.map tx), rRow 2 1 (.slice B j e) j (vs.map (Value.int .i64))]) ∧ Hid (pmany pint m [] l1 = pmany pint (m - j) vs l'))
      case atStart => exact ⟨0, [], none, 0, l1, rfl, by omega, rfl, rfl, HVL, H, HP⟩
      case round =>
        clear H HP HVL
        obtain ⟨j, vs, B, e, l', hgj, hj, rfl, hmc, HVL, H, HP⟩ := hrel
        have Hgj := Lib.hid hgj
        clear hgj
        by_cases hlt2 : j < m
        · have HN := Lib.hid (HP.out.trans (pmany_step hlt2))
          have HA := Lib.hid (fun w (hr : Rdr w b s l') => int_any b s l' w hr)
          clear HP
          go_upto_region 10 with fail
          cases hx : pint l' with
          | error e1 =>
            rw [hx] at HA HN
            clear hx
            refine wp_region_held_drew (S := fun _ => True) (by kernel_rfl) trivial (fun hHeld => ?_)
            replace H := Lib.hid (H.out.drew); (try simp only [List.set_cons_zero, List.set_cons_succ, List.cons_append, List.nil_append, List.eraseIdx_cons_zero, List.eraseIdx_cons_succ, List.setIfInBounds_toArray, World.size_alloc, selR, List.getD_cons_zero, List.getD_cons_succ] at H)
            refine wpAnyH_take (i := 0) (v := ?vq1_0) (get_o0) (by kernel_rfl) (by kernel_rfl) (by kernel_rfl) (by exact fun _ _ _ h => h) (Or.inl ⟨by rfl, ?hyq1_0⟩) (by assumption) ?_
            case hyq1_0 => (intro w hSw; (try dsimp only at hSw); go_simp) <;> with_reducible rfl
            try simp only [Act.put, List.setIfInBounds_toArray, List.set_cons_zero, List.set_cons_succ]
            refine wpAnyH_take (i := 2) (v := ?vq1_2) (get_os (get_os (get_o0))) (by kernel_rfl) (by kernel_rfl) (by kernel_rfl) (by exact fun _ _ _ h => h) (Or.inl ⟨by rfl, ?hyq1_2⟩) (by assumption) ?_
            case hyq1_2 => (intro w hSw; (try dsimp only at hSw); go_simp) <;> with_reducible rfl
            try simp only [Act.put, List.setIfInBounds_toArray, List.set_cons_zero, List.set_cons_succ]
            refine wpAnyH_ready (rs := [1, 3]) (by kernel_rfl) (by simp) ?_
            refine (AllReadyH.cons (get_os (get_o0)) (fun KK hKK => ?_) (AllReadyH.cons (get_os (get_os (get_os (get_o0)))) (fun KK hKK => ?_) AllReadyH.nil))
            · have c1 := (H.out.blk 3 rfl).cell 1; simp only [List.getElem?_toArray, List.getElem?_cons_zero, List.getElem?_cons_succ] at c1
              go_simp
              clear c1
              refine hKK.out _ _ trivial (fun hHeld => ?_)
              clear hKK KK
              try simp only [Act.put, List.setIfInBounds_toArray, List.set_cons_zero, List.set_cons_succ]
              refine wpAnyH_ready (rs := [3]) (by kernel_rfl) (by simp) ?_
              refine (AllReadyH.cons (get_os (get_os (get_os (get_o0)))) (fun KK hKK => ?_) AllReadyH.nil)
              go_simp
              refine (HA.out _ (H.out.rdr 0 rfl)).mono ?_; rintro e' w3 ⟨rfl, hg3, l3, hr3⟩
              replace H := Lib.hid (H.out.setRdr 0 rfl hg3 hr3); (try simp only [List.set_cons_zero, List.set_cons_succ, List.cons_append, List.nil_append, List.eraseIdx_cons_zero, List.eraseIdx_cons_succ, List.setIfInBounds_toArray, World.size_alloc, selR, List.getD_cons_zero, List.getD_cons_succ] at H)
              refine ⟨rfl, ?_⟩
              rw [HE.out, show pmany pint m [] l1 = .error e1 from HN.out]
              exact ⟨rfl, H.out.fr.grown, l3, H.out.rdr 0 rfl⟩
            · go_simp
              refine (HA.out _ (H.out.rdr 0 rfl)).mono ?_; rintro e' w3 ⟨rfl, hg3, l3, hr3⟩
              replace H := Lib.hid (H.out.setRdr 0 rfl hg3 hr3); (try simp only [List.set_cons_zero, List.set_cons_succ, List.cons_append, List.nil_append, List.eraseIdx_cons_zero, List.eraseIdx_cons_succ, List.setIfInBounds_toArray, World.size_alloc, selR, List.getD_cons_zero, List.getD_cons_succ] at H)
              refine ⟨rfl, ?_⟩
              rw [HE.out, show pmany pint m [] l1 = .error e1 from HN.out]
              exact ⟨rfl, H.out.fr.grown, l3, H.out.rdr 0 rfl⟩
          | ok q =>
            obtain ⟨v, l3⟩ := q
            have hv := int_i64 hx
            have HVL2 : Hid (∀ y ∈ vs ++ [v], I64 y) := by
              intro y hy
              rcases List.mem_append.1 hy with hy | hy
              · exact HVL.out y hy
              · rw [List.mem_singleton] at hy; subst hy; exact hv
            rw [hx] at HA HN
            have HN : Hid (pmany pint m [] l1 = pmany pint (m - (j + 1)) (vs ++ [v]) l3) := HN.out
            clear hx hv
            refine wp_region_held_drew (S := fun _ => True) (by kernel_rfl) trivial (fun hHeld => ?_)
            replace H := Lib.hid (H.out.drew); (try simp only [List.set_cons_zero, List.set_cons_succ, List.cons_append, List.nil_append, List.eraseIdx_cons_zero, List.eraseIdx_cons_succ, List.setIfInBounds_toArray, World.size_alloc, selR, List.getD_cons_zero, List.getD_cons_succ] at H)
            refine wpAnyH_take (i := 0) (v := ?vq2_0) (get_o0) (by kernel_rfl) (by kernel_rfl) (by kernel_rfl) (by exact fun _ _ _ h => h) (Or.inl ⟨by rfl, ?hyq2_0⟩) (by assumption) ?_
            case hyq2_0 => (intro w hSw; (try dsimp only at hSw); go_simp) <;> with_reducible rfl
            try simp only [Act.put, List.setIfInBounds_toArray, List.set_cons_zero, List.set_cons_succ]
            refine wpAnyH_take (i := 2) (v := ?vq2_2) (get_os (get_os (get_o0))) (by kernel_rfl) (by kernel_rfl) (by kernel_rfl) (by exact fun _ _ _ h => h) (Or.inl ⟨by rfl, ?hyq2_2⟩) (by assumption) ?_
            case hyq2_2 => (intro w hSw; (try dsimp only at hSw); go_simp) <;> with_reducible rfl
            try simp only [Act.put, List.setIfInBounds_toArray, List.set_cons_zero, List.set_cons_succ]
            refine wpAnyH_ready (rs := [1, 3]) (by kernel_rfl) (by simp) ?_
            refine (AllReadyH.cons (get_os (get_o0)) (fun KK hKK => ?_) (AllReadyH.cons (get_os (get_os (get_os (get_o0)))) (fun KK hKK => ?_) AllReadyH.nil))
            · have c1 := (H.out.blk 3 rfl).cell 1; simp only [List.getElem?_toArray, List.getElem?_cons_zero, List.getElem?_cons_succ] at c1
              go_simp
              clear c1
              refine hKK.out _ _ trivial (fun hHeld => ?_)
              clear hKK KK
              try simp only [Act.put, List.setIfInBounds_toArray, List.set_cons_zero, List.set_cons_succ]
              refine wpAnyH_ready (rs := [3]) (by kernel_rfl) (by simp) ?_
              refine (AllReadyH.cons (get_os (get_os (get_os (get_o0)))) (fun KK hKK => ?_) AllReadyH.nil)
              go_simp
              refine (HA.out _ (H.out.rdr 0 rfl)).mono ?_; rintro e' w3 ⟨rfl, hg3, hr3⟩
              replace H := Lib.hid (H.out.setRdr 0 rfl hg3 hr3); (try simp only [List.set_cons_zero, List.set_cons_succ, List.cons_append, List.nil_append, List.eraseIdx_cons_zero, List.eraseIdx_cons_succ, List.setIfInBounds_toArray, World.size_alloc, selR, List.getD_cons_zero, List.getD_cons_succ] at H)
              clear hg3 hr3
              refine hKK.out _ _ trivial (fun hHeld => ?_)
              clear hKK KK
              try simp only [Act.put, List.setIfInBounds_toArray, List.set_cons_zero, List.set_cons_succ]
              refine wpAnyH_ready (rs := [4]) (by kernel_rfl) (by simp) ?_
              refine (AllReadyH.cons (get_os (get_os (get_os (get_os (get_o0))))) (fun KK hKK => ?_) AllReadyH.nil)
              refine step_buildSlice1v rfl E_i64 (.tmp 34) rfl (.int .i64 v) rfl #[.int .i64 v] rfl rfl (by omega) ?_
              replace H := Lib.hid (H.out.alloc #[.int .i64 v] 2); (try simp only [List.set_cons_zero, List.set_cons_succ, List.cons_append, List.nil_append, List.eraseIdx_cons_zero, List.eraseIdx_cons_succ, List.setIfInBounds_toArray, World.size_alloc, selR, List.getD_cons_zero, List.getD_cons_succ] at H)
              refine hKK.out _ _ trivial (fun hHeld => ?_)
              clear hKK KK
              try simp only [Act.put, List.setIfInBounds_toArray, List.set_cons_zero, List.set_cons_succ]
              refine wpAnyH_ready (rs := [5]) (by kernel_rfl) (by simp) ?_
              refine (AllReadyH.cons (get_os (get_os (get_os (get_os (get_os (get_o0)))))) (fun KK hKK => ?_) AllReadyH.nil)
              refine step_append0 rfl (.tmp 32) (.tmp 35) _ rfl E_i64 0 (Nat.zero_le _) _ j _ rfl (H.out.row 5 rfl) _ 1 1 _ rfl (reads_of_block (H.out.blk 6 rfl) rfl) (by simp [Value.oneCell']) (by unfold maxLen; omega) (by omega) ?_
              intro vq wq howq hgq hatq
              replace H := Lib.hid (H.out.setRow 5 rfl hgq howq hatq); (try simp only [List.set_cons_zero, List.set_cons_succ, List.cons_append, List.nil_append, List.eraseIdx_cons_zero, List.eraseIdx_cons_succ, List.setIfInBounds_toArray, World.size_alloc, selR, List.getD_cons_zero, List.getD_cons_succ] at H)
              clear howq hgq hatq
              obtain ⟨B2, d2, rfl, _⟩ := own_slice (H.out.row 5 rfl)
              refine hKK.out _ _ trivial (fun hHeld => ?_)
              clear hKK KK
              try simp only [Act.put, List.setIfInBounds_toArray, List.set_cons_zero, List.set_cons_succ]
              refine wpAnyH_ready (rs := [6]) (by kernel_rfl) (by simp) ?_
              refine (AllReadyH.cons (get_os (get_os (get_os (get_os (get_os (get_os (get_o0))))))) (fun KK hKK => ?_) AllReadyH.nil)
              go_simp
              refine hKK.out _ _ trivial (fun hHeld => ?_)
              clear hKK KK
              try simp only [Act.put, List.setIfInBounds_toArray, List.set_cons_zero, List.set_cons_succ]
              refine wpAnyH_ready (rs := [7]) (by kernel_rfl) (by simp) ?_
              refine (AllReadyH.cons (get_os (get_os (get_os (get_os (get_os (get_os (get_os (get_o0)))))))) (fun KK hKK => ?_) AllReadyH.nil)
              have c1 := (H.out.blk 3 rfl).cell 1; simp only [List.getElem?_toArray, List.getElem?_cons_zero, List.getElem?_cons_succ] at c1; have f1 := (H.out.blk 3 rfl).frozen 1
              go_simp
              replace H := Lib.hid (H.out.setCell 3 rfl 1 (.slice B2 (j + 1) d2)); (try simp only [List.set_cons_zero, List.set_cons_succ, List.cons_append, List.nil_append, List.eraseIdx_cons_zero, List.eraseIdx_cons_succ, List.setIfInBounds_toArray, World.size_alloc, selR, List.getD_cons_zero, List.getD_cons_succ] at H)
              clear c1 f1
              refine hKK.out _ _ trivial (fun hHeld => ?_)
              clear hKK KK
              try simp only [Act.put, List.setIfInBounds_toArray, List.set_cons_zero, List.set_cons_succ]
              refine wpAnyH_done (by kernel_rfl) ?_ _
              clear hHeld
              replace H := Lib.hid (H.out.sel [0, 1, 2, 3, 4, 5] (by decide) (by simp)); (try simp only [List.set_cons_zero, List.set_cons_succ, List.cons_append, List.nil_append, List.eraseIdx_cons_zero, List.eraseIdx_cons_succ, List.setIfInBounds_toArray, World.size_alloc, selR, List.getD_cons_zero, List.getD_cons_succ] at H)
              go_wp2_with fail
              go_roundg (m - (j + 1))
              case rel => exact ⟨j + 1, vs ++ [v], B2, d2, l3, rfl, by omega, by go_num, by show _ = _; rw [List.length_append, hmc.out]; rfl, HVL2, by rw [List.map_append]; exact H, HN⟩
              case measure => rw [Hgj.out]; omega
            · go_simp
              refine (HA.out _ (H.out.rdr 0 rfl)).mono ?_; rintro e' w3 ⟨rfl, hg3, hr3⟩
              replace H := Lib.hid (H.out.setRdr 0 rfl hg3 hr3); (try simp only [List.set_cons_zero, List.set_cons_succ, List.cons_append, List.nil_append, List.eraseIdx_cons_zero, List.eraseIdx_cons_succ, List.setIfInBounds_toArray, World.size_alloc, selR, List.getD_cons_zero, List.getD_cons_succ] at H)
              clear hg3 hr3
              refine hKK.out _ _ trivial (fun hHeld => ?_)
              clear hKK KK
              try simp only [Act.put, List.setIfInBounds_toArray, List.set_cons_zero, List.set_cons_succ]
              refine wpAnyH_ready (rs := [1, 4]) (by kernel_rfl) (by simp) ?_
              refine (AllReadyH.cons (get_os (get_o0)) (fun KK hKK => ?_) (AllReadyH.cons (get_os (get_os (get_os (get_os (get_o0))))) (fun KK hKK => ?_) AllReadyH.nil))
              · have c1 := (H.out.blk 3 rfl).cell 1; simp only [List.getElem?_toArray, List.getElem?_cons_zero, List.getElem?_cons_succ] at c1
                go_simp
                clear c1
                refine hKK.out _ _ trivial (fun hHeld => ?_)
                clear hKK KK
                try simp only [Act.put, List.setIfInBounds_toArray, List.set_cons_zero, List.set_cons_succ]
                refine wpAnyH_ready (rs := [4]) (by kernel_rfl) (by simp) ?_
                refine (AllReadyH.cons (get_os (get_os (get_os (get_os (get_o0))))) (fun KK hKK => ?_) AllReadyH.nil)
                refine step_buildSlice1v rfl E_i64 (.tmp 34) rfl (.int .i64 v) rfl #[.int .i64 v] rfl rfl (by omega) ?_
                replace H := Lib.hid (H.out.alloc #[.int .i64 v] 2); (try simp only [List.set_cons_zero, List.set_cons_succ, List.cons_append, List.nil_append, List.eraseIdx_cons_zero, List.eraseIdx_cons_succ, List.setIfInBounds_toArray, World.size_alloc, selR, List.getD_cons_zero, List.getD_cons_succ] at H)
                refine hKK.out _ _ trivial (fun hHeld => ?_)
                clear hKK KK
                try simp only [Act.put, List.setIfInBounds_toArray, List.set_cons_zero, List.set_cons_succ]
                refine wpAnyH_ready (rs := [5]) (by kernel_rfl) (by simp) ?_
                refine (AllReadyH.cons (get_os (get_os (get_os (get_os (get_os (get_o0)))))) (fun KK hKK => ?_) AllReadyH.nil)
                refine step_append0 rfl (.tmp 32) (.tmp 35) _ rfl E_i64 0 (Nat.zero_le _) _ j _ rfl (H.out.row 5 rfl) _ 1 1 _ rfl (reads_of_block (H.out.blk 6 rfl) rfl) (by simp [Value.oneCell']) (by unfold maxLen; omega) (by omega) ?_
                intro vq wq howq hgq hatq
                replace H := Lib.hid (H.out.setRow 5 rfl hgq howq hatq); (try simp only [List.set_cons_zero, List.set_cons_succ, List.cons_append, List.nil_append, List.eraseIdx_cons_zero, List.eraseIdx_cons_succ, List.setIfInBounds_toArray, World.size_alloc, selR, List.getD_cons_zero, List.getD_cons_succ] at H)
                clear howq hgq hatq
                obtain ⟨B2, d2, rfl, _⟩ := own_slice (H.out.row 5 rfl)
                refine hKK.out _ _ trivial (fun hHeld => ?_)
                clear hKK KK
                try simp only [Act.put, List.setIfInBounds_toArray, List.set_cons_zero, List.set_cons_succ]
                refine wpAnyH_ready (rs := [6]) (by kernel_rfl) (by simp) ?_
                refine (AllReadyH.cons (get_os (get_os (get_os (get_os (get_os (get_os (get_o0))))))) (fun KK hKK => ?_) AllReadyH.nil)
                go_simp
                refine hKK.out _ _ trivial (fun hHeld => ?_)
                clear hKK KK
                try simp only [Act.put, List.setIfInBounds_toArray, List.set_cons_zero, List.set_cons_succ]
                refine wpAnyH_ready (rs := [7]) (by kernel_rfl) (by simp) ?_
                refine (AllReadyH.cons (get_os (get_os (get_os (get_os (get_os (get_os (get_os (get_o0)))))))) (fun KK hKK => ?_) AllReadyH.nil)
                have c1 := (H.out.blk 3 rfl).cell 1; simp only [List.getElem?_toArray, List.getElem?_cons_zero, List.getElem?_cons_succ] at c1; have f1 := (H.out.blk 3 rfl).frozen 1
                go_simp
                replace H := Lib.hid (H.out.setCell 3 rfl 1 (.slice B2 (j + 1) d2)); (try simp only [List.set_cons_zero, List.set_cons_succ, List.cons_append, List.nil_append, List.eraseIdx_cons_zero, List.eraseIdx_cons_succ, List.setIfInBounds_toArray, World.size_alloc, selR, List.getD_cons_zero, List.getD_cons_succ] at H)
                clear c1 f1
                refine hKK.out _ _ trivial (fun hHeld => ?_)
                clear hKK KK
                try simp only [Act.put, List.setIfInBounds_toArray, List.set_cons_zero, List.set_cons_succ]
                refine wpAnyH_done (by kernel_rfl) ?_ _
                clear hHeld
                replace H := Lib.hid (H.out.sel [0, 1, 2, 3, 4, 5] (by decide) (by simp)); (try simp only [List.set_cons_zero, List.set_cons_succ, List.cons_append, List.nil_append, List.eraseIdx_cons_zero, List.eraseIdx_cons_succ, List.setIfInBounds_toArray, World.size_alloc, selR, List.getD_cons_zero, List.getD_cons_succ] at H)
                go_wp2_with fail
                go_roundg (m - (j + 1))
                case rel => exact ⟨j + 1, vs ++ [v], B2, d2, l3, rfl, by omega, by go_num, by show _ = _; rw [List.length_append, hmc.out]; rfl, HVL2, by rw [List.map_append]; exact H, HN⟩
                case measure => rw [Hgj.out]; omega
              · refine step_buildSlice1v rfl E_i64 (.tmp 34) rfl (.int .i64 v) rfl #[.int .i64 v] rfl rfl (by omega) ?_
                replace H := Lib.hid (H.out.alloc #[.int .i64 v] 2); (try simp only [List.set_cons_zero, List.set_cons_succ, List.cons_append, List.nil_append, List.eraseIdx_cons_zero, List.eraseIdx_cons_succ, List.setIfInBounds_toArray, World.size_alloc, selR, List.getD_cons_zero, List.getD_cons_succ] at H)
                refine hKK.out _ _ trivial (fun hHeld => ?_)
                clear hKK KK
                try simp only [Act.put, List.setIfInBounds_toArray, List.set_cons_zero, List.set_cons_succ]
                refine wpAnyH_ready (rs := [1]) (by kernel_rfl) (by simp) ?_
                refine (AllReadyH.cons (get_os (get_o0)) (fun KK hKK => ?_) AllReadyH.nil)
                have c1 := (H.out.blk 3 rfl).cell 1; simp only [List.getElem?_toArray, List.getElem?_cons_zero, List.getElem?_cons_succ] at c1
                go_simp
                clear c1
                refine hKK.out _ _ trivial (fun hHeld => ?_)
                clear hKK KK
                try simp only [Act.put, List.setIfInBounds_toArray, List.set_cons_zero, List.set_cons_succ]
                refine wpAnyH_ready (rs := [5]) (by kernel_rfl) (by simp) ?_
                refine (AllReadyH.cons (get_os (get_os (get_os (get_os (get_os (get_o0)))))) (fun KK hKK => ?_) AllReadyH.nil)
                refine step_append0 rfl (.tmp 32) (.tmp 35) _ rfl E_i64 0 (Nat.zero_le _) _ j _ rfl (H.out.row 5 rfl) _ 1 1 _ rfl (reads_of_block (H.out.blk 6 rfl) rfl) (by simp [Value.oneCell']) (by unfold maxLen; omega) (by omega) ?_
                intro vq wq howq hgq hatq
                replace H := Lib.hid (H.out.setRow 5 rfl hgq howq hatq); (try simp only [List.set_cons_zero, List.set_cons_succ, List.cons_append, List.nil_append, List.eraseIdx_cons_zero, List.eraseIdx_cons_succ, List.setIfInBounds_toArray, World.size_alloc, selR, List.getD_cons_zero, List.getD_cons_succ] at H)
                clear howq hgq hatq
                obtain ⟨B2, d2, rfl, _⟩ := own_slice (H.out.row 5 rfl)
                refine hKK.out _ _ trivial (fun hHeld => ?_)
                clear hKK KK
                try simp only [Act.put, List.setIfInBounds_toArray, List.set_cons_zero, List.set_cons_succ]
                refine wpAnyH_ready (rs := [6]) (by kernel_rfl) (by simp) ?_
                refine (AllReadyH.cons (get_os (get_os (get_os (get_os (get_os (get_os (get_o0))))))) (fun KK hKK => ?_) AllReadyH.nil)
                go_simp
                refine hKK.out _ _ trivial (fun hHeld => ?_)
                clear hKK KK
                try simp only [Act.put, List.setIfInBounds_toArray, List.set_cons_zero, List.set_cons_succ]
                refine wpAnyH_ready (rs := [7]) (by kernel_rfl) (by simp) ?_
                refine (AllReadyH.cons (get_os (get_os (get_os (get_os (get_os (get_os (get_os (get_o0)))))))) (fun KK hKK => ?_) AllReadyH.nil)
                have c1 := (H.out.blk 3 rfl).cell 1; simp only [List.getElem?_toArray, List.getElem?_cons_zero, List.getElem?_cons_succ] at c1; have f1 := (H.out.blk 3 rfl).frozen 1
                go_simp
                replace H := Lib.hid (H.out.setCell 3 rfl 1 (.slice B2 (j + 1) d2)); (try simp only [List.set_cons_zero, List.set_cons_succ, List.cons_append, List.nil_append, List.eraseIdx_cons_zero, List.eraseIdx_cons_succ, List.setIfInBounds_toArray, World.size_alloc, selR, List.getD_cons_zero, List.getD_cons_succ] at H)
                clear c1 f1
                refine hKK.out _ _ trivial (fun hHeld => ?_)
                clear hKK KK
                try simp only [Act.put, List.setIfInBounds_toArray, List.set_cons_zero, List.set_cons_succ]
                refine wpAnyH_done (by kernel_rfl) ?_ _
                clear hHeld
                replace H := Lib.hid (H.out.sel [0, 1, 2, 3, 4, 5] (by decide) (by simp)); (try simp only [List.set_cons_zero, List.set_cons_succ, List.cons_append, List.nil_append, List.eraseIdx_cons_zero, List.eraseIdx_cons_succ, List.setIfInBounds_toArray, World.size_alloc, selR, List.getD_cons_zero, List.getD_cons_succ] at H)
                go_wp2_with fail
                go_roundg (m - (j + 1))
                case rel => exact ⟨j + 1, vs ++ [v], B2, d2, l3, rfl, by omega, by go_num, by show _ = _; rw [List.length_append, hmc.out]; rfl, HVL2, by rw [List.map_append]; exact H, HN⟩
                case measure => rw [Hgj.out]; omega
        · have HN : Hid (prow k m l = .ok (⟨ts, vs⟩, l')) := by show _ = _; rw [HE.out, HP.out, show m - j = 0 by omega]; rfl
          clear HP HE
          replace H := Lib.hid (H.out.both 4 5 (by omega) rfl rfl (rRw ⟨⟨A, k, c, ts⟩, ⟨B, j, e, vs⟩⟩) (holds_rw (H.out.get 4 rfl) (H.out.get 5 rfl) HTL.out HVL.out hn (by omega)) (fun g hg => hg)); (try simp only [List.set_cons_zero, List.set_cons_succ, List.cons_append, List.nil_append, List.eraseIdx_cons_zero, List.eraseIdx_cons_succ, List.setIfInBounds_toArray, World.size_alloc, selR, List.getD_cons_zero, List.getD_cons_succ] at H)
          obtain ⟨D, hD⟩ : ∃ D : Rw, D = ⟨⟨A, k, c, ts⟩, ⟨B, j, e, vs⟩⟩ := ⟨_, rfl⟩
          have hDs : D.cs = #[.slice A k c, .slice B j e] := by rw [hD]
          have hDc : D.con = ⟨ts, vs⟩ := by rw [hD]
          rw [← hD, ← hDs] at H
          rw [← hDc] at HN
          clear hD hDs hDc
          go_wp2_with (first | ((with_reducible show wpList _ _ _ (⟨some 39, _, _, _, _, _⟩ :: _) _ _); (refine wpList_load_blk rfl rowRw (.tmp 5) rfl _ rfl (H.out.blk 3 rfl) rfl ?_)) | ((with_reducible show wpList _ _ _ (⟨_, .store _ (.tmp 4) _, _, _, _, _⟩ :: _) _ _); (refine wpList_store_blk rfl rowRw (.tmp 4) (.tmp 39) rfl _ rfl (H.out.blk 2 rfl) rfl (D.cs) rfl rfl (rw_one D) ?_; intro wq bq hgq; replace H := Lib.hid (H.out.setBlk 2 rfl hgq bq); (try simp only [List.set_cons_zero, List.set_cons_succ, List.cons_append, List.nil_append, List.eraseIdx_cons_zero, List.eraseIdx_cons_succ, List.setIfInBounds_toArray, World.size_alloc, selR, List.getD_cons_zero, List.getD_cons_succ] at H); clear hgq bq)))
          refine bodyPost_ret (results_blk1 rfl rowRw rfl (H.out.blk 2 rfl) rfl) rfl ?_
          rw [HN.out]
          exact ⟨D, rfl, rfl, H.out.fr.grown, H.out.rdr 0 rfl, H.out.get 4 rfl, H.out.new1 4 0 (by omega) rfl rfl rfl⟩

end Go.Proofs.Ytnjpoamebkehbaa
