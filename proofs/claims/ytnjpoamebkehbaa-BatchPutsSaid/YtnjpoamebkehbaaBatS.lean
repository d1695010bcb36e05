/- The document's Take of batches. -/
import Derived.Test.YtnjpoamebkehbaaBatX
import Derived.Test.YtnjpoamebkehbaaBatT
namespace Go.Proofs.Ytnjpoamebkehbaa
open Go.RowKit
set_option linter.unusedVariables false
set_option linter.unusedSimpArgs false

theorem rwr_one (A B : Option Addr) (n c m d : Nat) : ∀ u ∈ ([.slice A n c, .slice B m d] : List Value), u.oneCell' = true := by simp [Value.oneCell']
set_option maxRecDepth 100000 in
set_option maxHeartbeats 4000000 in
theorem rbattake_any (d : Sch) (s : List UInt8) (w : World) (hd : d.rd w) (hs : s.length ≤ 1000001) (hn : d.dm.n ≤ 1000000) (hm : d.ms.n ≤ 1000000) (hdd : ∀ x ∈ d.dm.l, x.tr.n ≤ 1000000 ∧ ∀ t ∈ x.tr.l, t.up.n ≤ 100000) :
    Calls Try.prog 58 #[.agg d.cs, .string ⟨s.toArray⟩] w (Tkbat (battake d.con s) w) := by
  have HC := Lib.hid (fun w' (hb : Bel w w') => schwrong_any d w' (hd.mono hb) hn hm (fun x hx => (hdd x hx).1))
  have HBC := Lib.hid (fun (X : Row Rw) w' (hX : X.rd w') (hb : Bel w w') => rbwrong_any d X w' (hd.mono hb) hX hn hm hdd)
  have hl1 : d.con.dims.length = d.dm.n := by have : d.dm.l.length = d.dm.n := hd.dm.len; simpa using this
  have hl2 : d.con.ms.length = d.ms.n := by have : d.ms.l.length = d.ms.n := hd.ms.len; simpa using this
  have H := Lib.hid ((SL.start No w).alloc d.cs 70)
  (try simp only [List.set_cons_zero, List.set_cons_succ, List.cons_append, List.nil_append, List.eraseIdx_cons_zero, List.eraseIdx_cons_succ, List.setIfInBounds_toArray, World.size_alloc, selR, List.getD_cons_zero, List.getD_cons_succ] at H)
  clear hd hdd
  generalize d.con = dc at HC HBC hl1 hl2 ⊢
  obtain ⟨⟨DA, N, cN, ds⟩, ⟨MB, M, cM, ms⟩⟩ := d
  simp only [Sch.cs] at *
  by_cases hE : schErr dc = 0
  · obtain ⟨_, q2, _, _, q5, _⟩ := schErr_zero hE
    have hn16 : N ≤ 16 := by omega
    have hm3 : M ≤ 3 := by omega
    have HT0 : Hid (battake dc s = match prws N M s with
      | .error k => ([], k)
      | .ok (rows, r) => if r = [] then (if batErr dc rows = 0 then (rows, 0) else ([], batErr dc rows)) else ([], 3)) := by
      show _ = _
      unfold battake
      rw [if_neg (by omega), hl1, hl2]
      rfl
    rw [hE] at HC
    clear hE q2 q5 hl1 hl2
    have hrn := fun w => rnum00_any s 0 300 hs (by omega) (by omega) (by omega) w
    simp only [List.drop_zero] at hrn
    have HRN := Lib.hid hrn
    clear hrn
    go_enter Try.func58, Try.ntmps58
    go_wp2_with ((with_reducible show wpList _ _ _ (⟨some 16, _, _, _, _, _⟩ :: _) _ _); (refine wpList_load_blk rfl rowSch (.tmp 2) rfl _ rfl (H.out.blk 0 rfl) rfl ?_))
    refine (HC.out _ H.out.to).mono ?_; rintro e w1 ⟨rfl, hb1⟩
    replace H := Lib.hid (H.out.bel hb1); (try simp only [List.set_cons_zero, List.set_cons_succ, List.cons_append, List.nil_append, List.eraseIdx_cons_zero, List.eraseIdx_cons_succ, List.setIfInBounds_toArray, World.size_alloc, selR, List.getD_cons_zero, List.getD_cons_succ] at H)
    clear hb1 HC
    generalize w.heap.size = x at *
    go_wp2_with fail
    refine (HRN.out _).mono ?_; rintro e w2 ⟨t, kk, n, rfl, hb2, hn300, HS⟩
    replace H := Lib.hid (H.out.bel hb2); (try simp only [List.set_cons_zero, List.set_cons_succ, List.cons_append, List.nil_append, List.eraseIdx_cons_zero, List.eraseIdx_cons_succ, List.setIfInBounds_toArray, World.size_alloc, selR, List.getD_cons_zero, List.getD_cons_succ] at H)
    have HI := Lib.hid (LInv.startW (D := N) (M := M) HS.out)
    clear hb2 HRN HS
    go_wp2_with ((with_reducible show wpList _ _ _ (⟨_, .store _ (.tmp 7) _, _, _, _, _⟩ :: _) _ _); (refine wpList_store_new rfl rowScn (.tmp 7) (.tmp 25) rfl rfl rfl (scs s t kk) rfl rfl (scs_one _ _ _) ?_; replace H := Lib.hid (H.out.alloc (scs s t kk) 47); (try simp only [List.set_cons_zero, List.set_cons_succ, List.cons_append, List.nil_append, List.eraseIdx_cons_zero, List.eraseIdx_cons_succ, List.setIfInBounds_toArray, World.size_alloc, selR, List.getD_cons_zero, List.getD_cons_succ] at H)))
    generalize w2.heap.size = a at *
    generalize World.alloc _ _ = w3 at *
    replace H := Lib.hid (H.out.addNil 88 2); (try simp only [List.set_cons_zero, List.set_cons_succ, List.cons_append, List.nil_append, List.eraseIdx_cons_zero, List.eraseIdx_cons_succ, List.setIfInBounds_toArray, World.size_alloc, selR, List.getD_cons_zero, List.getD_cons_succ] at H)
    replace H := Lib.hid (H.out.add (Bel.refl _) (rList rRw []) (holds_list_nil _ _) list_nil_D); (try simp only [List.set_cons_zero, List.set_cons_succ, List.cons_append, List.nil_append, List.eraseIdx_cons_zero, List.eraseIdx_cons_succ, List.setIfInBounds_toArray, World.size_alloc, selR, List.getD_cons_zero, List.getD_cons_succ] at H)
    go_loopg [9, 10] n (fun gg s9 s10 wr => ∃ (k : Nat) (rows : List Rw) (B : Option Addr) (c : Nat) (t kk : Int), gg = n - k ∧ k ≤ n ∧ s10 = .int .i64 k ∧ s9 = .slice B k c ∧ Hid (rows.length = k) ∧ Hid (SL No w wr [rBlk x 70 #[.slice DA N cN, .slice MB M cM], rBlk a 47 (scs s t kk), rRow 88 2 (.slice B k c) k (rows.flatMap Cel.cells), rList rRw rows]) ∧ Hid (LInv s (prws N M s) (prow N M) n k (rows.map Rw.con) t kk))
    case atStart => exact ⟨0, [], none, 0, t, kk, rfl, by omega, rfl, rfl, rfl, H, HI⟩
    case round =>
      clear H HI
      obtain ⟨k, rows, B, c, t, kk, hgk, hk, rfl, rfl, hac, H, HI⟩ := hrel
      obtain ⟨W0, hW0⟩ : ∃ W0, W0 = wr := ⟨_, rfl⟩
      subst hW0
      have Hgk := Lib.hid hgk
      have hk300 : k ≤ 300 := by omega
      clear hgk
      have c2 := (H.out.blk 1 rfl).cell 2; simp only [List.getElem?_toArray, List.getElem?_cons_zero, List.getElem?_cons_succ] at c2
      by_cases hgo : kk = 0 ∧ k < n
      · obtain ⟨rfl, hlt⟩ := hgo
        obtain ⟨tn, rfl, htn, hE⟩ := HI.out.good
        have HStep := Lib.hid (fun x t' k' (hS : SRes s (prow N M (s.drop tn)) t' k' x) => LInv.step hlt hE hS)
        clear hE HI
        go_upto_region 10 with fail
        replace H := Lib.hid (H.out.alloc #[.slice none 0 0, .slice none 0 0] 88); (try simp only [List.set_cons_zero, List.set_cons_succ, List.cons_append, List.nil_append, List.eraseIdx_cons_zero, List.eraseIdx_cons_succ, List.setIfInBounds_toArray, World.size_alloc, selR, List.getD_cons_zero, List.getD_cons_succ] at H)
        replace H := Lib.hid (H.out.addNil 9 1); (try simp only [List.set_cons_zero, List.set_cons_succ, List.cons_append, List.nil_append, List.eraseIdx_cons_zero, List.eraseIdx_cons_succ, List.setIfInBounds_toArray, World.size_alloc, selR, List.getD_cons_zero, List.getD_cons_succ] at H)
        have c0 := (H.out.blk 0 rfl).cell 0; simp only [List.getElem?_toArray, List.getElem?_cons_zero, List.getElem?_cons_succ] at c0
        go_wp2_with fail
        clear c0 c2
        generalize W0.heap.size = y at *
        generalize W0.alloc (.cells #[.slice none 0 0, .slice none 0 0] 88) = w5 at *
        obtain ⟨o1, ho1⟩ : ∃ o1, o1 = pmany ptrm N [] (s.drop tn) := ⟨_, rfl⟩
        have HI : Hid (LInv s o1 ptrm N 0 [] tn 0) := .inr ⟨rfl, tn, rfl, htn, by rw [ho1, Nat.sub_zero]⟩
        have HO1 := Lib.hid ho1
        clear ho1
        have HTL : Hid (∀ t ∈ ([] : List (List UInt8)), t.length ≤ 16) := by show ∀ t ∈ ([] : List (List UInt8)), _; intro t ht; cases ht
        obtain ⟨t0, ht0⟩ : ∃ t0 : Int, t0 = tn := ⟨_, rfl⟩
        obtain ⟨k0, hk0⟩ : ∃ k0 : Int, k0 = 0 := ⟨_, rfl⟩
        rw [← ht0, ← hk0] at H HI
        clear ht0 hk0
        go_loopg [40] N (fun gg s40 wx => ∃ (j : Nat) (ts : List (List UInt8)) (A : Option Addr) (c3 : Nat) (t kk : Int), gg = N - j ∧ j ≤ N ∧ s40 = .int .i64 j ∧ Hid (ts.length = j) ∧ Hid (∀ t ∈ ts, t.length ≤ 16) ∧ Hid (SL No w wx [rBlk x 70 #[.slice DA N cN, .slice MB M cM], rBlk a 47 (scs s t kk), rRow 88 2 (.slice B k c) k (rows.flatMap Cel.cells), rList rRw rows, rBlk y 88 #[.slice A j c3, .slice none 0 0], rRow 9 1 (.slice A j c3) j (ts.map tx)]) ∧ Hid (LInv s o1 ptrm N j ts t kk))
        case atStart => exact ⟨0, [], none, 0, t0, k0, rfl, by omega, rfl, rfl, HTL, H, HI⟩
        case round =>
          clear H HI HTL t0 k0
          obtain ⟨j, ts, A, c3, t, kk, hgj, hj, rfl, htc, HTL, H, HI⟩ := hrel
          have Hgj := Lib.hid hgj
          clear hgj
          by_cases hjlt : j < N
          · have HX := Lib.hid (rtextN_any s t kk 16 HI.out.st hs (by omega) (by omega))
            have HNx := Lib.hid (fun t' k' x (h : Nxt s ptrm t kk t' k' x) => HI.out.next hjlt h)
            clear HI
            go_wp2_with ((with_reducible show wpList _ _ _ (⟨some 43, _, _, _, _, _⟩ :: _) _ _); (refine wpList_load_blk rfl rowScn (.tmp 7) rfl _ rfl (H.out.blk 1 rfl) rfl ?_))
            refine (HX.out _).mono ?_; rintro e w6 ⟨t1, k1, lb, rfl, hb6, hlb, hN⟩
            replace H := Lib.hid (H.out.bel hb6); (try simp only [List.set_cons_zero, List.set_cons_succ, List.cons_append, List.nil_append, List.eraseIdx_cons_zero, List.eraseIdx_cons_succ, List.setIfInBounds_toArray, World.size_alloc, selR, List.getD_cons_zero, List.getD_cons_succ] at H)
            have HI2 := Lib.hid (HNx.out _ _ _ hN.out.trm)
            have HIs := Lib.hid (fun w => is_any lb w (by omega))
            have HTL2 : Hid (∀ y ∈ ts ++ [lb], y.length ≤ 16) := by
              intro y hy
              rcases List.mem_append.1 hy with hy | hy
              · exact HTL.out y hy
              · rw [List.mem_singleton] at hy; subst hy; omega
            clear hb6 HX HNx hN HTL
            go_upto_region 13 with ((with_reducible show wpList _ _ _ (⟨_, .store _ (.tmp 12) _, _, _, _, _⟩ :: _) _ _); (refine wpList_store_new rfl rowScn (.tmp 12) (.tmp 45) rfl rfl rfl (scs s t1 k1) rfl rfl (scs_one _ _ _) ?_; replace H := Lib.hid (H.out.alloc (scs s t1 k1) 47); (try simp only [List.set_cons_zero, List.set_cons_succ, List.cons_append, List.nil_append, List.eraseIdx_cons_zero, List.eraseIdx_cons_succ, List.setIfInBounds_toArray, World.size_alloc, selR, List.getD_cons_zero, List.getD_cons_succ] at H)))
            refine wp_region_held_drew (S := fun _ => True) (by kernel_rfl) trivial (fun hHeld => ?_)
            replace H := Lib.hid (H.out.drew); (try simp only [List.set_cons_zero, List.set_cons_succ, List.cons_append, List.nil_append, List.eraseIdx_cons_zero, List.eraseIdx_cons_succ, List.setIfInBounds_toArray, World.size_alloc, selR, List.getD_cons_zero, List.getD_cons_succ] at H)
            refine wpAnyH_take (i := 1) (v := ?vq1_1) (get_os (get_o0)) (by kernel_rfl) (by kernel_rfl) (by kernel_rfl) (by exact fun _ _ _ h => h) (Or.inl ⟨by rfl, ?hyq1_1⟩) (by assumption) ?_
            case hyq1_1 => (intro w hSw; (try dsimp only at hSw); go_simp) <;> with_reducible rfl
            try simp only [Act.put, List.setIfInBounds_toArray, List.set_cons_zero, List.set_cons_succ]
            refine wpAnyH_ready (rs := [0, 2]) (by kernel_rfl) (by simp) ?_
            refine (AllReadyH.cons (get_o0) (fun KK hKK => ?_) (AllReadyH.cons (get_os (get_os (get_o0))) (fun KK hKK => ?_) AllReadyH.nil))
            · refine step_load_blk rfl rowScn (.tmp 12) rfl _ rfl (H.out.blk 6 rfl) rfl ?_
              refine hKK.out _ _ trivial (fun hHeld => ?_)
              clear hKK KK
              try simp only [Act.put, List.setIfInBounds_toArray, List.set_cons_zero, List.set_cons_succ]
              refine wpAnyH_ready (rs := [2]) (by kernel_rfl) (by simp) ?_
              refine (AllReadyH.cons (get_os (get_os (get_o0))) (fun KK hKK => ?_) AllReadyH.nil)
              go_simp
              refine (HIs.out _).mono ?_; rintro e' w3 ⟨rfl, rfl⟩
              refine hKK.out _ _ trivial (fun hHeld => ?_)
              clear hKK KK
              try simp only [Act.put, List.setIfInBounds_toArray, List.set_cons_zero, List.set_cons_succ]
              refine wpAnyH_ready (rs := [3]) (by kernel_rfl) (by simp) ?_
              refine (AllReadyH.cons (get_os (get_os (get_os (get_o0)))) (fun KK hKK => ?_) AllReadyH.nil)
              go_simp
              refine (rwant_any s t1 k1 3 (isTerm lb) _).mono ?_; rintro e' w3 ⟨rfl, hb3⟩
              replace H := Lib.hid (H.out.bel hb3); (try simp only [List.set_cons_zero, List.set_cons_succ, List.cons_append, List.nil_append, List.eraseIdx_cons_zero, List.eraseIdx_cons_succ, List.setIfInBounds_toArray, World.size_alloc, selR, List.getD_cons_zero, List.getD_cons_succ] at H)
              clear hb3
              refine hKK.out _ _ trivial (fun hHeld => ?_)
              clear hKK KK
              try simp only [Act.put, List.setIfInBounds_toArray, List.set_cons_zero, List.set_cons_succ]
              refine wpAnyH_ready (rs := [4]) (by kernel_rfl) (by simp) ?_
              refine (AllReadyH.cons (get_os (get_os (get_os (get_os (get_o0))))) (fun KK hKK => ?_) AllReadyH.nil)
              refine step_store_blk rfl rowScn (.tmp 7) (.tmp 50) rfl _ rfl (H.out.blk 1 rfl) rfl (scs s t1 (wantK k1 (isTerm lb) 3)) rfl rfl (scs_one _ _ _) ?_
              intro wq bq hgq
              replace H := Lib.hid (H.out.setBlk 1 rfl hgq bq); (try simp only [List.set_cons_zero, List.set_cons_succ, List.cons_append, List.nil_append, List.eraseIdx_cons_zero, List.eraseIdx_cons_succ, List.setIfInBounds_toArray, World.size_alloc, selR, List.getD_cons_zero, List.getD_cons_succ] at H)
              clear hgq bq
              refine hKK.out _ _ trivial (fun hHeld => ?_)
              clear hKK KK
              try simp only [Act.put, List.setIfInBounds_toArray, List.set_cons_zero, List.set_cons_succ]
              refine wpAnyH_done (by kernel_rfl) ?_ _
              clear hHeld
              have c1 := (H.out.blk 4 rfl).cell 0; simp only [List.getElem?_toArray, List.getElem?_cons_zero, List.getElem?_cons_succ] at c1
              go_wp2_with ((with_reducible show wpList _ _ _ (⟨some 55, _, _, _, _, _⟩ :: _) _ _); (replace H := Lib.hid (H.out.alloc #[.string ⟨lb.toArray⟩] 9); (try simp only [List.set_cons_zero, List.set_cons_succ, List.cons_append, List.nil_append, List.eraseIdx_cons_zero, List.eraseIdx_cons_succ, List.setIfInBounds_toArray, World.size_alloc, selR, List.getD_cons_zero, List.getD_cons_succ] at H); refine wpList_append0 rfl (.tmp 52) (.tmp 54) _ rfl E_text 0 (Nat.zero_le _) _ j _ rfl (H.out.row 5 rfl) _ 1 1 [.string ⟨lb.toArray⟩] rfl (reads_of_block (H.out.blk 7 rfl) rfl) (by simp [Value.oneCell']) (by unfold maxLen; omega) (by omega) ?_; intro vq wq howq hgq hatq; replace H := Lib.hid (H.out.setRow 5 rfl hgq howq hatq); (try simp only [List.set_cons_zero, List.set_cons_succ, List.cons_append, List.nil_append, List.eraseIdx_cons_zero, List.eraseIdx_cons_succ, List.setIfInBounds_toArray, World.size_alloc, selR, List.getD_cons_zero, List.getD_cons_succ] at H); clear howq hgq hatq; obtain ⟨A2, c2, rfl, _⟩ := own_slice (H.out.row 5 rfl); clear c1; have c1 := (H.out.blk 4 rfl).cell 0; simp only [List.getElem?_toArray, List.getElem?_cons_zero, List.getElem?_cons_succ] at c1; have f1 := (H.out.blk 4 rfl).frozen 0))
              replace H := Lib.hid (H.out.setCell 4 rfl 0 (.slice A2 (j + 1) c2)); (try simp only [List.set_cons_zero, List.set_cons_succ, List.cons_append, List.nil_append, List.eraseIdx_cons_zero, List.eraseIdx_cons_succ, List.setIfInBounds_toArray, World.size_alloc, selR, List.getD_cons_zero, List.getD_cons_succ] at H)
              replace H := Lib.hid (H.out.sel [0, 1, 2, 3, 4, 5] (by decide) (by simp)); (try simp only [List.set_cons_zero, List.set_cons_succ, List.cons_append, List.nil_append, List.eraseIdx_cons_zero, List.eraseIdx_cons_succ, List.setIfInBounds_toArray, World.size_alloc, selR, List.getD_cons_zero, List.getD_cons_succ] at H)
              clear c1 f1
              go_wp2_with fail
              go_roundg (N - (j + 1))
              case rel => exact ⟨j + 1, ts ++ [lb], A2, c2, t1, wantK k1 (isTerm lb) 3, rfl, by omega, by go_num, by show _ = _; rw [List.length_append, htc.out]; rfl, HTL2, by rw [List.map_append]; exact H, HI2⟩
              case measure => rw [Hgj.out]; omega
            · go_simp
              refine (HIs.out _).mono ?_; rintro e' w3 ⟨rfl, rfl⟩
              refine hKK.out _ _ trivial (fun hHeld => ?_)
              clear hKK KK
              try simp only [Act.put, List.setIfInBounds_toArray, List.set_cons_zero, List.set_cons_succ]
              refine wpAnyH_ready (rs := [0]) (by kernel_rfl) (by simp) ?_
              refine (AllReadyH.cons (get_o0) (fun KK hKK => ?_) AllReadyH.nil)
              refine step_load_blk rfl rowScn (.tmp 12) rfl _ rfl (H.out.blk 6 rfl) rfl ?_
              refine hKK.out _ _ trivial (fun hHeld => ?_)
              clear hKK KK
              try simp only [Act.put, List.setIfInBounds_toArray, List.set_cons_zero, List.set_cons_succ]
              refine wpAnyH_ready (rs := [3]) (by kernel_rfl) (by simp) ?_
              refine (AllReadyH.cons (get_os (get_os (get_os (get_o0)))) (fun KK hKK => ?_) AllReadyH.nil)
              go_simp
              refine (rwant_any s t1 k1 3 (isTerm lb) _).mono ?_; rintro e' w3 ⟨rfl, hb3⟩
              replace H := Lib.hid (H.out.bel hb3); (try simp only [List.set_cons_zero, List.set_cons_succ, List.cons_append, List.nil_append, List.eraseIdx_cons_zero, List.eraseIdx_cons_succ, List.setIfInBounds_toArray, World.size_alloc, selR, List.getD_cons_zero, List.getD_cons_succ] at H)
              clear hb3
              refine hKK.out _ _ trivial (fun hHeld => ?_)
              clear hKK KK
              try simp only [Act.put, List.setIfInBounds_toArray, List.set_cons_zero, List.set_cons_succ]
              refine wpAnyH_ready (rs := [4]) (by kernel_rfl) (by simp) ?_
              refine (AllReadyH.cons (get_os (get_os (get_os (get_os (get_o0))))) (fun KK hKK => ?_) AllReadyH.nil)
              refine step_store_blk rfl rowScn (.tmp 7) (.tmp 50) rfl _ rfl (H.out.blk 1 rfl) rfl (scs s t1 (wantK k1 (isTerm lb) 3)) rfl rfl (scs_one _ _ _) ?_
              intro wq bq hgq
              replace H := Lib.hid (H.out.setBlk 1 rfl hgq bq); (try simp only [List.set_cons_zero, List.set_cons_succ, List.cons_append, List.nil_append, List.eraseIdx_cons_zero, List.eraseIdx_cons_succ, List.setIfInBounds_toArray, World.size_alloc, selR, List.getD_cons_zero, List.getD_cons_succ] at H)
              clear hgq bq
              refine hKK.out _ _ trivial (fun hHeld => ?_)
              clear hKK KK
              try simp only [Act.put, List.setIfInBounds_toArray, List.set_cons_zero, List.set_cons_succ]
              refine wpAnyH_done (by kernel_rfl) ?_ _
              clear hHeld
              have c1 := (H.out.blk 4 rfl).cell 0; simp only [List.getElem?_toArray, List.getElem?_cons_zero, List.getElem?_cons_succ] at c1
              go_wp2_with ((with_reducible show wpList _ _ _ (⟨some 55, _, _, _, _, _⟩ :: _) _ _); (replace H := Lib.hid (H.out.alloc #[.string ⟨lb.toArray⟩] 9); (try simp only [List.set_cons_zero, List.set_cons_succ, List.cons_append, List.nil_append, List.eraseIdx_cons_zero, List.eraseIdx_cons_succ, List.setIfInBounds_toArray, World.size_alloc, selR, List.getD_cons_zero, List.getD_cons_succ] at H); refine wpList_append0 rfl (.tmp 52) (.tmp 54) _ rfl E_text 0 (Nat.zero_le _) _ j _ rfl (H.out.row 5 rfl) _ 1 1 [.string ⟨lb.toArray⟩] rfl (reads_of_block (H.out.blk 7 rfl) rfl) (by simp [Value.oneCell']) (by unfold maxLen; omega) (by omega) ?_; intro vq wq howq hgq hatq; replace H := Lib.hid (H.out.setRow 5 rfl hgq howq hatq); (try simp only [List.set_cons_zero, List.set_cons_succ, List.cons_append, List.nil_append, List.eraseIdx_cons_zero, List.eraseIdx_cons_succ, List.setIfInBounds_toArray, World.size_alloc, selR, List.getD_cons_zero, List.getD_cons_succ] at H); clear howq hgq hatq; obtain ⟨A2, c2, rfl, _⟩ := own_slice (H.out.row 5 rfl); clear c1; have c1 := (H.out.blk 4 rfl).cell 0; simp only [List.getElem?_toArray, List.getElem?_cons_zero, List.getElem?_cons_succ] at c1; have f1 := (H.out.blk 4 rfl).frozen 0))
              replace H := Lib.hid (H.out.setCell 4 rfl 0 (.slice A2 (j + 1) c2)); (try simp only [List.set_cons_zero, List.set_cons_succ, List.cons_append, List.nil_append, List.eraseIdx_cons_zero, List.eraseIdx_cons_succ, List.setIfInBounds_toArray, World.size_alloc, selR, List.getD_cons_zero, List.getD_cons_succ] at H)
              replace H := Lib.hid (H.out.sel [0, 1, 2, 3, 4, 5] (by decide) (by simp)); (try simp only [List.set_cons_zero, List.set_cons_succ, List.cons_append, List.nil_append, List.eraseIdx_cons_zero, List.eraseIdx_cons_succ, List.setIfInBounds_toArray, World.size_alloc, selR, List.getD_cons_zero, List.getD_cons_succ] at H)
              clear c1 f1
              go_wp2_with fail
              go_roundg (N - (j + 1))
              case rel => exact ⟨j + 1, ts ++ [lb], A2, c2, t1, wantK k1 (isTerm lb) 3, rfl, by omega, by go_num, by show _ = _; rw [List.length_append, htc.out]; rfl, HTL2, by rw [List.map_append]; exact H, HI2⟩
              case measure => rw [Hgj.out]; omega
          · obtain rfl : j = N := by omega
            have HSD := Lib.hid (HI.out.done (.inr (Nat.le_refl _)))
            have HI2 := Lib.hid (LInv.startV (M := M) HSD.out)
            clear HI
            have c6 := (H.out.blk 0 rfl).cell 1; simp only [List.getElem?_toArray, List.getElem?_cons_zero, List.getElem?_cons_succ] at c6
            go_wp2_with fail
            clear c6
            replace H := Lib.hid (H.out.addNil 2 1); (try simp only [List.set_cons_zero, List.set_cons_succ, List.cons_append, List.nil_append, List.eraseIdx_cons_zero, List.eraseIdx_cons_succ, List.setIfInBounds_toArray, World.size_alloc, selR, List.getD_cons_zero, List.getD_cons_succ] at H)
            have HVL : Hid (∀ t ∈ ([] : List Int), I64 t) := by show ∀ t ∈ ([] : List Int), _; intro t ht; cases ht
            obtain ⟨t1, ht1⟩ : ∃ t1 : Int, t1 = t := ⟨_, rfl⟩
            obtain ⟨k1, hk1⟩ : ∃ k1 : Int, k1 = kk := ⟨_, rfl⟩
            rw [← ht1, ← hk1] at H HI2 HSD
            clear ht1 hk1
            go_loopg [61] M (fun gg s61 wx => ∃ (i : Nat) (vs : List Int) (B2 : Option Addr) (e : Nat) (t kk : Int), gg = M - i ∧ i ≤ M ∧ s61 = .int .i64 i ∧ Hid (vs.length = i) ∧ Hid (∀ t ∈ vs, I64 t) ∧ Hid (SL No w wx [rBlk x 70 #[.slice DA j cN, .slice MB M cM], rBlk a 47 (scs s t kk), rRow 88 2 (.slice B k c) k (rows.flatMap Cel.cells), rList rRw rows, rBlk y 88 #[.slice A j c3, .slice B2 i e], rRow 9 1 (.slice A j c3) j (ts.map tx), rRow 2 1 (.slice B2 i e) i (vs.map (Value.int .i64))]) ∧ Hid (LInv s (oVs M o1) pint M i vs t kk))
            case atStart => exact ⟨0, [], none, 0, t1, k1, rfl, by omega, rfl, rfl, HVL, H, HI2⟩
            case round =>
              clear H HI2 HVL
              obtain ⟨i, vs, B2, e, t, kk, hgi, hi, rfl, hvc, HVL, H, HI⟩ := hrel
              have Hgi := Lib.hid hgi
              clear hgi
              by_cases hilt : i < M
              · have HX := Lib.hid (rintN_any s t kk HI.out.st hs)
                have HNx := Lib.hid (fun t' k' x (h : Nxt s pint t kk t' k' x) => HI.out.next hilt h)
                clear HI
                go_wp2_with ((with_reducible show wpList _ _ _ (⟨some 64, _, _, _, _, _⟩ :: _) _ _); (refine wpList_load_blk rfl rowScn (.tmp 7) rfl _ rfl (H.out.blk 1 rfl) rfl ?_))
                refine (HX.out _).mono ?_; rintro e w6 ⟨t2, k2, v, rfl, hb6, hv, hN⟩
                replace H := Lib.hid (H.out.bel hb6); (try simp only [List.set_cons_zero, List.set_cons_succ, List.cons_append, List.nil_append, List.eraseIdx_cons_zero, List.eraseIdx_cons_succ, List.setIfInBounds_toArray, World.size_alloc, selR, List.getD_cons_zero, List.getD_cons_succ] at H)
                have HI2 := Lib.hid (HNx.out _ _ _ hN.out)
                have HVL2 : Hid (∀ y ∈ vs ++ [v], I64 y) := by
                  intro y hy
                  rcases List.mem_append.1 hy with hy | hy
                  · exact HVL.out y hy
                  · rw [List.mem_singleton] at hy; subst hy; exact hv
                clear hb6 HX HNx hN HVL hv
                go_wp2_with (first | ((with_reducible show wpList _ _ _ (⟨_, .store _ (.tmp 14) _, _, _, _, _⟩ :: _) _ _); (refine wpList_store_new rfl rowScn (.tmp 14) (.tmp 66) rfl rfl rfl (scs s t2 k2) rfl rfl (scs_one _ _ _) ?_; replace H := Lib.hid (H.out.alloc (scs s t2 k2) 47); (try simp only [List.set_cons_zero, List.set_cons_succ, List.cons_append, List.nil_append, List.eraseIdx_cons_zero, List.eraseIdx_cons_succ, List.setIfInBounds_toArray, World.size_alloc, selR, List.getD_cons_zero, List.getD_cons_succ] at H))) | ((with_reducible show wpList _ _ _ (⟨some 68, _, _, _, _, _⟩ :: _) _ _); (refine wpList_load_blk rfl rowScn (.tmp 14) rfl _ rfl (H.out.blk 7 rfl) rfl ?_)) | ((with_reducible show wpList _ _ _ (⟨_, .store _ (.tmp 7) _, _, _, _, _⟩ :: _) _ _); (refine wpList_store_blk rfl rowScn (.tmp 7) (.tmp 68) rfl _ rfl (H.out.blk 1 rfl) rfl (scs s t2 k2) rfl rfl (scs_one _ _ _) ?_; intro wq bq hgq; replace H := Lib.hid (H.out.setBlk 1 rfl hgq bq); (try simp only [List.set_cons_zero, List.set_cons_succ, List.cons_append, List.nil_append, List.eraseIdx_cons_zero, List.eraseIdx_cons_succ, List.setIfInBounds_toArray, World.size_alloc, selR, List.getD_cons_zero, List.getD_cons_succ] at H); clear hgq bq; have c1 := (H.out.blk 4 rfl).cell 1; simp only [List.getElem?_toArray, List.getElem?_cons_zero, List.getElem?_cons_succ] at c1)) | ((with_reducible show wpList _ _ _ (⟨some 73, _, _, _, _, _⟩ :: _) _ _); (replace H := Lib.hid (H.out.alloc #[.int .i64 v] 2); (try simp only [List.set_cons_zero, List.set_cons_succ, List.cons_append, List.nil_append, List.eraseIdx_cons_zero, List.eraseIdx_cons_succ, List.setIfInBounds_toArray, World.size_alloc, selR, List.getD_cons_zero, List.getD_cons_succ] at H); refine wpList_append0 rfl (.tmp 70) (.tmp 72) _ rfl E_i64 0 (Nat.zero_le _) _ i _ rfl (H.out.row 6 rfl) _ 1 1 [.int .i64 v] rfl (reads_of_block (H.out.blk 8 rfl) rfl) (by simp [Value.oneCell']) (by unfold maxLen; omega) (by omega) ?_; intro vq wq howq hgq hatq; replace H := Lib.hid (H.out.setRow 6 rfl hgq howq hatq); (try simp only [List.set_cons_zero, List.set_cons_succ, List.cons_append, List.nil_append, List.eraseIdx_cons_zero, List.eraseIdx_cons_succ, List.setIfInBounds_toArray, World.size_alloc, selR, List.getD_cons_zero, List.getD_cons_succ] at H); clear howq hgq hatq; obtain ⟨B9, e9, rfl, _⟩ := own_slice (H.out.row 6 rfl); clear c1; have c1 := (H.out.blk 4 rfl).cell 1; simp only [List.getElem?_toArray, List.getElem?_cons_zero, List.getElem?_cons_succ] at c1; have f1 := (H.out.blk 4 rfl).frozen 1)))
                replace H := Lib.hid (H.out.setCell 4 rfl 1 (.slice B9 (i + 1) e9)); (try simp only [List.set_cons_zero, List.set_cons_succ, List.cons_append, List.nil_append, List.eraseIdx_cons_zero, List.eraseIdx_cons_succ, List.setIfInBounds_toArray, World.size_alloc, selR, List.getD_cons_zero, List.getD_cons_succ] at H)
                replace H := Lib.hid (H.out.sel [0, 1, 2, 3, 4, 5, 6] (by decide) (by simp)); (try simp only [List.set_cons_zero, List.set_cons_succ, List.cons_append, List.nil_append, List.eraseIdx_cons_zero, List.eraseIdx_cons_succ, List.setIfInBounds_toArray, World.size_alloc, selR, List.getD_cons_zero, List.getD_cons_succ] at H)
                clear c1 f1
                go_wp2_with fail
                go_roundg (M - (i + 1))
                case rel => exact ⟨i + 1, vs ++ [v], B9, e9, t2, k2, rfl, by omega, by go_num, by show _ = _; rw [List.length_append, hvc.out]; rfl, HVL2, by rw [List.map_append]; exact H, HI2⟩
                case measure => rw [Hgi.out]; omega
              · have HSE := HI.out.done (.inr (by omega))
                have HI3 : Hid (LInv s (prws j M s) (prow j M) n (k + 1) (rows.map Rw.con ++ [⟨ts, vs⟩]) t kk) := HStep.out _ _ _ (SRes.prow (by rw [← HO1.out]; exact HSD.out) (by rw [← HO1.out]; exact HSE))
                clear HI HSE HSD HStep HO1
                replace H := Lib.hid (H.out.both 5 6 (by omega) rfl rfl (rRw ⟨⟨A, j, c3, ts⟩, ⟨B2, i, e, vs⟩⟩) (holds_rw (H.out.get 5 rfl) (H.out.get 6 rfl) HTL.out HVL.out hn16 (by omega)) (fun g hg => hg)); (try simp only [List.set_cons_zero, List.set_cons_succ, List.cons_append, List.nil_append, List.eraseIdx_cons_zero, List.eraseIdx_cons_succ, List.setIfInBounds_toArray, World.size_alloc, selR, List.getD_cons_zero, List.getD_cons_succ] at H)
                go_wp2_with (first | ((with_reducible show wpList _ _ _ (⟨some 77, _, _, _, _, _⟩ :: _) _ _); (refine wpList_load_blk rfl rowRw (.tmp 11) rfl _ rfl (H.out.blk 4 rfl) rfl ?_)) | ((with_reducible show wpList _ _ _ (⟨some 78, _, _, _, _, _⟩ :: _) _ _); (refine wpList_buildSlice1 rfl E_rw (.tmp 77) rfl (#[.slice A j c3, .slice B2 i e]) rfl rfl (by omega) ?_; replace H := Lib.hid (H.out.addRow ((Bel.refl _).alloc _) (own_made _ 88 (#[.slice A j c3, .slice B2 i e]) _ rfl)); (try simp only [List.set_cons_zero, List.set_cons_succ, List.cons_append, List.nil_append, List.eraseIdx_cons_zero, List.eraseIdx_cons_succ, List.setIfInBounds_toArray, World.size_alloc, selR, List.getD_cons_zero, List.getD_cons_succ] at H))) | ((with_reducible show wpList _ _ _ (⟨some 79, _, _, _, _, _⟩ :: _) _ _); (refine wpList_append0 rfl (.tmp 76) (.tmp 78) _ rfl E_rw 0 (Nat.zero_le _) _ k _ rfl (H.out.row 2 rfl) _ 1 1 _ rfl (Rd.of_own (H.out.row 6 rfl)) (rwr_one _ _ _ _ _ _) (by unfold maxLen; omega) (by omega) ?_; intro vq wq howq hgq hatq; replace H := Lib.hid (H.out.setRow 2 rfl hgq howq hatq); (try simp only [List.set_cons_zero, List.set_cons_succ, List.cons_append, List.nil_append, List.eraseIdx_cons_zero, List.eraseIdx_cons_succ, List.setIfInBounds_toArray, World.size_alloc, selR, List.getD_cons_zero, List.getD_cons_succ] at H); clear howq hgq hatq; obtain ⟨B9, e9, rfl, _⟩ := own_slice (H.out.row 2 rfl))))
                replace H := Lib.hid (H.out.both 3 5 (by omega) rfl rfl (rList rRw (rows ++ [⟨⟨A, j, c3, ts⟩, ⟨B2, i, e, vs⟩⟩])) (holds_list_snoc (H.out.get 3 rfl) (H.out.get 5 rfl)) list_snoc_D); (try simp only [List.set_cons_zero, List.set_cons_succ, List.cons_append, List.nil_append, List.eraseIdx_cons_zero, List.eraseIdx_cons_succ, List.setIfInBounds_toArray, World.size_alloc, selR, List.getD_cons_zero, List.getD_cons_succ] at H)
                replace H := Lib.hid (H.out.sel [0, 1, 2, 3] (by decide) (by simp)); (try simp only [List.set_cons_zero, List.set_cons_succ, List.cons_append, List.nil_append, List.eraseIdx_cons_zero, List.eraseIdx_cons_succ, List.setIfInBounds_toArray, World.size_alloc, selR, List.getD_cons_zero, List.getD_cons_succ] at H)
                go_wp2_with fail
                go_roundg (n - (k + 1))
                case rel => exact ⟨k + 1, rows ++ [⟨⟨A, j, c3, ts⟩, ⟨B2, i, e, vs⟩⟩], B9, e9, t, kk, rfl, by omega, by go_num, rfl, by show _ = _; rw [List.length_append, hac.out]; rfl, by rw [List.flatMap_append, List.flatMap_cons, List.flatMap_nil, List.append_nil]; exact H, by rw [List.map_append]; exact HI3⟩
                case measure => rw [Hgk.out]; omega
      · have HSR := Lib.hid (HI.out.done (by by_cases h0 : kk = 0; exact .inr (by omega); exact .inl h0))
        have hg2 : (decide ((k : Int) < n) = false ∧ decide (k < n) = false ∧ ¬ k < n) ∨ (decide ((k : Int) < n) = true ∧ decide (k < n) = true ∧ k < n ∧ (kk == 0) = false) := by
          by_cases h : k < n
          · right
            refine ⟨by simp <;> omega, by simp <;> omega, h, by simp; intro h0; exact hgo ⟨h0, h⟩⟩
          · left
            refine ⟨by simp <;> omega, by simp <;> omega, h⟩
        clear HI hgo
        replace H := Lib.hid (H.out.both 2 3 (by omega) rfl rfl (rBat ⟨B, k, c, rows⟩) (holds_bat (H.out.get 2 rfl) (H.out.get 3 rfl) hk300) (fun g hg => hg)); (try simp only [List.set_cons_zero, List.set_cons_succ, List.cons_append, List.nil_append, List.eraseIdx_cons_zero, List.eraseIdx_cons_succ, List.setIfInBounds_toArray, World.size_alloc, selR, List.getD_cons_zero, List.getD_cons_succ] at H)
        rcases hg2 with ⟨g1, g2, g3⟩ | ⟨g1, g2, g3, g4⟩
        · go_wp2_with ((with_reducible show wpList _ _ _ (⟨some 80, _, _, _, _, _⟩ :: _) _ _); (refine wpList_load_blk rfl rowScn (.tmp 7) rfl _ rfl (H.out.blk 1 rfl) rfl ?_))
          refine (rend_any s t kk _).mono ?_; rintro e w7 ⟨rfl, hb7⟩
          replace H := Lib.hid (H.out.bel hb7); (try simp only [List.set_cons_zero, List.set_cons_succ, List.cons_append, List.nil_append, List.eraseIdx_cons_zero, List.eraseIdx_cons_succ, List.setIfInBounds_toArray, World.size_alloc, selR, List.getD_cons_zero, List.getD_cons_succ] at H)
          clear hb7 c2 g1 g2
          by_cases hkk : kk = 0
          · subst hkk
            obtain ⟨tn, rfl, htn, hP⟩ := HSR.out.good
            by_cases hr : s.drop tn = []
            · have HT1 : Hid (battake dc s = if batErr dc (rows.map Rw.con) = 0 then (rows.map Rw.con, 0) else ([], batErr dc (rows.map Rw.con))) := by show _ = _; rw [HT0.out, hP]; simp only; rw [if_pos hr]
              rw [show endOf s tn 0 = 0 by unfold endOf; rw [if_neg (by omega), if_pos (by have := congrArg List.length hr; simp at this; omega)]]
              clear hP hr HT0 HSR
              go_wp2_with ((with_reducible show wpList _ _ _ (⟨some 84, _, _, _, _, _⟩ :: _) _ _); (refine wpList_load_blk rfl rowSch (.tmp 2) rfl _ rfl (H.out.blk 0 rfl) rfl ?_))
              refine (HBC.out ⟨B, k, c, rows⟩ _ (H.out.at_ 2 rfl).1 H.out.to).mono ?_; rintro e w8 ⟨rfl, hb8⟩
              replace H := Lib.hid (H.out.bel hb8); (try simp only [List.set_cons_zero, List.set_cons_succ, List.cons_append, List.nil_append, List.eraseIdx_cons_zero, List.eraseIdx_cons_succ, List.setIfInBounds_toArray, World.size_alloc, selR, List.getD_cons_zero, List.getD_cons_succ] at H)
              clear hb8 HBC
              by_cases hE2 : batErr dc (rows.map Rw.con) = 0
              · have HT : Hid (battake dc s = (rows.map Rw.con, 0)) := by show _ = _; rw [HT1.out, if_pos hE2]
                simp only [hE2]
                clear hE2 HT1
                go_wp2
                go_ret2
                rw [HT.out]
                exact ⟨⟨B, k, c, rows⟩, rfl, rfl, H.out.to, H.out.get 2 rfl, H.out.new 2 rfl⟩
              · have HT : Hid (battake dc s = ([], batErr dc (rows.map Rw.con))) := by show _ = _; rw [HT1.out, if_neg hE2]
                simp only
                generalize batErr dc (rows.map Rw.con) = E at *
                have dk : (E == 0) = false := by simpa using hE2
                have dk2 : (E != 0) = true := by simpa using hE2
                clear hE2 HT1
                go_wp2
                go_ret2
                rw [HT.out]
                exact ⟨⟨none, 0, 0, []⟩, rfl, rfl, H.out.to, holds_bat_nil _, bat_nil_new⟩
            · have HT : Hid (battake dc s = ([], 3)) := by show _ = _; rw [HT0.out, hP]; simp only; rw [if_neg hr]
              rw [show endOf s tn 0 = 3 by unfold endOf; rw [if_neg (by omega), if_neg (fun h => hr (List.drop_of_length_le (by omega)))]]
              clear hP hr HT0 HSR
              go_wp2
              go_ret2
              rw [HT.out]
              exact ⟨⟨none, 0, 0, []⟩, rfl, rfl, H.out.to, holds_bat_nil _, bat_nil_new⟩
          · have HT : Hid (battake dc s = ([], kk)) := by show _ = _; rw [HT0.out, HSR.out.bad hkk]
            rw [show endOf s t kk = kk by unfold endOf; rw [if_pos hkk]]
            have dk : (kk == 0) = false := by simpa using hkk
            have dk2 : (kk != 0) = true := by simpa using hkk
            clear hkk HT0 HSR
            go_wp2
            go_ret2
            rw [HT.out]
            exact ⟨⟨none, 0, 0, []⟩, rfl, rfl, H.out.to, holds_bat_nil _, bat_nil_new⟩
        · have hkk : kk ≠ 0 := by simpa using g4
          clear g4
          go_wp2_with ((with_reducible show wpList _ _ _ (⟨some 80, _, _, _, _, _⟩ :: _) _ _); (refine wpList_load_blk rfl rowScn (.tmp 7) rfl _ rfl (H.out.blk 1 rfl) rfl ?_))
          refine (rend_any s t kk _).mono ?_; rintro e w7 ⟨rfl, hb7⟩
          replace H := Lib.hid (H.out.bel hb7); (try simp only [List.set_cons_zero, List.set_cons_succ, List.cons_append, List.nil_append, List.eraseIdx_cons_zero, List.eraseIdx_cons_succ, List.setIfInBounds_toArray, World.size_alloc, selR, List.getD_cons_zero, List.getD_cons_succ] at H)
          clear hb7 c2 g1 g2
          have HT : Hid (battake dc s = ([], kk)) := by show _ = _; rw [HT0.out, HSR.out.bad hkk]
          rw [show endOf s t kk = kk by unfold endOf; rw [if_pos hkk]]
          have dk : (kk == 0) = false := by simpa using hkk
          have dk2 : (kk != 0) = true := by simpa using hkk
          clear hkk HT0 HSR
          go_wp2
          go_ret2
          rw [HT.out]
          exact ⟨⟨none, 0, 0, []⟩, rfl, rfl, H.out.to, holds_bat_nil _, bat_nil_new⟩
  · have HT : Hid (battake dc s = ([], schErr dc)) := by show _ = _; unfold battake; rw [if_pos hE]
    have dE : (schErr dc == 0) = false := by simpa using hE
    have dE2 : (schErr dc != 0) = true := by simpa using hE
    clear hE
    go_enter Try.func58, Try.ntmps58
    go_wp2_with ((with_reducible show wpList _ _ _ (⟨some 16, _, _, _, _, _⟩ :: _) _ _); (refine wpList_load_blk rfl rowSch (.tmp 2) rfl _ rfl (H.out.blk 0 rfl) rfl ?_))
    refine (HC.out _ H.out.to).mono ?_; rintro e w1 ⟨rfl, hb1⟩
    replace H := Lib.hid (H.out.bel hb1); (try simp only [List.set_cons_zero, List.set_cons_succ, List.cons_append, List.nil_append, List.eraseIdx_cons_zero, List.eraseIdx_cons_succ, List.setIfInBounds_toArray, World.size_alloc, selR, List.getD_cons_zero, List.getD_cons_succ] at H)
    clear hb1 HC
    go_wp2
    go_ret2
    rw [HT.out]
    exact ⟨⟨none, 0, 0, []⟩, rfl, rfl, H.out.to, holds_bat_nil _, bat_nil_new⟩

end Go.Proofs.Ytnjpoamebkehbaa
