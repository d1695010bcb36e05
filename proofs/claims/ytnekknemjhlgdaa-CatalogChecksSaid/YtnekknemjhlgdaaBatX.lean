/- Batches in the document: Wrong; reading on, whatever a scan stands at. -/
import Derived.Test.YtnekknemjhlgdaaBatP
import Derived.Test.YtnekknemjhlgdaaSchX
import Derived.Test.YtnekknemjhlgdaaSchS
import Derived.Test.YtnekknemjhlgdaaBd
namespace Go.Proofs.Ytnekknemjhlgdaa
open Go.RowKit
set_option linter.unusedVariables false
set_option linter.unusedSimpArgs false

set_option maxRecDepth 100000 in
set_option maxHeartbeats 1000000 in
theorem rbwrong_any (s : Sch) (x : Row Rw) (w : World) (hs : s.rd w) (hx : x.rd w) (hn : s.dm.n ≤ 1000000) (hm : s.ms.n ≤ 1000000) (hd : ∀ d ∈ s.dm.l, d.tr.n ≤ 1000000 ∧ ∀ t ∈ d.tr.l, t.up.n ≤ 100000) :
    Calls Try.prog 38 #[.agg s.cs, .slice x.A x.n x.c] w fun e w' => e = .returned (.int .i64 (batErr s.con (x.l.map Rw.con))) ∧ Bel w w' := by
  have HC := Lib.hid (fun w' (hb : Bel w w') => schwrong_any s w' (hs.mono hb) hn hm (fun d hd' => (hd d hd').1))
  have hlen : Hid (x.l.length = x.n) := hx.len
  have HX := Lib.hid hx
  have HR := Lib.hid (fun r w' (hr : Rw.rd w' r) (hb : Bel w w') => rrow2_any s r w' (hs.mono hb) hr hn)
  have n63 := hx.n63
  have H := Lib.hid ((SL.start No w).alloc s.cs 25)
  (try simp only [List.set_cons_zero, List.set_cons_succ, List.cons_append, List.nil_append, List.eraseIdx_cons_zero, List.eraseIdx_cons_succ, List.setIfInBounds_toArray, World.size_alloc, selR, List.getD_cons_zero, List.getD_cons_succ] at H)
  obtain ⟨A, n, c, rows⟩ := x
  simp only at *
  have hcs : s.cs = #[.slice s.dm.A s.dm.n s.dm.c, .slice s.ms.A s.ms.n s.ms.c] := rfl
  have HCS := Lib.hid hcs
  clear hs hx hd hcs
  go_enter Try.func38, Try.ntmps38
  rw [← HCS.out] at *
  go_wp2_with ((with_reducible show wpList _ _ _ (⟨some 10, _, _, _, _, _⟩ :: _) _ _); (refine wpList_load_blk rfl rowSch (.tmp 2) rfl _ rfl (H.out.blk 0 rfl) rfl ?_))
  refine (HC.out _ H.out.to).mono ?_; rintro e w1 ⟨rfl, hb1⟩
  replace H := Lib.hid (H.out.bel hb1); (try simp only [List.set_cons_zero, List.set_cons_succ, List.cons_append, List.nil_append, List.eraseIdx_cons_zero, List.eraseIdx_cons_succ, List.setIfInBounds_toArray, World.size_alloc, selR, List.getD_cons_zero, List.getD_cons_succ] at H)
  clear hb1 HC
  by_cases hE : schErr s.con = 0
  · rw [hE]
    by_cases hl : n ≤ 300
    · have d1 : decide ((300 : Int) < n) = false := by simp <;> omega
      have HB : Hid (batErr s.con (rows.map Rw.con) = rowsErr s.con ((rows.map Rw.con).drop 0)) := by show _ = _; unfold batErr; rw [if_neg (by omega), if_neg (by have := hlen.out; simp; omega)]; rfl
      have HE := Lib.hid hE
      clear hE
      go_wp2_with fail
      generalize w.heap.size = x at *
      clear d1
      go_loopg [20] n (fun gg i wr => ∃ k : Nat, gg = n - k ∧ k ≤ n ∧ i = .int .i64 k ∧ Hid (SL No w wr [rBlk x 25 s.cs]) ∧ Hid (batErr s.con (rows.map Rw.con) = rowsErr s.con ((rows.map Rw.con).drop k)))
      case atStart => exact ⟨0, rfl, by omega, rfl, H, HB⟩
      case round =>
        clear H HB
        obtain ⟨k, hgk, hk, rfl, H, HB⟩ := hrel
        have Hgk := Lib.hid hgk
        clear hgk
        by_cases hlt : k < n
        · obtain ⟨bb, oo, r, hA, hbb, hrk, hrr, hrg⟩ := (HX.out.mono H.out.to).rwAt (k := k) hlt
          simp only at hA
          subst hA
          have hrc : (rows.map Rw.con)[k]? = some r.con := by rw [List.getElem?_map, hrk]; rfl
          have HSt := Lib.hid (rowsErr_drop (s := s.con) hrc)
          have HRg := Lib.hid hrg
          have HRr := Lib.hid hrr
          clear hrk hrr hrg hrc hbb
          go_wp2_with (first | ((with_reducible show wpList _ _ _ (⟨some 23, _, _, _, _, _⟩ :: _) _ _); (refine wpList_load_row_at rfl rowRw (.tmp 22) rfl bb (oo + k * 2) rfl r.cs rfl HRg.out ?_)) | ((with_reducible show wpList _ _ _ (⟨_, .store _ (.tmp 7) _, _, _, _, _⟩ :: _) _ _); (refine wpList_store_new rfl rowRw (.tmp 7) (.tmp 23) rfl rfl rfl (r.cs) rfl rfl (rw_one r) ?_; replace H := Lib.hid (H.out.alloc (r.cs) 87); (try simp only [List.set_cons_zero, List.set_cons_succ, List.cons_append, List.nil_append, List.eraseIdx_cons_zero, List.eraseIdx_cons_succ, List.setIfInBounds_toArray, World.size_alloc, selR, List.getD_cons_zero, List.getD_cons_succ] at H))) | ((with_reducible show wpList _ _ _ (⟨some 25, _, _, _, _, _⟩ :: _) _ _); (refine wpList_load_blk rfl rowSch (.tmp 2) rfl _ rfl (H.out.blk 0 rfl) rfl ?_)) | ((with_reducible show wpList _ _ _ (⟨some 26, _, _, _, _, _⟩ :: _) _ _); (refine wpList_load_blk rfl rowRw (.tmp 7) rfl _ rfl (H.out.blk 1 rfl) rfl ?_)))
          have HRo := Lib.hid (HR.out r _ (HRr.out.mono ((Bel.refl _).alloc (.cells r.cs 87))) H.out.to)
          cases ho : rowOf s.con r.con with
          | error e1 =>
            have hE2 := rowOf_err ho
            have HN : Hid (batErr s.con (rows.map Rw.con) = e1) := by show _ = _; rw [HB.out, HSt.out, ho]
            rw [ho] at HRo
            have z1 : (e1 != 0) = true := by simp <;> omega
            have z2 : (e1 == 0) = false := by simp <;> omega
            clear ho HB HSt hE2
            refine HRo.out.mono ?_; rintro e w2 ⟨rfl, hb2⟩
            replace H := Lib.hid (H.out.bel hb2); (try simp only [List.set_cons_zero, List.set_cons_succ, List.cons_append, List.nil_append, List.eraseIdx_cons_zero, List.eraseIdx_cons_succ, List.setIfInBounds_toArray, World.size_alloc, selR, List.getD_cons_zero, List.getD_cons_succ] at H)
            clear hb2
            go_wp2
            go_ret
            rw [HN.out]
            exact ⟨rfl, H.out.to⟩
          | ok ks =>
            have HN : Hid (batErr s.con (rows.map Rw.con) = rowsErr s.con ((rows.map Rw.con).drop (k + 1))) := by show _ = _; rw [HB.out, HSt.out, ho]
            rw [ho] at HRo
            clear ho HB HSt
            refine HRo.out.mono ?_; rintro e w2 ⟨B, d, rfl, hb2, _⟩
            replace H := Lib.hid (H.out.bel hb2); (try simp only [List.set_cons_zero, List.set_cons_succ, List.cons_append, List.nil_append, List.eraseIdx_cons_zero, List.eraseIdx_cons_succ, List.setIfInBounds_toArray, World.size_alloc, selR, List.getD_cons_zero, List.getD_cons_succ] at H)
            replace H := Lib.hid (H.out.sel [0] (by decide) (by simp)); (try simp only [List.set_cons_zero, List.set_cons_succ, List.cons_append, List.nil_append, List.eraseIdx_cons_zero, List.eraseIdx_cons_succ, List.setIfInBounds_toArray, World.size_alloc, selR, List.getD_cons_zero, List.getD_cons_succ] at H)
            clear hb2 HRo
            go_wp2
            go_roundg (n - (k + 1))
            case rel => exact ⟨k + 1, rfl, by omega, by go_num, H, HN⟩
            case measure => rw [Hgk.out]; omega
        · have HN : Hid (batErr s.con (rows.map Rw.con) = 0) := by show _ = _; rw [HB.out, List.drop_of_length_le (by have := hlen.out; simp; omega)]; rfl
          clear HB
          go_wp2
          go_ret
          rw [HN.out]
          exact ⟨rfl, H.out.to⟩
    · have d1 : decide ((300 : Int) < n) = true := by simp <;> omega
      have HN : Hid (batErr s.con (rows.map Rw.con) = 5) := by show _ = _; unfold batErr; rw [if_neg (by omega), if_pos (by have := hlen.out; simp; omega)]
      clear hE
      go_wp2
      go_ret
      rw [HN.out]
      exact ⟨rfl, H.out.to⟩
  · have HN : Hid (batErr s.con (rows.map Rw.con) = schErr s.con) := by show _ = _; unfold batErr; rw [if_pos hE]
    have z1 : (schErr s.con != 0) = true := by simpa using hE
    have z2 : (schErr s.con == 0) = false := by simpa using hE
    clear hE
    go_wp2
    go_ret
    rw [HN.out]
    exact ⟨rfl, H.out.to⟩

/-- The next thing read from a scan, whatever it stands at. -/
def Nxt {α : Type} (s : List UInt8) (p : List UInt8 → PR α) (t k t' k' : Int) (x : α) : Prop := (k ≠ 0 ∧ t' = t ∧ k' = k) ∨ (k = 0 ∧ ∃ tn : Nat, t = tn ∧ tn ≤ s.length ∧ SRes s (p (s.drop tn)) t' k' x)
theorem LInv.next {α : Type} {s : List UInt8} {o : PR (List α)} {p : List UInt8 → PR α} {n k : Nat} {acc : List α} {t kk t' k' : Int} {x : α} (h : LInv s o p n k acc t kk) (hk : k < n) (hx : Nxt s p t kk t' k' x) : LInv s o p n (k + 1) (acc ++ [x]) t' k' := by
  rcases h with ⟨h1, h2⟩ | ⟨h1, tn, h3, h4, h2⟩
  · rcases hx with ⟨_, rfl, rfl⟩ | ⟨h, _⟩
    · exact .inl ⟨h1, h2⟩
    · exact absurd h h1
  · rcases hx with ⟨h, _⟩ | ⟨_, tm, h5, h6, h7⟩
    · exact absurd h1 h
    · have : tm = tn := by omega
      subst this
      exact LInv.step hk h2 h7
theorem LInv.st {α : Type} {s : List UInt8} {o : PR (List α)} {p : List UInt8 → PR α} {n k : Nat} {acc : List α} {t kk : Int} (h : LInv s o p n k acc t kk) : kk ≠ 0 ∨ (kk = 0 ∧ ∃ tn : Nat, t = tn ∧ tn ≤ s.length) := by
  rcases h with ⟨h1, h2⟩ | ⟨h1, tn, h3, h4, h2⟩
  · exact .inl h1
  · exact .inr ⟨h1, tn, h3, h4⟩
theorem Nxt.trm {s : List UInt8} {t k t' k' : Int} {x : List UInt8} (h : Nxt s (ptxt 16) t k t' k' x) : Nxt s ptrm t k t' (wantK k' (isTerm x) 3) x := by
  rcases h with ⟨h1, h2, rfl⟩ | ⟨h1, tn, h3, h4, h⟩
  · exact .inl ⟨h1, h2, by unfold wantK; rw [if_pos h1]⟩
  · refine .inr ⟨h1, tn, h3, h4, ?_⟩
    unfold ptrm wantK
    rcases h with ⟨h5, h6⟩ | ⟨rfl, tm, h6, h7, h8⟩
    · rw [if_pos h5, h6]
      exact .inl ⟨h5, rfl⟩
    · rw [if_neg (by omega), h8]
      cases hT : isTerm x with
      | true => exact .inr ⟨rfl, tm, h6, h7, by simp only [hT, if_true]⟩
      | false => exact .inl ⟨by decide, by simp only [hT]; rfl⟩
theorem rtextN_any (s : List UInt8) (t k : Int) (most : Int) (hst : k ≠ 0 ∨ (k = 0 ∧ ∃ tn : Nat, t = tn ∧ tn ≤ s.length)) (hs : s.length ≤ 1000001) (h0 : 0 ≤ most) (h1 : most ≤ 9223372036854775807) (w : World) :
    Calls Try.prog 154 #[scn s t k, .int .i64 most] w fun e w' => ∃ (t' k' : Int) (x : List UInt8), e = .returned (.tuple #[scn s t' k', .string ⟨x.toArray⟩]) ∧ Bel w w' ∧ (x.length : Int) ≤ most ∧ Hid (Nxt s (ptxt most) t k t' k' x) := by
  rcases hst with hk | ⟨rfl, tn, rfl, htn⟩
  · refine (rtext_bad s t k most hk w).mono ?_
    rintro e w' ⟨rfl, hb⟩
    exact ⟨t, k, [], rfl, hb, by simpa using h0, .inl ⟨hk, rfl, rfl⟩⟩
  · refine (rtext0_any s tn most hs htn h0 h1 w).mono ?_
    rintro e w' ⟨t', k', x, rfl, hb, hx, hR⟩
    exact ⟨t', k', x, rfl, hb, hx, .inr ⟨rfl, tn, rfl, htn, hR.out⟩⟩
theorem rintN_any (s : List UInt8) (t k : Int) (hst : k ≠ 0 ∨ (k = 0 ∧ ∃ tn : Nat, t = tn ∧ tn ≤ s.length)) (hs : s.length ≤ 1000001) (w : World) :
    Calls Try.prog 97 #[scn s t k] w fun e w' => ∃ (t' k' x : Int), e = .returned (.tuple #[scn s t' k', .int .i64 x]) ∧ Bel w w' ∧ I64 x ∧ Hid (Nxt s pint t k t' k' x) := by
  rcases hst with hk | ⟨rfl, tn, rfl, htn⟩
  · refine (rint_bad s t k hk w).mono ?_
    rintro e w' ⟨rfl, hb⟩
    exact ⟨t, k, 0, rfl, hb, by unfold I64; omega, .inl ⟨hk, rfl, rfl⟩⟩
  · refine (rint_any s tn hs htn w).mono ?_
    rintro e w' ⟨hb, hm⟩
    cases ho : pint (s.drop tn) with
    | error k =>
      rw [ho] at hm
      obtain ⟨t, rfl⟩ := hm
      exact ⟨t, k, 0, rfl, hb, by unfold I64; omega, .inr ⟨rfl, tn, rfl, htn, .inl ⟨by have := i_pint_err ho; omega, ho⟩⟩⟩
    | ok q =>
      obtain ⟨x, l⟩ := q
      rw [ho] at hm
      obtain ⟨t, ht, hl, rfl⟩ := hm
      exact ⟨t, 0, x, rfl, hb, (i_pint_back ho).2, .inr ⟨rfl, tn, rfl, htn, .inr ⟨rfl, t, rfl, ht, by rw [ho, hl]⟩⟩⟩
theorem LInv.startW {s : List UInt8} {t k : Int} {n D M : Nat} {l : List UInt8} (h : SRes s (pnum 300 l) t k n) : LInv s (prws D M l) (prow D M) n 0 [] t k := by
  rcases h with ⟨h1, h2⟩ | ⟨h1, tn, h3, h4, h2⟩
  · exact .inl ⟨h1, by unfold prws; rw [h2]⟩
  · exact .inr ⟨h1, tn, h3, h4, by unfold prws; rw [h2]; rfl⟩
theorem LInv.startV {s : List UInt8} {t k : Int} {M : Nat} {o : PR (List (List UInt8))} {ts : List (List UInt8)} (h : SRes s o t k ts) : LInv s (oVs M o) pint M 0 [] t k := by
  rcases h with ⟨h1, h2⟩ | ⟨h1, tn, h3, h4, h2⟩
  · exact .inl ⟨h1, by unfold oVs; rw [h2]⟩
  · exact .inr ⟨h1, tn, h3, h4, by unfold oVs; rw [h2]; rfl⟩
theorem SRes.prow {s : List UInt8} {D M : Nat} {l : List UInt8} {t1 k1 t2 k2 : Int} {ts : List (List UInt8)} {vs : List Int} (h1 : SRes s (pmany ptrm D [] l) t1 k1 ts) (h2 : SRes s (oVs M (pmany ptrm D [] l)) t2 k2 vs) : SRes s (prow D M l) t2 k2 ⟨ts, vs⟩ := by
  unfold oVs at h2
  unfold Go.Proofs.Ytnekknemjhlgdaa.prow
  cases ho : pmany ptrm D [] l with
  | error e =>
    rw [ho] at h2
    rcases h2 with ⟨a, b⟩ | ⟨_, _, _, _, b⟩
    · simp only at b
      injection b with b
      exact .inl ⟨a, by simp only [b]⟩
    · cases b
  | ok q =>
    obtain ⟨ts', r⟩ := q
    rw [ho] at h1 h2
    simp only at h2 ⊢
    rcases h1 with ⟨_, b⟩ | ⟨_, tn, _, _, b⟩
    · cases b
    · injection b with b
      injection b with b1 b2
      subst b1
      rcases h2 with ⟨a, b⟩ | ⟨a, tm, c, d, b⟩
      · exact .inl ⟨a, by rw [b]⟩
      · exact .inr ⟨a, tm, c, d, by rw [b]⟩
section
variable {P : Program} {w : World}
theorem step_store_blk {ops : Array Oper} {o : Oper} {a : Act} {K : Act → World → Prop} {Q : Exit → Act → World → Prop} {X : Prop} (hgd : o.guard = none) {ty : TypeId} {n : Nat} (R : RowTy P ty n) (x y : Operand) (ho : o.op = .store ty x y)
    (g : Nat) (hx : a.eval x = .pointer (some ⟨g, 0, none⟩)) {t : TypeId} {cs : Array Value} (hb : Blk w g t cs) (hn : cs.size = n) (cs' : Array Value) (hn' : cs'.size = n) (hy : a.eval y = .agg cs') (h1 : cs'.all (·.oneCell') = true)
    (h : ∀ w', Blk w' g t cs' → w.grownBy w' (some g) → K (a.put o.dst undef) w') : if Region.wanted o (yielded ops a.tmps) = true then Oper.wp P o a w K Q else X := by
  have hw : Region.wanted o (yielded ops a.tmps) = true := by simp [Region.wanted, hgd]
  rw [if_pos hw]
  refine wp_store_mid ty x y ho g 0 cs' hx hy (hb.there (by omega)) (by rw [R.hi, hn']) h1 (h _ ?_ (setCells_grown w g _ _))
  have := Blk.setAll cs'.toList 0 hb
  rwa [setAll_all cs cs' (by omega)] at this
end

end Go.Proofs.Ytnekknemjhlgdaa
