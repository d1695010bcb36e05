/- batch.Check, batch.Put. -/
import Derived.Test.YtnekknemjhlgdaaRowW
import Derived.Test.YtnekknemjhlgdaaSchemaChecksW
namespace Go.Proofs.Ytnekknemjhlgdaa
open Go.RowKit
set_option linter.unusedVariables false
set_option linter.unusedSimpArgs false

def rowsErr (s : SC) : List RC → Int
  | [] => 0
  | r :: rs => match rowOf s r with | .error e => e | .ok _ => rowsErr s rs
def batErr (s : SC) (rows : List RC) : Int := if schErr s ≠ 0 then schErr s else if 300 < rows.length then 5 else rowsErr s rows
def rowPut (r : RC) : List UInt8 := r.ts.flatMap ptext ++ r.vs.flatMap (fun x => nput (nfold x))
def batPut (rows : List RC) : List UInt8 := nput rows.length ++ rows.flatMap rowPut
def batPutV (s : SC) (rows : List RC) : List UInt8 × Int := if batErr s rows = 0 then (batPut rows, 0) else ([], batErr s rows)
theorem rowsErr_drop {s : SC} {rows : List RC} {k : Nat} {r : RC} (h : rows[k]? = some r) : rowsErr s (rows.drop k) = match rowOf s r with | .error e => e | .ok _ => rowsErr s (rows.drop (k + 1)) := by
  obtain ⟨h1, rfl⟩ := List.getElem?_eq_some_iff.1 h
  rw [List.drop_eq_getElem_cons h1, rowsErr]
theorem rowKeys_err {ds : List DC} : ∀ {ts : List (List UInt8)} {e : Int}, rowKeys ds ts = .error e → e = 2 ∨ e = 13 := by
  induction ds with
  | nil => intro ts e h; cases ts <;> simp [rowKeys] at h
  | cons d ds ih =>
    intro ts e h
    cases ts with
    | nil => simp [rowKeys] at h
    | cons t ts =>
      rw [rowKeys] at h
      split at h
      · injection h with h; exact .inl h.symm
      · split at h
        · injection h with h; exact .inr h.symm
        · split at h
          · rename_i h1; injection h with h; subst h; exact ih h1
          · cases h
theorem rowOf_err {s : SC} {r : RC} {e : Int} (h : rowOf s r = .error e) : e = 2 ∨ e = 13 := by
  unfold rowOf at h
  split at h
  · injection h with h; exact .inl h.symm
  · exact rowKeys_err h
theorem rowsErr_ok {s : SC} {rows : List RC} (h : rowsErr s rows = 0) : ∀ r ∈ rows, ∃ ks, rowOf s r = .ok ks := by
  induction rows with
  | nil => intro r hr; cases hr
  | cons a rs ih =>
    intro r hr
    rw [rowsErr] at h
    cases ha : rowOf s a with
    | error e =>
      rw [ha] at h
      have := rowOf_err ha
      simp only at h
      omega
    | ok ks =>
      rw [ha] at h
      rcases List.mem_cons.1 hr with rfl | hr
      · exact ⟨ks, ha⟩
      · exact ih h r hr
theorem batErr_zero {s : SC} {rows : List RC} (h : batErr s rows = 0) : schErr s = 0 ∧ rows.length ≤ 300 ∧ ∀ r ∈ rows, ∃ ks, rowOf s r = .ok ks := by
  unfold batErr at h
  split at h
  · rename_i h1; exact absurd h h1
  · split at h
    · cases h
    · exact ⟨by omega, by omega, rowsErr_ok h⟩
theorem posOf_mem {s : List UInt8} {ts : List (List UInt8)} : ∀ {i : Nat}, posOf s ts = some i → s ∈ ts := by
  induction ts with
  | nil => intro i h; cases h
  | cons a r ih =>
    intro i h
    rw [posOf] at h
    split at h
    · rename_i h1; rw [beq_iff_eq] at h1; subst h1; exact List.mem_cons_self ..
    · cases hp : posOf s r with
      | none => rw [hp] at h; cases h
      | some j => exact List.mem_cons_of_mem _ (ih hp)
theorem rowKeys_small {ds : List DC} : ∀ {ts : List (List UInt8)} {ks : List Int}, (∀ d ∈ ds, ∀ tr ∈ d.trs, ∀ t ∈ tr.ts, t.length ≤ 16) → ts.length = ds.length → rowKeys ds ts = .ok ks → ∀ t ∈ ts, t.length ≤ 16 := by
  induction ds with
  | nil => intro ts ks _ hl _ t ht; cases ts with | nil => cases ht | cons a r => simp at hl
  | cons d ds ih =>
    intro ts ks hd hl h t ht
    cases ts with
    | nil => cases ht
    | cons a r =>
      rw [rowKeys] at h
      split at h
      · cases h
      · rename_i tr rest htr
        split at h
        · cases h
        · rename_i k hp
          split at h
          · cases h
          · rename_i ks' hk
            rcases List.mem_cons.1 ht with rfl | ht
            · exact hd d (List.mem_cons_self ..) tr (by rw [htr]; exact List.mem_cons_self ..) _ (posOf_mem hp)
            · exact ih (fun d' hd' => hd d' (List.mem_cons_of_mem _ hd')) (by simpa using hl) hk t ht
theorem dim_terms {d : DC} (h : dimErr d = 0) : ∀ tr ∈ d.trs, rowErr tr.ts = 0 ∧ tr.ts.length ≤ 200 := fun tr htr => by
  obtain ⟨a, ha⟩ := allOk_mem (dimFrom_ok (dimErr_zero h).2.2.2) htr
  exact ⟨(tierErr_zero ha).2.2.2.1, (tierErr_zero ha).2.2.1⟩
theorem row_small {s : SC} {r : RC} {ks : List Int} (hE : schErr s = 0) (h : rowOf s r = .ok ks) : r.ts.length ≤ 16 ∧ r.vs.length ≤ 3 ∧ ∀ t ∈ r.ts, t.length ≤ 16 := by
  obtain ⟨h1, h2, h3, h4, h5, h6⟩ := schErr_zero hE
  unfold rowOf at h
  split at h
  · cases h
  · rename_i h7
    refine ⟨by omega, by omega, rowKeys_small (fun d hd tr htr t ht => rowErr_len (dim_terms (h3 d hd) tr htr).1 ht) (by omega) h⟩
theorem sch_rise {s : Sch} {w : World} (hs : s.rd w) (hE : schErr s.con = 0) : ∀ d ∈ s.dm.l, ∀ t ∈ d.tr.l, RiseT t.ts.l ∧ t.ts.n ≤ 1000000 := fun d hd t ht => by
  have h3 := (schErr_zero hE).2.2.1 d.con (List.mem_map.2 ⟨d, hd, rfl⟩)
  have h4 := dim_terms h3 t.con (List.mem_map.2 ⟨t, ht, rfl⟩)
  have h5 : t.ts.l.length = t.ts.n := Row.rd.len (Tir.rd.ts (Row.rd.all (Dm.rd.tr (Row.rd.all (Sch.rd.dm hs) d hd)) t ht))
  exact ⟨riseT_row h4.1, by have := h4.2; simp only at this; omega⟩
theorem rowPut_len {r : RC} (h1 : r.ts.length ≤ 16) (h2 : r.vs.length ≤ 3) (h3 : ∀ t ∈ r.ts, t.length ≤ 16) : (rowPut r).length ≤ 500 := by
  have h4 : (r.ts.flatMap ptext).length ≤ 26 * r.ts.length := flat_len fun t ht => by
    have := h3 t ht
    have := nput_le9 t.length
    unfold ptext
    rw [List.length_append]
    omega
  have h5 : (r.vs.flatMap (fun x => nput (nfold x))).length ≤ 9 * r.vs.length := flat_len fun x hx => nput_le9 _
  unfold rowPut
  rw [List.length_append]
  omega

set_option maxRecDepth 100000 in
set_option maxHeartbeats 1000000 in
theorem batcheck_any (s : Sch) (x : Row Rw) (w : World) (hs : s.rd w) (hx : x.rd w) (hn : s.dm.n ≤ 1000000) (hm : s.ms.n ≤ 1000000) (hd : ∀ d ∈ s.dm.l, d.tr.n ≤ 1000000 ∧ ∀ t ∈ d.tr.l, t.up.n ≤ 100000) :
    Calls Try.prog 165 #[.agg s.cs, .slice x.A x.n x.c] w fun e w' => e = .returned (.int .i64 (batErr s.con (x.l.map Rw.con))) ∧ Bel w w' := by
  have HC := Lib.hid (fun w' (hb : Bel w w') => schcheck_any s w' (hs.mono hb) hn hm hd)
  have hlen : Hid (x.l.length = x.n) := hx.len
  have HX := Lib.hid hx
  have HR := Lib.hid (fun (hE : schErr s.con = 0) r w' (hr : Rw.rd w' r) (hb : Bel w w') => schrow_any s r w' (hs.mono hb) hr hn (sch_rise hs hE))
  have n63 := hx.n63
  have H := Lib.hid ((SL.start No w).alloc s.cs 25)
  (try simp only [List.set_cons_zero, List.set_cons_succ, List.cons_append, List.nil_append, List.eraseIdx_cons_zero, List.eraseIdx_cons_succ, List.setIfInBounds_toArray, World.size_alloc, selR, List.getD_cons_zero, List.getD_cons_succ] at H)
  obtain ⟨A, n, c, rows⟩ := x
  simp only at *
  have hcs : s.cs = #[.slice s.dm.A s.dm.n s.dm.c, .slice s.ms.A s.ms.n s.ms.c] := rfl
  have HCS := Lib.hid hcs
  clear hs hx hd hcs
  go_enter Try.func165, Try.ntmps165
  rw [← HCS.out] at *
  go_wp2_with ((with_reducible show wpList _ _ _ (⟨some 10, _, _, _, _, _⟩ :: _) _ _); (refine wpList_load_blk rfl rowSch (.tmp 2) rfl _ rfl (H.out.blk 0 rfl) rfl ?_))
  refine (HC.out _ H.out.to).mono ?_; rintro e w1 ⟨rfl, hb1⟩
  replace H := Lib.hid (H.out.bel hb1); (try simp only [List.set_cons_zero, List.set_cons_succ, List.cons_append, List.nil_append, List.eraseIdx_cons_zero, List.eraseIdx_cons_succ, List.setIfInBounds_toArray, World.size_alloc, selR, List.getD_cons_zero, List.getD_cons_succ] at H)
  clear hb1 HC
  by_cases hE : schErr s.con = 0
  · rw [hE]
    by_cases hl : n ≤ 300
    · have d1 : decide ((300 : Int) < n) = false := by simp <;> omega
      have HB : Hid (batErr s.con (rows.map Rw.con) = rowsErr s.con ((rows.map Rw.con).drop 0)) := by show _ = _; unfold batErr; rw [if_neg (by omega), if_neg (by have := hlen.out; simp; omega)]; rfl
      have HE := Lib.hid hE
      clear hE
      go_wp2_with fail
      generalize w.heap.size = x at *
      clear d1
      go_loopg [20] n (fun gg i wr => ∃ k : Nat, gg = n - k ∧ k ≤ n ∧ i = .int .i64 k ∧ Hid (SL No w wr [rBlk x 25 s.cs]) ∧ Hid (batErr s.con (rows.map Rw.con) = rowsErr s.con ((rows.map Rw.con).drop k)))
      case atStart => exact ⟨0, rfl, by omega, rfl, H, HB⟩
      case round =>
        clear H HB
        obtain ⟨k, hgk, hk, rfl, H, HB⟩ := hrel
        have Hgk := Lib.hid hgk
        clear hgk
        by_cases hlt : k < n
        · obtain ⟨bb, oo, r, hA, hbb, hrk, hrr, hrg⟩ := (HX.out.mono H.out.to).rwAt (k := k) hlt
          simp only at hA
          subst hA
          have hrc : (rows.map Rw.con)[k]? = some r.con := by rw [List.getElem?_map, hrk]; rfl
          have HSt := Lib.hid (rowsErr_drop (s := s.con) hrc)
          have HRg := Lib.hid hrg
          have HRr := Lib.hid hrr
          clear hrk hrr hrg hrc hbb
          go_wp2_with (first | ((with_reducible show wpList _ _ _ (⟨some 23, _, _, _, _, _⟩ :: _) _ _); (refine wpList_load_row_at rfl rowRw (.tmp 22) rfl bb (oo + k * 2) rfl r.cs rfl HRg.out ?_)) | ((with_reducible show wpList _ _ _ (⟨_, .store _ (.tmp 7) _, _, _, _, _⟩ :: _) _ _); (refine wpList_store_new rfl rowRw (.tmp 7) (.tmp 23) rfl rfl rfl (r.cs) rfl rfl (rw_one r) ?_; replace H := Lib.hid (H.out.alloc (r.cs) 87); (try simp only [List.set_cons_zero, List.set_cons_succ, List.cons_append, List.nil_append, List.eraseIdx_cons_zero, List.eraseIdx_cons_succ, List.setIfInBounds_toArray, World.size_alloc, selR, List.getD_cons_zero, List.getD_cons_succ] at H))) | ((with_reducible show wpList _ _ _ (⟨some 25, _, _, _, _, _⟩ :: _) _ _); (refine wpList_load_blk rfl rowSch (.tmp 2) rfl _ rfl (H.out.blk 0 rfl) rfl ?_)) | ((with_reducible show wpList _ _ _ (⟨some 26, _, _, _, _, _⟩ :: _) _ _); (refine wpList_load_blk rfl rowRw (.tmp 7) rfl _ rfl (H.out.blk 1 rfl) rfl ?_)))
          have HRo := Lib.hid (HR.out HE.out r _ (HRr.out.mono ((Bel.refl _).alloc (.cells r.cs 87))) H.out.to)
          cases ho : rowOf s.con r.con with
          | error e1 =>
            have hE2 := rowOf_err ho
            have HN : Hid (batErr s.con (rows.map Rw.con) = e1) := by show _ = _; rw [HB.out, HSt.out, ho]
            rw [ho] at HRo
            have z1 : (e1 != 0) = true := by simp <;> omega
            have z2 : (e1 == 0) = false := by simp <;> omega
            clear ho HB HSt hE2
            refine HRo.out.mono ?_; rintro e w2 ⟨rfl, hb2⟩
            replace H := Lib.hid (H.out.bel hb2); (try simp only [List.set_cons_zero, List.set_cons_succ, List.cons_append, List.nil_append, List.eraseIdx_cons_zero, List.eraseIdx_cons_succ, List.setIfInBounds_toArray, World.size_alloc, selR, List.getD_cons_zero, List.getD_cons_succ] at H)
            clear hb2
            go_wp2
            go_ret
            rw [HN.out]
            exact ⟨rfl, H.out.to⟩
          | ok ks =>
            have HN : Hid (batErr s.con (rows.map Rw.con) = rowsErr s.con ((rows.map Rw.con).drop (k + 1))) := by show _ = _; rw [HB.out, HSt.out, ho]
            rw [ho] at HRo
            clear ho HB HSt
            refine HRo.out.mono ?_; rintro e w2 ⟨B, d, rfl, hb2, _⟩
            replace H := Lib.hid (H.out.bel hb2); (try simp only [List.set_cons_zero, List.set_cons_succ, List.cons_append, List.nil_append, List.eraseIdx_cons_zero, List.eraseIdx_cons_succ, List.setIfInBounds_toArray, World.size_alloc, selR, List.getD_cons_zero, List.getD_cons_succ] at H)
            replace H := Lib.hid (H.out.sel [0] (by decide) (by simp)); (try simp only [List.set_cons_zero, List.set_cons_succ, List.cons_append, List.nil_append, List.eraseIdx_cons_zero, List.eraseIdx_cons_succ, List.setIfInBounds_toArray, World.size_alloc, selR, List.getD_cons_zero, List.getD_cons_succ] at H)
            clear hb2 HRo
            go_wp2
            go_roundg (n - (k + 1))
            case rel => exact ⟨k + 1, rfl, by omega, by go_num, H, HN⟩
            case measure => rw [Hgk.out]; omega
        · have HN : Hid (batErr s.con (rows.map Rw.con) = 0) := by show _ = _; rw [HB.out, List.drop_of_length_le (by have := hlen.out; simp; omega)]; rfl
          clear HB
          go_wp2
          go_ret
          rw [HN.out]
          exact ⟨rfl, H.out.to⟩
    · have d1 : decide ((300 : Int) < n) = true := by simp <;> omega
      have HN : Hid (batErr s.con (rows.map Rw.con) = 5) := by show _ = _; unfold batErr; rw [if_neg (by omega), if_pos (by have := hlen.out; simp; omega)]
      clear hE
      go_wp2
      go_ret
      rw [HN.out]
      exact ⟨rfl, H.out.to⟩
  · have HN : Hid (batErr s.con (rows.map Rw.con) = schErr s.con) := by show _ = _; unfold batErr; rw [if_pos hE]
    have z1 : (schErr s.con != 0) = true := by simpa using hE
    have z2 : (schErr s.con == 0) = false := by simpa using hE
    clear hE
    go_wp2
    go_ret
    rw [HN.out]
    exact ⟨rfl, H.out.to⟩

end Go.Proofs.Ytnekknemjhlgdaa
