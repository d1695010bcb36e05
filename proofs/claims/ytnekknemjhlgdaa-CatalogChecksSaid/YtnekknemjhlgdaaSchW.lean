/- Schemas: how they lie in memory; once.fresh, measures, Check. -/
import Derived.Test.YtnekknemjhlgdaaSchP
import Derived.Test.YtnekknemjhlgdaaDimV
import Derived.Test.YtnekknemjhlgdaaDimW
namespace Go.Proofs.Ytnekknemjhlgdaa
open Go.RowKit Go.ChangeShapes Go.WideShapes Go.Deep
set_option linter.unusedVariables false
set_option linter.unusedSimpArgs false

/-- A schema. -/
structure Sch where
  dm : Row Dm
  ms : Row (List UInt8)
abbrev Sch.cs (s : Sch) : Array Value := #[.slice s.dm.A s.dm.n s.dm.c, .slice s.ms.A s.ms.n s.ms.c]
structure Sch.rd (w : World) (s : Sch) : Prop where
  dm : s.dm.rd w
  ms : s.ms.rd w
theorem Sch.rd.mono {w w' : World} {s : Sch} (h : s.rd w) (hb : Bel w w') : s.rd w' := ⟨h.dm.mono hb, h.ms.mono hb⟩
instance instCelSch : Cel Sch where
  size := 2
  bytes := 48
  cells s := s.cs.toList
  ok w s := s.rd w
  len _ := rfl
  pos := by omega
  mono hb h := h.mono hb
abbrev Sch.con (s : Sch) : SC := ⟨s.dm.l.map Dm.con, s.ms.l⟩
theorem sch_one (s : Sch) : s.cs.all (·.oneCell') = true := by simp [Value.oneCell']
theorem rowSch : RowTy Try.prog 25 2 := ⟨⟨_, Try.underlying25, rfl⟩, by kernel_rfl⟩
set_option maxRecDepth 100000 in
theorem c_sch : Try.prog.cellsOf 25 = 2 := by kernel_rfl
theorem opens_sch : Opens Try.prog 25 Sch := by
  intro H enc w base spare held fuel cs x h hz
  have hl := struct_len Try.underlying25 h c_sch
  obtain ⟨a, ha, wa⟩ := field_of Try.underlying25 h hz 0 _ rfl opens_dms c_dms
  obtain ⟨b, hb, wb⟩ := field_of Try.underlying25 h hz 1 _ rfl opens_strs c_strs
  refine ⟨⟨a, b⟩, ?_, ⟨Row.ok.rds wa, Row.ok.rds wb⟩⟩
  match cs, hl with
  | [x0, x1], _ =>
    simp [Cel.cells, Row.v] at ha hb
    simp [Cel.cells, ha, hb]
set_option maxRecDepth 100000 in
theorem open_sch {H : Type} {enc : TypeId × Value → H} {w : World} {base b0 : Nat} {spare : Nat → Bool} {held : Bool} {r : Reach} {v : Value} {d : DataW H} {p : List MemPlace}
    (hv : Value.okWide Try.prog w r b0 25 v) (h : DataW.Trod enc Try.prog w base spare held 25 v d p) (hz : Sized Try.prog 25 d) : ∃ t : Sch, v = .agg t.cs ∧ t.rd w := by
  obtain ⟨cs, rfl, _⟩ := okWide_struct Try.underlying25 hv
  obtain ⟨fuel, hf⟩ := h
  obtain ⟨a, ha, ho⟩ := opens_sch hf hz
  refine ⟨a, ?_, ho⟩
  simp only [Value.cells] at ha
  rw [Array.toList_inj.1 ha]

set_option maxRecDepth 100000 in
set_option maxHeartbeats 1000000 in
/-- once.fresh: a name that did not come yet; the names are noted. -/
theorem fresh_new (b k : Nat) (seen : List (List UInt8)) (x : List UInt8) (w : World) (hx : x.length ≤ 140737488351232) (hk : k ≤ 1000000) (hM : w.ownsMap Try.prog 9 (plainElem (H := Unit) Try.prog 3) b k (Maps.setOf one1 (litsS seen))) (hmem : x ∉ seen) :
    Calls Try.prog 131 #[.map (some b), .string ⟨x.toArray⟩] w fun e w' => e = .returned (.bool true) ∧ w.grownBy w' (some b) ∧ w'.ownsMap Try.prog 9 (plainElem (H := Unit) Try.prog 3) b (k + 1) (Maps.setOf one1 (litsS (seen ++ [x]))) := by
    have HM := Lib.hid hM
    have HKL : Hid ((⟨x.toArray⟩ : ByteArray).size ≤ maxLen) := by show _ ≤ _; unfold maxLen; simp [ByteArray.size]; omega
    clear hM
    have HA : Hid (∀ c : Int, (Maps.setOf one1 (litsS seen)).atKey (.string x) (.lit (.int .i64 0)) = .lit (.int .i64 c) → c = 0) := by
      intro c h
      rw [atKey_names, if_neg hmem] at h
      injection h with h
      injection h with _ h
      exact h.symm
    clear hmem
    go_enter Try.func131, Try.ntmps131
    go_wp2_with (first | ((with_reducible show wpList _ _ _ (⟨some 7, _, _, _, _, _⟩ :: _) _ _); refine wpList_lookup_own_int _ rfl (.tmp 5) (.tmp 6) 209 rfl 9 3 .i64 (Maps.string_keyed Try.underlying9) Try.underlying209 Try.underlying3 (zero_int _) b k _ rfl HM.out _ (.string x) rfl (WideMaps.keyOf_string_mk Try.underlying9 (s := ⟨x.toArray⟩) HKL.out) ?_; intro c7 hat7 hwc7; obtain rfl := HA.out c7 hat7; clear hat7 hwc7) | ((with_reducible show wpList _ _ _ (⟨_, .mapUpdate _ _ _ _, _, _, _, _⟩ :: _) _ _); refine wpList_mapUpdate_own _ rfl (.tmp 5) (.tmp 6) _ 209 rfl 9 3 (Maps.string_keyed Try.underlying9) Try.underlying209 _ b k _ rfl HM.out (by unfold maxLen; omega) _ _ (.string x) rfl rfl (WideMaps.keyOf_string_mk Try.underlying9 (s := ⟨x.toArray⟩) HKL.out) (.lit (.int .i64 1)) [] (plainElem_int Try.underlying3 (wf64 (by unfold I64; omega))) ?_; intro w5 hown5 hg5; have M5 := Lib.hid hown5; have G5 := Lib.hid hg5; clear hown5 hg5) | ((with_reducible show wpList _ _ _ (⟨some 11, _, _, _, _, _⟩ :: _) _ _); refine wpList_lookup_own_int _ rfl (.tmp 9) (.tmp 10) 209 rfl 9 3 .i64 (Maps.string_keyed Try.underlying9) Try.underlying209 Try.underlying3 (zero_int _) b (k + 1) _ rfl M5.out _ (.string x) rfl (WideMaps.keyOf_string_mk Try.underlying9 (s := ⟨x.toArray⟩) HKL.out) ?_; intro c11 hat11 hwc11; obtain rfl := (put_names seen x 1 c11 hat11); clear hat11 hwc11))
    go_ret
    refine ⟨rfl, G5.out, ?_⟩
    unfold litsS
    rw [List.map_append]
    have := M5.out
    rw [← Maps.setOf_snoc] at this
    exact this
set_option maxRecDepth 100000 in
set_option maxHeartbeats 1000000 in
theorem fresh_old (b k : Nat) (seen : List (List UInt8)) (x : List UInt8) (w : World) (hx : x.length ≤ 140737488351232) (hk : k ≤ 1000000) (hM : w.ownsMap Try.prog 9 (plainElem (H := Unit) Try.prog 3) b k (Maps.setOf one1 (litsS seen))) (hmem : x ∈ seen) :
    Calls Try.prog 131 #[.map (some b), .string ⟨x.toArray⟩] w fun e w' => e = .returned (.bool false) ∧ w.grownBy w' (some b) ∧ b < w'.heap.size := by
    have HM := Lib.hid hM
    have HKL : Hid ((⟨x.toArray⟩ : ByteArray).size ≤ maxLen) := by show _ ≤ _; unfold maxLen; simp [ByteArray.size]; omega
    clear hM
    have HA : Hid (∀ c : Int, (Maps.setOf one1 (litsS seen)).atKey (.string x) (.lit (.int .i64 0)) = .lit (.int .i64 c) → c = 1) := by
      intro c h
      rw [atKey_names, if_pos hmem] at h
      injection h with h
      injection h with _ h
      exact h.symm
    clear hmem
    go_enter Try.func131, Try.ntmps131
    go_wp2_with (first | ((with_reducible show wpList _ _ _ (⟨some 7, _, _, _, _, _⟩ :: _) _ _); refine wpList_lookup_own_int _ rfl (.tmp 5) (.tmp 6) 209 rfl 9 3 .i64 (Maps.string_keyed Try.underlying9) Try.underlying209 Try.underlying3 (zero_int _) b k _ rfl HM.out _ (.string x) rfl (WideMaps.keyOf_string_mk Try.underlying9 (s := ⟨x.toArray⟩) HKL.out) ?_; intro c7 hat7 hwc7; obtain rfl := HA.out c7 hat7; clear hat7 hwc7) | ((with_reducible show wpList _ _ _ (⟨_, .mapUpdate _ _ _ _, _, _, _, _⟩ :: _) _ _); refine wpList_mapUpdate_own _ rfl (.tmp 5) (.tmp 6) _ 209 rfl 9 3 (Maps.string_keyed Try.underlying9) Try.underlying209 _ b k _ rfl HM.out (by unfold maxLen; omega) _ _ (.string x) rfl rfl (WideMaps.keyOf_string_mk Try.underlying9 (s := ⟨x.toArray⟩) HKL.out) (.lit (.int .i64 2)) [] (plainElem_int Try.underlying3 (wf64 (by unfold I64; omega))) ?_; intro w5 hown5 hg5; have M5 := Lib.hid hown5; have G5 := Lib.hid hg5; clear hown5 hg5) | ((with_reducible show wpList _ _ _ (⟨some 11, _, _, _, _, _⟩ :: _) _ _); refine wpList_lookup_own_int _ rfl (.tmp 9) (.tmp 10) 209 rfl 9 3 .i64 (Maps.string_keyed Try.underlying9) Try.underlying209 Try.underlying3 (zero_int _) b (k + 1) _ rfl M5.out _ (.string x) rfl (WideMaps.keyOf_string_mk Try.underlying9 (s := ⟨x.toArray⟩) HKL.out) ?_; intro c11 hat11 hwc11; obtain rfl := (put_names seen x 2 c11 hat11); clear hat11 hwc11))
    go_ret
    exact ⟨rfl, G5.out, M5.out.lt⟩
abbrev rAny (b : Nat) : Res := ⟨One b, fun _ => True⟩
theorem holds_any {w : World} {b : Nat} (h : b < w.heap.size) : (rAny b).holds w := ⟨fun _ e => e ▸ h, fun _ _ _ => trivial⟩
theorem SL.setMap {S : Nat → Prop} {w0 w w' : World} {l : List Res} (h : SL S w0 w l) (i : Nat) {P : Program} {k : TypeId} {R : Value → Option (DataW Unit × List MemPlace)} {b n n' : Nat} {D D' : DataW Unit} (hi : l[i]? = some (rMap P k R b n D)) (hg : w.grownBy w' (some b)) (hm : w'.ownsMap P k R b n' D') : SL S w0 w' (l.set i (rMap P k R b n' D')) :=
  h.upd i hi ⟨hg.os, hg.tape, hg.output, hg.size, fun k hk hn => hg.block k hk (fun e => hn (by injection e))⟩ _ (holds_map hm) (fun k hk => .inl hk)
theorem SL.lostMap {S : Nat → Prop} {w0 w w' : World} {l : List Res} (h : SL S w0 w l) (i : Nat) {P : Program} {k : TypeId} {R : Value → Option (DataW Unit × List MemPlace)} {b n : Nat} {D : DataW Unit} (hi : l[i]? = some (rMap P k R b n D)) (hg : w.grownBy w' (some b)) (hb : b < w'.heap.size) : SL S w0 w' (l.set i (rAny b)) :=
  h.upd i hi ⟨hg.os, hg.tape, hg.output, hg.size, fun k hk hn => hg.block k hk (fun e => hn (by injection e))⟩ _ (holds_any hb) (fun k hk => .inl hk)
theorem SL.allocMap {S : Nat → Prop} {w0 w : World} {l : List Res} (h : SL S w0 w l) (P : Program) (k : TypeId) (R : Value → Option (DataW Unit × List MemPlace)) : SL S w0 (w.alloc (.map #[] 0)) (l ++ [rMap P k R w.heap.size 0 (Maps.setOf one1 [])]) :=
  h.add ((Bel.refl w).alloc _) _ (holds_map (World.ownsMap_made w P k R)) (fun g hg => by cases hg; exact Nat.le_refl _)

set_option maxRecDepth 100000 in
set_option maxHeartbeats 1000000 in
theorem measures_any (x : Row (List UInt8)) (w : World) (hx : x.rd w) (hn : x.n ≤ 1000000) :
    Calls Try.prog 132 #[.slice x.A x.n x.c] w fun e w' => e = .returned (.int .i64 (measErr x.l)) ∧ Bel w w' := by
  have hlen : Hid (x.l.length = x.n) := hx.len
  have HX := Lib.hid hx
  have hmm := @run_makeMap Try.prog
  obtain ⟨A, n, c, ms⟩ := x
  simp only at *
  clear hx
  by_cases hl : 1 ≤ n ∧ n ≤ 3
  · obtain ⟨hl1, hl2⟩ := hl
    have d1 : decide ((n : Int) < 1) = false := by simp <;> omega
    have d2 : decide ((3 : Int) < n) = false := by simp <;> omega
    have HE : Hid (measErr ms = measFrom (ms.take 0) (ms.drop 0)) := by show _ = _; unfold measErr; rw [if_neg (by have := hlen.out; omega)]; rfl
    have H := Lib.hid ((SL.start No w).allocMap Try.prog 9 (plainElem (H := Unit) Try.prog 3))
    (try simp only [List.set_cons_zero, List.set_cons_succ, List.cons_append, List.nil_append, List.eraseIdx_cons_zero, List.eraseIdx_cons_succ, List.setIfInBounds_toArray, World.size_alloc, selR, List.getD_cons_zero, List.getD_cons_succ] at H)
    rw [show Maps.setOf one1 [] = Maps.setOf one1 (litsS (ms.take 0)) from rfl] at H
    go_enter Try.func132, Try.ntmps132
    go_wp2_with fail
    generalize w.heap.size = b at *
    clear d1 d2
    go_loopg [18] n (fun gg i wr => ∃ k : Nat, gg = n - k ∧ k ≤ n ∧ i = .int .i64 k ∧ Hid (SL No w wr [rMap Try.prog 9 (plainElem (H := Unit) Try.prog 3) b k (Maps.setOf one1 (litsS (ms.take k)))]) ∧ Hid (measErr ms = measFrom (ms.take k) (ms.drop k)))
    case atStart => exact ⟨0, rfl, by omega, rfl, H, HE⟩
    case round =>
      clear H HE
      obtain ⟨k, hgk, hk, rfl, H, HE⟩ := hrel
      have Hgk := Lib.hid hgk
      clear hgk
      by_cases hlt : k < n
      · obtain ⟨bb, oo, m, hA, hm, hml, hc⟩ := (HX.out.mono H.out.to).textAt (k := k) hlt
        simp only at hA
        subst hA
        have HS := Lib.hid (measFrom_drop (seen := ms.take k) hm)
        have HTK := Lib.hid (take_snoc_get hm)
        have i0 : (0 : Int) ≤ k := by omega
        have i1 : (k : Int) < n := by omega
        clear hm
        go_wp2_with fail
        refine (name_any m _ (by omega)).mono ?_; rintro e w1 ⟨rfl, rfl⟩
        clear hc
        cases hN : isName m with
        | false =>
          have HN : Hid (measErr ms = 2) := by show _ = _; rw [HE.out, HS.out, hN]; rfl
          rw [show errOf false = 2 from rfl]
          clear HE HS
          go_wp2
          go_ret
          rw [HN.out]
          exact ⟨rfl, H.out.to⟩
        | true =>
          rw [show errOf true = 0 from rfl]
          by_cases hmem : m ∈ ms.take k
          · have HN : Hid (measErr ms = 11) := by show _ = _; rw [HE.out, HS.out, if_pos hN, if_pos hmem]
            have HF := Lib.hid (fresh_old b k (ms.take k) m wr hml (by omega) (H.out.map 0 rfl) hmem)
            clear HE HS hmem
            go_wp2_with fail
            refine HF.out.mono ?_; rintro e w2 ⟨rfl, hg2, hb2⟩
            replace H := Lib.hid (H.out.lostMap 0 rfl hg2 hb2); (try simp only [List.set_cons_zero, List.set_cons_succ, List.cons_append, List.nil_append, List.eraseIdx_cons_zero, List.eraseIdx_cons_succ, List.setIfInBounds_toArray, World.size_alloc, selR, List.getD_cons_zero, List.getD_cons_succ] at H)
            clear hg2 hb2 HF
            go_wp2
            go_ret
            rw [HN.out]
            exact ⟨rfl, H.out.to⟩
          · have HN : Hid (measErr ms = measFrom (ms.take (k + 1)) (ms.drop (k + 1))) := by show _ = _; rw [HE.out, HS.out, if_pos hN, if_neg hmem, HTK.out]
            have HF := Lib.hid (fresh_new b k (ms.take k) m wr hml (by omega) (H.out.map 0 rfl) hmem)
            clear HE HS hmem
            go_wp2_with fail
            refine HF.out.mono ?_; rintro e w2 ⟨rfl, hg2, hm2⟩
            replace H := Lib.hid (H.out.setMap 0 rfl hg2 hm2); (try simp only [List.set_cons_zero, List.set_cons_succ, List.cons_append, List.nil_append, List.eraseIdx_cons_zero, List.eraseIdx_cons_succ, List.setIfInBounds_toArray, World.size_alloc, selR, List.getD_cons_zero, List.getD_cons_succ] at H)
            rw [← HTK.out] at H
            clear hg2 hm2 HF
            go_wp2
            go_roundg (n - (k + 1))
            case rel => exact ⟨k + 1, rfl, by omega, by go_num, H, HN⟩
            case measure => rw [Hgk.out]; omega
      · have HN : Hid (measErr ms = 0) := by show _ = _; rw [HE.out, List.drop_of_length_le (by have := hlen.out; omega)]; rfl
        clear HE
        go_wp2
        go_ret
        rw [HN.out]
        exact ⟨rfl, H.out.to⟩
  · have HE : Hid (measErr ms = 5) := by show _ = _; unfold measErr; rw [if_pos (by have := hlen.out; omega)]
    rcases (show n < 1 ∨ (1 ≤ n ∧ 3 < n) by omega) with h | ⟨h, h'⟩
    · have d1 : decide ((n : Int) < 1) = true := by simp <;> omega
      go_enter Try.func132, Try.ntmps132
      go_wp2
      go_ret
      rw [HE.out]
      exact ⟨rfl, Bel.refl _⟩
    · have d1 : decide ((n : Int) < 1) = false := by simp <;> omega
      have d2 : decide ((3 : Int) < n) = true := by simp <;> omega
      go_enter Try.func132, Try.ntmps132
      go_wp2
      go_ret
      rw [HE.out]
      exact ⟨rfl, Bel.refl _⟩

set_option maxRecDepth 100000 in
set_option maxHeartbeats 1000000 in
theorem schcheck_any (s : Sch) (w : World) (hs : s.rd w) (hn : s.dm.n ≤ 1000000) (hm : s.ms.n ≤ 1000000) (hd : ∀ d ∈ s.dm.l, d.tr.n ≤ 1000000 ∧ ∀ t ∈ d.tr.l, t.up.n ≤ 100000) :
    Calls Try.prog 77 #[.agg s.cs] w fun e w' => e = .returned (.int .i64 (schErr s.con)) ∧ Bel w w' := by
  have hlen : Hid (s.dm.l.length = s.dm.n) := hs.dm.len
  have HD := Lib.hid hs.dm
  have HMs := Lib.hid (fun w' (hb : Bel w w') => measures_any s.ms w' (hs.ms.mono hb) hm)
  have HDD := Lib.hid hd
  have hmm := @run_makeMap Try.prog
  have H := Lib.hid ((SL.start No w).alloc s.cs 25)
  (try simp only [List.set_cons_zero, List.set_cons_succ, List.cons_append, List.nil_append, List.eraseIdx_cons_zero, List.eraseIdx_cons_succ, List.setIfInBounds_toArray, World.size_alloc, selR, List.getD_cons_zero, List.getD_cons_succ] at H)
  obtain ⟨⟨A, n, c, ds⟩, ⟨A2, n2, c2, ms⟩⟩ := s
  simp only [Sch.cs, Sch.con] at *
  clear hs hd
  by_cases hl : 1 ≤ n ∧ n ≤ 16
  · obtain ⟨hl1, hl2⟩ := hl
    have d1 : decide ((n : Int) < 1) = false := by simp <;> omega
    have d2 : decide ((16 : Int) < n) = false := by simp <;> omega
    have HE0 : Hid (schErr ⟨ds.map Dm.con, ms⟩ = if dimsFrom [] (ds.map Dm.con) ≠ 0 then dimsFrom [] (ds.map Dm.con) else measErr ms) := by show _ = _; unfold schErr; simp only [List.length_map]; rw [if_neg (by have := hlen.out; omega)]
    have HE : Hid (dimsFrom [] (ds.map Dm.con) = dimsFrom ((ds.map Dm.nm).take 0) ((ds.map Dm.con).drop 0)) := rfl
    replace H := Lib.hid (H.out.allocMap Try.prog 9 (plainElem (H := Unit) Try.prog 3)); (try simp only [List.set_cons_zero, List.set_cons_succ, List.cons_append, List.nil_append, List.eraseIdx_cons_zero, List.eraseIdx_cons_succ, List.setIfInBounds_toArray, World.size_alloc, selR, List.getD_cons_zero, List.getD_cons_succ] at H)
    rw [show Maps.setOf one1 [] = Maps.setOf one1 (litsS ((ds.map Dm.nm).take 0)) from rfl] at H
    go_enter Try.func77, Try.ntmps77
    have c0 := (H.out.blk 0 rfl).cell 0; simp only [List.getElem?_toArray, List.getElem?_cons_zero, List.getElem?_cons_succ] at c0
    go_wp2_with fail
    clear c0
    generalize w.heap.size + 1 = b at *
    generalize w.heap.size = x at *
    clear d1 d2
    go_loopg [21] n (fun gg i wr => ∃ k : Nat, gg = n - k ∧ k ≤ n ∧ i = .int .i64 k ∧ Hid (SL No w wr [rBlk x 25 #[.slice A n c, .slice A2 n2 c2], rMap Try.prog 9 (plainElem (H := Unit) Try.prog 3) b k (Maps.setOf one1 (litsS ((ds.map Dm.nm).take k)))]) ∧ Hid (dimsFrom [] (ds.map Dm.con) = dimsFrom ((ds.map Dm.nm).take k) ((ds.map Dm.con).drop k)))
    case atStart => exact ⟨0, rfl, by omega, rfl, H, HE⟩
    case round =>
      clear H HE
      obtain ⟨k, hgk, hk, rfl, H, HE⟩ := hrel
      have Hgk := Lib.hid hgk
      clear hgk
      by_cases hlt : k < n
      · obtain ⟨bb, oo, d, hA, hbb, hdk, hdr, hrg⟩ := (HD.out.mono H.out.to).dmAt (k := k) hlt
        simp only at hA
        subst hA
        have hdc : (ds.map Dm.con)[k]? = some d.con := by rw [List.getElem?_map, hdk]; rfl
        have hdn : (ds.map Dm.nm)[k]? = some d.nm := by rw [List.getElem?_map, hdk]; rfl
        have HSt := Lib.hid (dimsFrom_drop (seen := (ds.map Dm.nm).take k) hdc)
        have HTK := Lib.hid (take_snoc_get hdn)
        have hml := hdr.nm
        obtain ⟨hu1, hu2⟩ := HDD.out d (List.mem_of_getElem? hdk)
        have HR := Lib.hid hrg
        have HRd := Lib.hid hdr
        have i0 : (0 : Int) ≤ k := by omega
        have i1 : (k : Int) < n := by omega
        clear hdk hdr hrg hdc hdn hbb
        go_wp2_with (first | ((with_reducible show wpList _ _ _ (⟨some 24, _, _, _, _, _⟩ :: _) _ _); (refine wpList_load_row_at rfl rowDm (.tmp 23) rfl bb (oo + k * 2) rfl d.cs rfl HR.out ?_)) | ((with_reducible show wpList _ _ _ (⟨_, .store _ (.tmp 5) _, _, _, _, _⟩ :: _) _ _); (refine wpList_store_new rfl rowDm (.tmp 5) (.tmp 24) rfl rfl rfl (d.cs) rfl rfl (dm_one d) ?_; replace H := Lib.hid (H.out.alloc (d.cs) 64); (try simp only [List.set_cons_zero, List.set_cons_succ, List.cons_append, List.nil_append, List.eraseIdx_cons_zero, List.eraseIdx_cons_succ, List.setIfInBounds_toArray, World.size_alloc, selR, List.getD_cons_zero, List.getD_cons_succ] at H))) | ((with_reducible show wpList _ _ _ (⟨some 25, _, _, _, _, _⟩ :: _) _ _); (refine wpList_load_blk rfl rowDm (.tmp 5) rfl _ rfl (H.out.blk 2 rfl) rfl ?_)))
        refine (dmcheck_any d _ (HRd.out.mono ((Bel.refl _).alloc _)) hu1 hu2).mono ?_; rintro e w1 ⟨rfl, hb1⟩
        replace H := Lib.hid (H.out.bel hb1); (try simp only [List.set_cons_zero, List.set_cons_succ, List.cons_append, List.nil_append, List.eraseIdx_cons_zero, List.eraseIdx_cons_succ, List.setIfInBounds_toArray, World.size_alloc, selR, List.getD_cons_zero, List.getD_cons_succ] at H)
        clear hb1
        by_cases hE0 : dimErr d.con = 0
        · rw [hE0]
          have c1 := (H.out.blk 2 rfl).cell 0; simp only [List.getElem?_toArray, List.getElem?_cons_zero, List.getElem?_cons_succ] at c1
          by_cases hmem : d.nm ∈ (ds.map Dm.nm).take k
          · have HN : Hid (schErr ⟨ds.map Dm.con, ms⟩ = 11) := by
              show _ = _
              have h1 : dimsFrom [] (ds.map Dm.con) = 11 := by rw [HE.out, HSt.out, if_neg (by omega), if_pos hmem]
              rw [HE0.out, h1]
              rfl
            have HF := Lib.hid (fresh_old b k ((ds.map Dm.nm).take k) d.nm w1 hml (by omega) (H.out.map 1 rfl) hmem)
            clear HE HE0 HSt hmem hE0
            go_wp2_with fail
            refine HF.out.mono ?_; rintro e w2 ⟨rfl, hg2, hb2⟩
            replace H := Lib.hid (H.out.lostMap 1 rfl hg2 hb2); (try simp only [List.set_cons_zero, List.set_cons_succ, List.cons_append, List.nil_append, List.eraseIdx_cons_zero, List.eraseIdx_cons_succ, List.setIfInBounds_toArray, World.size_alloc, selR, List.getD_cons_zero, List.getD_cons_succ] at H)
            clear hg2 hb2 HF c1
            go_wp2
            go_ret
            rw [HN.out]
            exact ⟨rfl, H.out.to⟩
          · have HN : Hid (dimsFrom [] (ds.map Dm.con) = dimsFrom ((ds.map Dm.nm).take (k + 1)) ((ds.map Dm.con).drop (k + 1))) := by show _ = _; rw [HE.out, HSt.out, if_neg (by omega), if_neg hmem, HTK.out]
            have HF := Lib.hid (fresh_new b k ((ds.map Dm.nm).take k) d.nm w1 hml (by omega) (H.out.map 1 rfl) hmem)
            clear HE HSt hmem hE0
            go_wp2_with fail
            refine HF.out.mono ?_; rintro e w2 ⟨rfl, hg2, hm2⟩
            replace H := Lib.hid (H.out.setMap 1 rfl hg2 hm2); (try simp only [List.set_cons_zero, List.set_cons_succ, List.cons_append, List.nil_append, List.eraseIdx_cons_zero, List.eraseIdx_cons_succ, List.setIfInBounds_toArray, World.size_alloc, selR, List.getD_cons_zero, List.getD_cons_succ] at H)
            replace H := Lib.hid (H.out.sel [0, 1] (by decide) (by simp)); (try simp only [List.set_cons_zero, List.set_cons_succ, List.cons_append, List.nil_append, List.eraseIdx_cons_zero, List.eraseIdx_cons_succ, List.setIfInBounds_toArray, World.size_alloc, selR, List.getD_cons_zero, List.getD_cons_succ] at H)
            rw [← HTK.out] at H
            clear hg2 hm2 HF c1
            go_wp2
            go_roundg (n - (k + 1))
            case rel => exact ⟨k + 1, rfl, by omega, by go_num, H, HN⟩
            case measure => rw [Hgk.out]; omega
        · have HN : Hid (schErr ⟨ds.map Dm.con, ms⟩ = dimErr d.con) := by
            show _ = _
            have h1 : dimsFrom [] (ds.map Dm.con) = dimErr d.con := by rw [HE.out, HSt.out, if_pos hE0]
            rw [HE0.out, h1, if_pos hE0]
          have dE : (dimErr d.con != 0) = true := by simpa using hE0
          have dE2 : (dimErr d.con == 0) = false := by simpa using hE0
          clear HE HE0 HSt hE0
          go_wp2
          go_ret
          rw [HN.out]
          exact ⟨rfl, H.out.to⟩
      · have HN : Hid (schErr ⟨ds.map Dm.con, ms⟩ = measErr ms) := by
          show _ = _
          have h1 : dimsFrom [] (ds.map Dm.con) = 0 := by rw [HE.out, List.drop_of_length_le (by have := hlen.out; simp; omega)]; rfl
          rw [HE0.out, h1]
          rfl
        have c1 := (H.out.blk 0 rfl).cell 1; simp only [List.getElem?_toArray, List.getElem?_cons_zero, List.getElem?_cons_succ] at c1
        clear HE HE0
        go_wp2_with fail
        refine (HMs.out _ H.out.to).mono ?_; rintro e w2 ⟨rfl, hb2⟩
        clear c1
        go_wp2
        go_ret
        rw [HN.out]
        exact ⟨rfl, H.out.to.trans hb2⟩
  · have HE : Hid (schErr ⟨ds.map Dm.con, ms⟩ = 5) := by show _ = _; unfold schErr; simp only [List.length_map]; rw [if_pos (by have := hlen.out; omega)]
    have c0 := (H.out.blk 0 rfl).cell 0; simp only [List.getElem?_toArray, List.getElem?_cons_zero, List.getElem?_cons_succ] at c0
    rcases (show n < 1 ∨ (1 ≤ n ∧ 16 < n) by omega) with h | ⟨h, h'⟩
    · have d1 : decide ((n : Int) < 1) = true := by simp <;> omega
      go_enter Try.func77, Try.ntmps77
      go_wp2
      go_ret
      rw [HE.out]
      exact ⟨rfl, H.out.to⟩
    · have d1 : decide ((n : Int) < 1) = false := by simp <;> omega
      have d2 : decide ((16 : Int) < n) = true := by simp <;> omega
      go_enter Try.func77, Try.ntmps77
      go_wp2
      go_ret
      rw [HE.out]
      exact ⟨rfl, H.out.to⟩

end Go.Proofs.Ytnekknemjhlgdaa
