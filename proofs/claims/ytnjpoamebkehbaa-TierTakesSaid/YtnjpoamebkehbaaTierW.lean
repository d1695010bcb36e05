/- Walks of tier.tree, tier.Check, and the document's. -/
import Derived.Test.YtnjpoamebkehbaaTier
import Derived.Test.YtnjpoamebkehbaaTierP
import Derived.Test.YtnjpoamebkehbaaTermP
import Derived.Maps.OwnSet
import Derived.Maps.OwnOps
namespace Go.Proofs.Ytnjpoamebkehbaa
open Go.RowKit
set_option linter.unusedVariables false
set_option linter.unusedSimpArgs false

/-- The different ones among numbers. -/
def addI (acc : List Int) (x : Int) : List Int := if acc.contains x then acc else acc ++ [x]
theorem addKey_int (xs : List Int) : ∀ acc : List Int, (xs.map (Lit.int .i64)).foldl Maps.addKey (acc.map (Lit.int .i64)) = (xs.foldl addI acc).map (Lit.int .i64) := by
  induction xs with
  | nil => intro acc; rfl
  | cons x xs ih =>
    intro acc
    rw [List.map_cons, List.foldl_cons, List.foldl_cons, ← ih]
    congr 1
    unfold Maps.addKey addI
    have e : ((acc.map (Lit.int .i64)).any fun y => y.sameKey (Lit.int .i64 x)) = acc.contains x := by
      rw [List.any_map, List.contains_eq_any_beq]
      congr 1
      funext y
      simp only [Function.comp, Lit.sameKey]
      by_cases h : y = x <;> simp [h]
      exact fun e => h e.symm
    rw [e]
    split
    · rfl
    · simp
theorem addI_mem (xs : List Int) : ∀ (acc : List Int) (y : Int), y ∈ xs.foldl addI acc ↔ y ∈ acc ∨ y ∈ xs := by
  induction xs with
  | nil => intro acc y; simp
  | cons x xs ih =>
    intro acc y
    rw [List.foldl_cons, ih]
    unfold addI
    split
    · rename_i h
      have hx : x ∈ acc := by simpa using h
      simp only [List.mem_cons]
      constructor
      · rintro (h | h)
        · exact .inl h
        · exact .inr (.inr h)
      · rintro (h | h | h)
        · exact .inl h
        · subst h; exact .inl hx
        · exact .inr h
    · simp only [List.mem_append, List.mem_singleton, List.mem_cons, or_assoc, List.not_mem_nil, or_false]
theorem addI_nodup (xs : List Int) : ∀ acc : List Int, acc.Nodup → (xs.foldl addI acc).Nodup := by
  induction xs with
  | nil => intro acc h; exact h
  | cons x xs ih =>
    intro acc h
    rw [List.foldl_cons]
    apply ih
    unfold addI
    split
    · exact h
    · rename_i hx
      have hx' : x ∉ acc := by simpa using hx
      rw [List.nodup_append]
      exact ⟨h, by simp, fun a ha b hb => by simp at hb; subst hb; exact fun e => hx' (e ▸ ha)⟩
theorem addI_cover {xs : List Int} {above : Int} (h0 : 0 < above) (h : ∀ x ∈ xs, 0 ≤ x ∧ x < above) : decide (((xs.foldl addI []).length : Int) = above) = (List.range above.toNat).all (fun i => xs.contains (i : Int)) := by
  have hm : ∀ y, y ∈ xs.foldl addI [] ↔ y ∈ xs := fun y => by rw [addI_mem]; simp
  have hd := addI_nodup xs [] List.nodup_nil
  have hn : ((xs.foldl addI []).map Int.toNat).Nodup := by
    rw [List.Nodup, List.pairwise_map]
    refine List.Pairwise.imp_of_mem (fun {a b} ha hb hne e => hne ?_) hd
    have h1 := h a ((hm a).1 ha)
    have h2 := h b ((hm b).1 hb)
    omega
  have hc := addKey_cover (xs := (xs.foldl addI []).map Int.toNat) (m := above.toNat) (by
    intro x hx
    obtain ⟨y, hy, rfl⟩ := List.mem_map.1 hx
    have := h y ((hm y).1 hy)
    omega) hn
  rw [List.length_map] at hc
  rw [Bool.eq_iff_iff]
  simp only [decide_eq_true_eq, List.all_eq_true, List.mem_range]
  constructor
  · intro hl i hi
    have := hc.1 (by omega) i hi
    obtain ⟨y, hy, hyi⟩ := List.mem_map.1 this
    have h1 := h y ((hm y).1 hy)
    have : (i : Int) = y := by omega
    rw [this]
    simpa using (hm y).1 hy
  · intro ha
    have := hc.2 (fun i hi => by
      have h1 : (i : Int) ∈ xs := by simpa using ha i hi
      exact List.mem_map.2 ⟨(i : Int), (hm _).2 h1, by omega⟩)
    omega

abbrev one1 : DataW Unit := .lit (.int .i64 1)
def litsI (xs : List Int) : List Lit := xs.map (Lit.int .i64)
theorem litsI_key (xs : List Int) : ∀ x ∈ litsI xs, WideAt.IsKeyLit x := by
  intro x hx
  obtain ⟨y, _, rfl⟩ := List.mem_map.1 hx
  trivial
theorem size_lits (xs : List Int) : Maps.size (Maps.setOf one1 (litsI xs)) = (xs.foldl addI []).length := by
  rw [Maps.size_setOf _ _ (litsI_key xs)]
  have := addKey_int xs []
  rw [List.map_nil] at this
  unfold litsI
  rw [this, List.length_map]
theorem wf64 {z : Int} (h : I64 z) : (Lit.int .i64 z).wf = true := by
  unfold I64 at h
  simp [Lit.wf, IntKind.min, IntKind.max, IntKind.signed, IntKind.bits]
  omega
theorem take_snocI {up : List Int} {k : Nat} {z : Int} (h : up[k]? = some z) : litsI (up.take (k + 1)) = litsI (up.take k) ++ [.int .i64 z] := by
  obtain ⟨hk, rfl⟩ := List.getElem?_eq_some_iff.1 h
  unfold litsI
  rw [List.take_succ_eq_append_getElem hk, List.map_append]
  rfl
theorem Rd.intC {w : World} {A : Option Addr} {n k : Nat} {zs : List Int} (h : Rd w 1 A n (zs.map (Value.int .i64))) (hk : k < n) : ∃ ad z, A = some ad ∧ zs[k]? = some z ∧ w.cell? (ad.add k) = some (.int .i64 z) := by
  obtain ⟨ad, u, e, _, hx, hc⟩ := Reads.at_ h hk
  rw [List.getElem?_map] at hx
  cases hz : zs[k]? with
  | none => rw [hz] at hx; cases hx
  | some z =>
    rw [hz] at hx
    simp at hx
    subst hx
    exact ⟨ad, z, e, rfl, hc⟩

set_option maxRecDepth 100000 in
set_option maxHeartbeats 1000000 in
theorem tree_any (A : Option Addr) (n c : Nat) (up : List Int) (m : Nat) (above : Int) (w : World) (hr : Rd w 1 A n (up.map (Value.int .i64))) (hI : ∀ z ∈ up, I64 z) (hn : n ≤ 100000) (hm : m ≤ 9223372036854775807) (ha : I64 above) :
    Calls Try.prog 90 #[.slice A n c, .int .i64 m, .int .i64 above] w fun e w' => e = .returned (.bool (treeOk up m above)) ∧ Bel w w' := by
  have hlen : Hid (up.length = n) := by have := hr.len; show _ = _; simpa using this
  obtain ⟨a0, a1⟩ := ha
  by_cases h0 : above ≤ 0
  · have HT : Hid (treeOk up m above = decide (n = 0)) := by
      show _ = _
      rw [treeOk_top h0, ← hlen.out]
      cases up <;> simp
    go_enter Try.func90, Try.ntmps90
    go_wp2
    go_ret
    rw [HT.out]
    refine ⟨ret_bool ?_, Bel.refl _⟩
    by_cases h : n = 0 <;> simp [h]
  · have h0' : 0 < above := by omega
    have d0 : decide (above ≤ 0) = false := by simp; omega
    by_cases hl : n = m
    · subst hl
      have HT : Hid (treeOk up n above = (up.all (fun n => decide (0 ≤ n ∧ n < above)) && (List.range above.toNat).all (fun i => up.contains (i : Int)))) := by
        show _ = _
        unfold treeOk
        rw [if_neg h0, hlen.out]
        simp
      have hmm := @run_makeMap Try.prog
      have hHI := Lib.hid hI
      have hHr := Lib.hid hr
      clear hI
      go_enter Try.func90, Try.ntmps90
      go_wp2_with fail
      have M0 : Hid ((w.alloc (.map #[] 0)).ownsMap Try.prog 3 (plainElem Try.prog 3) w.heap.size 0 (Maps.setOf one1 (litsI (up.take 0)))) := World.ownsMap_made _ _ _ _
      have B0 : Hid (Bel w (w.alloc (.map #[] 0))) := (Bel.refl w).alloc _
      have A0 : Hid (∀ z ∈ up.take 0, 0 ≤ z ∧ z < above) := by show ∀ z ∈ up.take 0, _; simp
      go_loopg [22] n (fun gg i wr => ∃ k : Nat, gg = n - k ∧ k ≤ n ∧ i = .int .i64 k ∧ Hid (wr.ownsMap Try.prog 3 (plainElem (H := Unit) Try.prog 3) w.heap.size k (Maps.setOf one1 (litsI (up.take k)))) ∧ Hid (Bel w wr) ∧ Hid (∀ z ∈ up.take k, 0 ≤ z ∧ z < above))
      case atStart => exact ⟨0, rfl, by omega, rfl, M0, B0, A0⟩
      case round =>
        clear M0 B0 A0
        obtain ⟨k, hgk, hk, rfl, hM, hB, hA⟩ := hrel
        have Hgk := Lib.hid hgk
        clear hgk
        by_cases hlt : k < n
        · obtain ⟨ad, z, rfl, hz, hc⟩ := Rd.intC (hHr.out.bel hB.out) hlt
          obtain ⟨z0, z1⟩ := hHI.out z (List.mem_of_getElem? hz)
          have Hz := Lib.hid hz
          have hzm := Lib.hid (List.mem_of_getElem? hz)
          clear hz
          by_cases hz0 : 0 ≤ z
          · by_cases hz1 : z < above
            · have HA2 : Hid (∀ y ∈ up.take (k + 1), 0 ≤ y ∧ y < above) := by
                show ∀ y ∈ up.take (k + 1), _
                obtain ⟨hk', rfl⟩ := List.getElem?_eq_some_iff.1 Hz.out
                rw [List.take_succ_eq_append_getElem hk']
                intro y hy
                rcases List.mem_append.1 hy with hy | hy
                · exact hA.out y hy
                · simp at hy; subst hy; exact ⟨hz0, hz1⟩
              go_wp2_with ((with_reducible show wpList _ _ _ (⟨_, .mapUpdate _ _ _ _, _, _, _, _⟩ :: _) _ _); refine wpList_mapUpdate_own _ rfl (.tmp 33) (.tmp 34) _ 192 rfl 3 3 (Maps.int_keyed Try.underlying3) Try.underlying192 _ w.heap.size k _ rfl hM.out (by unfold maxLen; omega) _ _ (.int .i64 z) rfl rfl (Maps.keyOf_int_mk Try.underlying3 (wf64 ⟨z0, z1⟩)) one1 [] (plainElem_int Try.underlying3 (wf64 (by unfold I64; omega))) ?_; intro w1 hown1 hgrow1)
              go_roundg (n - (k + 1))
              case rel => exact ⟨k + 1, rfl, by omega, by go_num, by show World.ownsMap _ _ _ _ _ _ _; rw [take_snocI Hz.out, Maps.setOf_snoc]; exact hown1, hB.out.grownAt hgrow1 (Nat.le_refl _), HA2⟩
              case measure => rw [Hgk.out]; omega
            · have HF : Hid (treeOk up n above = false) := by
                show _ = _
                rw [HT.out, Bool.and_eq_false_iff]
                left
                rw [← Bool.not_eq_true, List.all_eq_true]
                intro h
                have := h z hzm.out
                simp at this
                omega
              go_wp2
              go_ret
              rw [HF.out]
              exact ⟨rfl, hB.out⟩
          · have HF : Hid (treeOk up n above = false) := by
              show _ = _
              rw [HT.out, Bool.and_eq_false_iff]
              left
              rw [← Bool.not_eq_true, List.all_eq_true]
              intro h
              have := h z hzm.out
              simp at this
              omega
            go_wp2
            go_ret
            rw [HF.out]
            exact ⟨rfl, hB.out⟩
        · have hkn : Hid (up.take k = up) := by show _ = _; exact List.take_of_length_le (by have := hlen.out; omega)
          rw [hkn.out] at hM hA
          have HF : Hid (treeOk up n above = decide (((Maps.size (Maps.setOf one1 (litsI up)) : Nat) : Int) = above)) := by
            show _ = _
            rw [HT.out, size_lits, addI_cover h0' hA.out]
            have : (up.all fun n => decide (0 ≤ n ∧ n < above)) = true := by rw [List.all_eq_true]; intro y hy; simpa using hA.out y hy
            rw [this, Bool.true_and]
          go_wp2_with ((with_reducible show wpList _ _ _ (⟨some 37, _, _, _, _, _⟩ :: _) _ _); refine wpList_len_own _ rfl (.tmp 36) 192 rfl 3 3 Try.underlying192 _ w.heap.size k _ rfl hM.out ?_)
          go_ret
          rw [HF.out]
          refine ⟨ret_bool ?_, hB.out⟩
          rw [Bool.eq_iff_iff]; simp
    · have HF : Hid (treeOk up m above = false) := by
        show _ = _
        unfold treeOk
        rw [if_neg h0, hlen.out]
        simp [hl]
      go_enter Try.func90, Try.ntmps90
      go_wp2
      go_ret
      rw [HF.out]
      exact ⟨rfl, Bel.refl _⟩

/-- What a tier in memory says. -/
abbrev Tir.con (t : Tir) : TC := ⟨t.nm, t.ts.l, t.up.l⟩

set_option maxRecDepth 100000 in
set_option maxHeartbeats 1000000 in
theorem trcheck_any (t : Tir) (above : Int) (w : World) (ht : t.rd w) (hn : t.up.n ≤ 100000) (ha : I64 above) :
    Calls Try.prog 24 #[.agg t.cs, .int .i64 above] w fun e w' => e = .returned (.int .i64 (tierErr t.con above)) ∧ Bel w w' := by
  have hW := (Bel.refl w).alloc (.cells t.cs 30)
  have h1 := ht.mono hW
  obtain ⟨hnm, hts, hup⟩ := ht
  have htl : Hid (t.ts.l.length = t.ts.n) := hts.len
  have hn63 := hts.n63
  obtain ⟨nm, ⟨A, n, c, ts⟩, ⟨A2, n2, c2, up⟩⟩ := t
  simp only [Tir.cs, Tir.con] at *
  have HR := Lib.hid h1.ts.texts
  have HX := Lib.hid h1.ts.txok
  have HU := Lib.hid h1.up.ints
  have HUI := Lib.hid h1.up.all
  have HW := Lib.hid hW
  clear hW h1 hts hup
  cases hN : isName nm with
  | false =>
    have HE : Hid (tierErr ⟨nm, ts, up⟩ above = 2) := by show _ = _; unfold tierErr; simp [hN]
    go_enter Try.func24, Try.ntmps24
    go_wp2_with fail
    refine (name_any nm _ (by omega)).mono ?_; rintro e w1 ⟨rfl, rfl⟩
    rw [hN, show errOf false = 2 from rfl]
    go_wp2
    go_ret
    rw [HE.out]
    exact ⟨rfl, HW.out⟩
  | true =>
    by_cases hl : 1 ≤ n ∧ n ≤ 200
    · obtain ⟨hl1, hl2⟩ := hl
      have d1 : decide ((n : Int) < 1) = false := by simp; omega
      have d2 : decide ((200 : Int) < n) = false := by simp; omega
      by_cases hE : rowErr ts = 0
      · have HE : Hid (tierErr ⟨nm, ts, up⟩ above = if treeOk up n above then 0 else 14) := by
          show _ = _
          unfold tierErr
          simp only [hN, if_true]
          rw [if_neg (by have := htl.out; omega), if_neg (by omega), htl.out]
        have HE0 := Lib.hid hE
        clear hE
        go_enter Try.func24, Try.ntmps24
        go_wp2_with fail
        refine (name_any nm _ (by omega)).mono ?_; rintro e w1 ⟨rfl, rfl⟩
        rw [hN, show errOf true = 0 from rfl]
        go_wp2_with fail
        refine (trow_any A n c ts _ HR.out HX.out (by omega)).mono ?_; rintro e w1 ⟨rfl, rfl⟩
        rw [HE0.out]
        go_wp2_with fail
        refine (tree_any A2 n2 c2 up n above _ HU.out HUI.out hn (by omega) ha).mono ?_; rintro e w1 ⟨rfl, hb1⟩
        cases hT : treeOk up n above with
        | false =>
          rw [hT] at HE
          go_wp2
          go_ret
          rw [HE.out]
          exact ⟨rfl, HW.out.trans hb1⟩
        | true =>
          rw [hT] at HE
          go_wp2
          go_ret
          rw [HE.out]
          exact ⟨rfl, HW.out.trans hb1⟩
      · have HE : Hid (tierErr ⟨nm, ts, up⟩ above = rowErr ts) := by
          show _ = _
          unfold tierErr
          simp only [hN, if_true]
          rw [if_neg (by have := htl.out; omega), if_pos hE]
        have dE : (rowErr ts != 0) = true := by simpa using hE
        have dE2 : (rowErr ts == 0) = false := by simpa using hE
        clear hE
        go_enter Try.func24, Try.ntmps24
        go_wp2_with fail
        refine (name_any nm _ (by omega)).mono ?_; rintro e w1 ⟨rfl, rfl⟩
        rw [hN, show errOf true = 0 from rfl]
        go_wp2_with fail
        refine (trow_any A n c ts _ HR.out HX.out (by omega)).mono ?_; rintro e w1 ⟨rfl, rfl⟩
        go_wp2
        go_ret
        rw [HE.out]
        exact ⟨rfl, HW.out⟩
    · have HE : Hid (tierErr ⟨nm, ts, up⟩ above = 5) := by
        show _ = _
        unfold tierErr
        simp only [hN, if_true]
        rw [if_pos (by have := htl.out; omega)]
      rcases (show n < 1 ∨ (1 ≤ n ∧ 200 < n) by omega) with h | ⟨h, h'⟩
      all_goals
        first | (have d1 : decide ((n : Int) < 1) = true := by simp; omega) | (have d1 : decide ((n : Int) < 1) = false := by simp; omega)
        first | (have d2 : decide ((200 : Int) < n) = true := by simp; omega) | (have d2 : decide ((200 : Int) < n) = false := by simp; omega)
        clear hl
        go_enter Try.func24, Try.ntmps24
        go_wp2_with fail
        refine (name_any nm _ (by omega)).mono ?_; rintro e w1 ⟨rfl, rfl⟩
        rw [hN, show errOf true = 0 from rfl]
        go_wp2
        go_ret
        rw [HE.out]
        exact ⟨rfl, HW.out⟩

end Go.Proofs.Ytnjpoamebkehbaa
