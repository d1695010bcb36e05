/- Walks of num.Row, num.Rows, the document's, and pitheadplain.Nums. -/
import Derived.Test.YtbociponcacmpaaNumRT
import Derived.Test.YtbociponcacmpaaSl
import Derived.Deep.LoopGhost
namespace Go.Proofs.Ytbociponcacmpaa
open Go.RowKit
set_option linter.unusedVariables false

/-- Many numbers' bytes. -/
def nrow (l : List Int) : List UInt8 := l.flatMap fun z => nput z.toNat
/-- Numbers of an unsigned kind of 64 bits. -/
def AllU64 (l : List Int) : Prop := ∀ z ∈ l, 0 ≤ z ∧ z < 18446744073709551616

theorem nrow_length (l : List Int) : (nrow l).length ≤ 9 * l.length := by
  induction l with
  | nil => simp [nrow]
  | cons z l ih =>
    have := nsize_le z.toNat
    simp only [nrow, List.flatMap_cons, List.length_append, nput_length, List.length_cons] at ih ⊢
    omega
theorem nrow_snoc (l : List Int) (k : Nat) (z : Int) (h : l[k]? = some z) : nrow (l.take (k + 1)) = nrow (l.take k) ++ nput z.toNat := by
  rw [List.take_add_one, h]
  simp [nrow]

set_option maxRecDepth 100000 in
set_option maxHeartbeats 400000 in
theorem row_any (A : Option Addr) (n c : Nat) (zs : List Int) (w : World) (hr : Rd w 1 A n (zs.map (Value.int .u64))) (hz : AllU64 zs) (hn : n ≤ 100000) :
    Calls Try.prog 41 #[.slice A n c] w fun e w' => e = .returned (.string ⟨(nrow zs).toArray⟩) ∧ Bel w w' := by
  have hlen : Hid (zs.length = n) := by have := hr.len; show _ = _; simpa using this
  have Hz := Lib.hid hz
  clear hz
  go_enter Try.func41, Try.ntmps41
  go_wp2
  go_loopw [3, 8] (fun o i wr => ∃ (k : Nat) (l : List UInt8), k ≤ n ∧ i = .int .i64 k ∧ o = .string ⟨l.toArray⟩ ∧ Bel w wr ∧ Hid (l = nrow (zs.take k))) (fun _ i _ => n - (intOf i).toNat)
  case atStart => exact ⟨0, [], by omega, rfl, rfl, Bel.refl _, rfl⟩
  case round =>
    obtain ⟨k, l, hk, rfl, rfl, hB, hl⟩ := hrel
    by_cases hlt : k < n
    · obtain ⟨ad, z, rfl, hzk, hc⟩ := (hr.bel hB).int hlt
      have Hzk := Lib.hid hzk
      have hz0 := Lib.hid (Hz.out z (List.mem_of_getElem? hzk))
      have hll : l.length ≤ 900000 := by rw [hl.out]; have := nrow_length (zs.take k); have : (zs.take k).length ≤ k := List.length_take_le _ _; omega
      have hpl : (nput z.toNat).length ≤ 9 := by rw [nput_length]; exact nsize_le _
      clear hzk
      go_wp2_with fail
      refine (put_any _ _ hz0.out.1 hz0.out.2).mono ?_; rintro e w1 ⟨rfl, hb⟩; replace hB := hB.trans hb; clear hb
      go_wp2
      go_roundw
      case rel => exact ⟨k + 1, l ++ nput z.toNat, by omega, by go_num, by rw [str_append], hB, by show _ = _; rw [nrow_snoc _ _ _ Hzk.out, hl.out]⟩
      case measure => simp [intOf]; omega
    · have Hl : Hid (l = nrow zs) := by show _ = _; rw [hl.out, List.take_of_length_le (by have := hlen.out; omega)]
      clear hl
      go_wp2
      go_ret
      rw [← Hl.out]
      exact ⟨rfl, hB⟩

set_option maxRecDepth 100000 in
set_option maxHeartbeats 400000 in
theorem rrow_any (A : Option Addr) (n c : Nat) (zs : List Int) (w : World) (hr : Rd w 1 A n (zs.map (Value.int .u64))) (hz : AllU64 zs) (hn : n ≤ 100000) :
    Calls Try.prog 42 #[.slice A n c] w fun e w' => e = .returned (.string ⟨(nrow zs).toArray⟩) ∧ Bel w w' := by
  have hlen : Hid (zs.length = n) := by have := hr.len; show _ = _; simpa using this
  have Hz := Lib.hid hz
  clear hz
  go_enter Try.func42, Try.ntmps42
  go_wp2
  go_loopw [3, 4] (fun o i wr => ∃ (k : Nat) (l : List UInt8), k ≤ n ∧ i = .int .i64 k ∧ o = .string ⟨l.toArray⟩ ∧ Bel w wr ∧ Hid (l = nrow (zs.take k))) (fun _ i _ => n - (intOf i).toNat)
  case atStart => exact ⟨0, [], by omega, rfl, rfl, Bel.refl _, rfl⟩
  case round =>
    obtain ⟨k, l, hk, rfl, rfl, hB, hl⟩ := hrel
    by_cases hlt : k < n
    · obtain ⟨ad, z, rfl, hzk, hc⟩ := (hr.bel hB).int hlt
      have Hzk := Lib.hid hzk
      have hz0 := Lib.hid (Hz.out z (List.mem_of_getElem? hzk))
      have hll : l.length ≤ 900000 := by rw [hl.out]; have := nrow_length (zs.take k); have : (zs.take k).length ≤ k := List.length_take_le _ _; omega
      have hpl : (nput z.toNat).length ≤ 9 := by rw [nput_length]; exact nsize_le _
      clear hzk
      go_wp2_with fail
      refine (rput_any _ _ hz0.out.1 hz0.out.2).mono ?_; rintro e w1 ⟨rfl, hb⟩; replace hB := hB.trans hb; clear hb
      go_wp2
      go_roundw
      case rel => exact ⟨k + 1, l ++ nput z.toNat, by omega, by go_num, by rw [str_append], hB, by show _ = _; rw [nrow_snoc _ _ _ Hzk.out, hl.out]⟩
      case measure => simp [intOf]; omega
    · have Hl : Hid (l = nrow zs) := by show _ = _; rw [hl.out, List.take_of_length_le (by have := hlen.out; omega)]
      clear hl
      go_wp2
      go_ret
      rw [← Hl.out]
      exact ⟨rfl, hB⟩

theorem takes_shorter {l : List UInt8} (h1 : l ≠ []) (h2 : (ntake l).2.2 = true) : (l.drop (ntake l).2.1).length < l.length := by
  have h := ntake_size l
  have h3 := h.2.2 h2
  have : l.length ≠ 0 := fun e => h1 (List.eq_nil_of_length_eq_zero e)
  rw [List.length_drop]
  omega

/-- The numbers of which bytes are the row. -/
def nrows (l : List UInt8) : Option (List Int) :=
  if h1 : l = [] then some [] else
  if h2 : (ntake l).2.2 = true then (nrows (l.drop (ntake l).2.1)).map (((ntake l).1 : Int) :: ·) else none
termination_by l.length
decreasing_by exact takes_shorter h1 h2

theorem nrows_nil : nrows [] = some [] := by rw [nrows]; simp
theorem nrows_some {l : List UInt8} (h1 : l ≠ []) (h2 : (ntake l).2.2 = true) : nrows l = (nrows (l.drop (ntake l).2.1)).map (((ntake l).1 : Int) :: ·) := by
  rw [nrows, dif_neg h1, dif_pos h2]
theorem nrows_none {l : List UInt8} (h1 : l ≠ []) (h2 : (ntake l).2.2 = false) : nrows l = none := by
  rw [nrows, dif_neg h1, dif_neg (by simp [h2])]

theorem nrows_nrow (zs : List Int) (h : AllU64 zs) : nrows (nrow zs) = some zs := by
  induction zs with
  | nil => exact nrows_nil
  | cons z zs ih =>
    have hz := h z (by simp)
    have e : nrow (z :: zs) = nput z.toNat ++ nrow zs := by simp [nrow]
    have ht := ntake_nput (n := z.toNat) (by omega) (nrow zs)
    have hne : nput z.toNat ++ nrow zs ≠ [] := by
      intro h0
      have h1 := nput_length z.toNat
      have h2 := nsize_pos z.toNat
      have h3 : (nput z.toNat ++ nrow zs).length = 0 := by rw [h0]; rfl
      rw [List.length_append, h1] at h3
      omega
    rw [e, nrows_some hne (by rw [ht]), ht]
    simp only
    rw [← nput_length, List.drop_left, ih (fun y hy => h y (by simp [hy]))]
    have : ((z.toNat : Nat) : Int) = z := by omega
    simp [this]

/-- What Rows hands back. -/
def RowsPost (r : Option (List Int)) (w : World) (e : Ending) (w' : World) : Prop :=
  Bel w w' ∧ ((r = none ∧ e = .returned (.tuple #[.slice none 0 0, .bool false])) ∨
    ∃ zs A c, r = some zs ∧ e = .returned (.tuple #[.slice A zs.length c, .bool true]) ∧ Rd w' 1 A zs.length (zs.map (Value.int .u64)) ∧ zs.length ≤ c)

theorem E_u64 : ElemInfo Try.prog 61 22 1 8 := ElemInfo.mk' (z := .int .u64 0) Try.underlying61 (by kernel_rfl) rfl (by omega)

theorem rows_step {l : List UInt8} {L : Option (List Int)} {zs : List Int} (h : L = (nrows l).map (zs ++ ·)) (h1 : l ≠ []) (h2 : (ntake l).2.2 = true) :
    L = (nrows (l.drop (ntake l).2.1)).map ((zs ++ [((ntake l).1 : Int)]) ++ ·) := by
  rw [h, nrows_some h1 h2]
  cases nrows (l.drop (ntake l).2.1) <;> simp

set_option maxRecDepth 100000 in
set_option maxHeartbeats 1000000 in
theorem rows_any (L : List UInt8) (w : World) (hL : L.length ≤ 1000001) :
    Calls Try.prog 39 #[.string ⟨L.toArray⟩] w (RowsPost (nrows L) w) := by
  go_enter Try.func39, Try.ntmps39
  go_wp2
  go_loopg [0, 4] L.length (fun g o v wr => ∃ (l : List UInt8) (zs : List Int), g = l.length ∧ o = .string ⟨l.toArray⟩ ∧ wr.ownsRow w.heap.size 22 1 v zs.length (zs.map (Value.int .u64)) ∧ Bel w wr ∧ l.length + zs.length ≤ 1000001 ∧ Hid (nrows L = (nrows l).map (zs ++ ·)))
  case atStart => exact ⟨L, [], rfl, rfl, World.ownsRow_nil _ _ _ _, Bel.refl _, by simpa using hL, by show _ = _; cases nrows L <;> rfl⟩
  case round =>
    obtain ⟨l, zs, hgk, rfl, hown, hB, hsz, hN⟩ := hrel
    have Hgk := Lib.hid hgk
    clear hgk
    cases l with
    | nil =>
      have HN : Hid (nrows L = some zs) := by show _ = _; rw [hN.out, nrows_nil]; simp
      obtain ⟨A, c, rfl, hc⟩ := own_slice hown
      have hrd := Rd.of_own hown
      clear hN
      go_wp2
      go_ret2
      rw [HN.out]
      exact ⟨hB, .inr ⟨zs, A, c, rfl, rfl, hrd, hc⟩⟩
    | cons ch r =>
      have hsize := ntake_size (ch :: r)
      by_cases hok : (ntake (ch :: r)).2.2 = true
      · have h1 := hsize.2.2 hok
        have HN := Lib.hid (rows_step hN.out (by simp) hok)
        clear hN
        go_wp2_with fail
        refine (take_any _ _ (by simp only [List.length_cons] at hsz ⊢; omega)).mono ?_; rintro e w1 ⟨rfl, hb⟩
        have hown1 := own_bel hown hb
        have hB1 := hB.trans hb
        clear hown hB hb
        simp only [List.length_cons] at hsz
        have hk1 : ((ntake (ch :: r)).2.1 : Int) ≤ (r.length : Int) + 1 := by have := hsize.1; simp only [List.length_cons] at this; omega
        clear hsize
        go_wp2_with fail
        go_region_law ((refine step_append1 (by rfl) (.tmp 18) (.tmp 20) _ (by rfl) E_u64 w (by exact (hB1.alloc _).drew) _ zs.length (zs.map (Value.int .u64)) (by rfl) (by exact own_drew (hown1.alloc _)) _ 1 1 [.int .u64 ((ntake (ch :: r)).1 : Nat)] (by rfl) (by exact rd_drew (rd_new _ _ _ 1 1 rfl)) (by simp [Value.oneCell']) (by unfold maxLen; omega) (by omega) ?_; intro v2 w2 hown2 hB2 hg2 hat2))
        all_goals
          go_wp2
          go_roundg ((ch :: r).drop (ntake (ch :: r)).2.1).length
          case rel =>
            refine ⟨(ch :: r).drop (ntake (ch :: r)).2.1, zs ++ [((ntake (ch :: r)).1 : Int)], rfl, ?_, ?_, hB2, ?_, HN.out⟩
            · rw [str_extract, List.take_of_length_le (by simp)]
            · simpa using hown2
            · simp only [List.length_drop, List.length_cons, List.length_append, List.length_nil]; omega
          case measure => rw [Hgk.out]; simp only [List.length_drop, List.length_cons]; omega
      · have HN : Hid (nrows L = none) := by show _ = _; rw [hN.out, nrows_none (by simp) (by simpa using hok)]; rfl
        clear hN
        have hok' : (ntake (ch :: r)).2.2 = false := by simpa using hok
        clear hok
        go_wp2_with fail
        refine (take_any _ _ (by simp only [List.length_cons] at hsz ⊢; omega)).mono ?_; rintro e w1 ⟨rfl, hb⟩; replace hB := hB.trans hb; clear hb
        go_wp2
        go_ret2
        rw [HN.out]
        exact ⟨hB, .inl ⟨rfl, rfl⟩⟩

theorem str_from (L : List UInt8) (a : Nat) : (⟨L.toArray⟩ : ByteArray).extract a L.length = ⟨(L.drop a).toArray⟩ := by
  rw [str_extract, List.take_of_length_le (by simp)]

set_option maxRecDepth 100000 in
set_option maxHeartbeats 1000000 in
theorem rrows_any (L : List UInt8) (w : World) (hL : L.length ≤ 1000001) :
    Calls Try.prog 40 #[.string ⟨L.toArray⟩] w (RowsPost (nrows L) w) := by
  go_enter Try.func40, Try.ntmps40
  go_wp2
  go_loopg [4, 5] L.length (fun g v i wr => ∃ (k : Nat) (zs : List Int), g = L.length - k ∧ i = .int .i64 k ∧ k ≤ L.length ∧ wr.ownsRow w.heap.size 22 1 v zs.length (zs.map (Value.int .u64)) ∧ Bel w wr ∧ zs.length ≤ k ∧ Hid (nrows L = (nrows (L.drop k)).map (zs ++ ·)))
  case atStart => exact ⟨0, [], rfl, rfl, by omega, World.ownsRow_nil _ _ _ _, Bel.refl _, by simp, by show _ = _; rw [List.drop_zero]; cases nrows L <;> rfl⟩
  case round =>
    obtain ⟨k, zs, hgk, rfl, hk, hown, hB, hsz, hN⟩ := hrel
    have Hgk := Lib.hid hgk
    clear hgk
    by_cases hlt : k < L.length
    · have hne : L.drop k ≠ [] := by intro h; have := congrArg List.length h; simp at this; omega
      have hsize := ntake_size (L.drop k)
      rw [List.length_drop] at hsize
      obtain ⟨l, Hl⟩ : ∃ l, Hid (L.drop k = l) := ⟨_, rfl⟩
      rw [Hl.out] at hN hne hsize
      have hne' := Lib.hid hne
      clear hne
      have hll : l.length ≤ 1000001 := by rw [← Hl.out, List.length_drop]; omega
      by_cases hok : (ntake l).2.2 = true
      · have h1 := hsize.2.2 hok
        have HN := Lib.hid (rows_step hN.out hne'.out hok)
        have h2 : k + (ntake l).2.1 ≤ L.length := by have := hsize.1; omega
        clear hN hsize
        go_wp2_with fail
        rw [str_from, Hl.out]
        refine (rtake_any _ _ hll).mono ?_; rintro e w1 ⟨rfl, hb⟩
        have hown1 := own_bel hown hb
        have hB1 := hB.trans hb
        clear hown hB hb
        go_wp2_with (at_builtin; refine wpList_append1 rfl (.tmp 23) (.tmp 25) _ rfl E_u64 w (hB1.alloc _) _ zs.length (zs.map (Value.int .u64)) rfl (hown1.alloc _) _ 1 1 [.int .u64 ((ntake l).1 : Nat)] rfl (rd_new _ _ _ 1 1 rfl) (by simp [Value.oneCell']) (by unfold maxLen; omega) (by omega) ?_; intro v2 w2 hown2 hB2 hg2 hat2)
        go_roundg (L.length - (k + (ntake l).2.1))
        case rel =>
          refine ⟨k + (ntake l).2.1, zs ++ [((ntake l).1 : Int)], rfl, by go_num, by omega, ?_, hB2, ?_, ?_⟩
          · simpa using hown2
          · simp; omega
          · show _ = _
            rw [← List.drop_drop, Hl.out]
            exact HN.out
        case measure => rw [Hgk.out]; omega
      · have HN : Hid (nrows L = none) := by show _ = _; rw [hN.out, nrows_none hne'.out (by simpa using hok)]; rfl
        have hok' : (ntake l).2.2 = false := by simpa using hok
        clear hok hN hsize
        go_wp2_with fail
        rw [str_from, Hl.out]
        refine (rtake_any _ _ hll).mono ?_; rintro e w1 ⟨rfl, hb⟩; replace hB := hB.trans hb; clear hb
        go_wp2
        go_ret2
        rw [HN.out]
        exact ⟨hB, .inl ⟨rfl, rfl⟩⟩
    · have HN : Hid (nrows L = some zs) := by show _ = _; rw [hN.out, List.drop_of_length_le (by omega), nrows_nil]; simp
      obtain ⟨A, c, rfl, hc⟩ := own_slice hown
      have hrd := Rd.of_own hown
      clear hN
      go_wp2
      go_ret2
      rw [HN.out]
      exact ⟨hB, .inr ⟨zs, A, c, rfl, rfl, hrd, hc⟩⟩

set_option maxRecDepth 100000 in
set_option maxHeartbeats 1000000 in
theorem nums_any (A B : Option Addr) (n m c d : Nat) (zs ys : List Int) (w : World) (ha : Rd w 1 A n (zs.map (Value.int .u64))) (hb : Rd w 1 B m (ys.map (Value.int .u64))) (hn : n ≤ 100000000) (hm : m ≤ 100000000) :
    Calls Try.prog 43 #[.slice A n c, .slice B m d] w fun e w' => e = .returned (.bool (decide (zs = ys))) ∧ Bel w w' := by
  have lz : Hid (zs.length = n) := by have := ha.len; show _ = _; simpa using this
  have ly : Hid (ys.length = m) := by have := hb.len; show _ = _; simpa using this
  by_cases hnm : n = m
  · subst hnm
    go_enter Try.func43, Try.ntmps43
    go_wp2
    go_loopg [13] n (fun g i wr => ∃ k : Nat, g = n - k ∧ k ≤ n ∧ i = .int .i64 k ∧ Bel w wr ∧ Hid (zs.take k = ys.take k))
    case atStart => exact ⟨0, rfl, by omega, rfl, Bel.refl _, rfl⟩
    case round =>
      obtain ⟨k, hgk, hk, rfl, hB, hE⟩ := hrel
      have Hgk := Lib.hid hgk
      clear hgk
      by_cases hlt : k < n
      · obtain ⟨ad, x, rfl, hx, hcx⟩ := (ha.bel hB).int hlt
        obtain ⟨bd, y, rfl, hy, hcy⟩ := (hb.bel hB).int hlt
        have Hx := Lib.hid hx
        have Hy := Lib.hid hy
        clear hx hy
        have k0 : (0 : Int) ≤ (k : Int) := by omega
        have k1 : (k : Int) < (n : Int) := by omega
        by_cases hxy : x = y
        · have q : (x != y) = false := by simp [hxy]
          have HE : Hid (zs.take (k + 1) = ys.take (k + 1)) := by show _ = _; rw [List.take_add_one, List.take_add_one, hE.out, Hx.out, Hy.out, hxy]
          clear hxy hE
          go_wp2_with fail
          go_quiet (fail)
          go_wp2
          go_roundg (n - (k + 1))
          case rel => exact ⟨k + 1, rfl, by omega, by go_num, hB.drewN _, HE⟩
          case measure => rw [Hgk.out]; omega
        · have q : (x != y) = true := by simp [hxy]
          have HE : Hid (decide (zs = ys) = false) := by
            show _ = _
            rw [decide_eq_false_iff_not]
            rintro rfl
            rw [Hx.out] at Hy
            have := Hy.out
            injection this with this
            exact hxy this
          clear hxy hE
          go_wp2_with fail
          go_quiet (fail)
          go_wp2
          go_ret
          rw [HE.out]
          exact ⟨rfl, hB.drewN _⟩
      · have HE : Hid (decide (zs = ys) = true) := by
          show _ = _
          rw [decide_eq_true_iff]
          have h := hE.out
          rw [List.take_of_length_le (by have := lz.out; omega), List.take_of_length_le (by have := ly.out; omega)] at h
          exact h
        clear hE
        go_wp2
        go_ret
        rw [HE.out]
        exact ⟨rfl, hB⟩
  · have q : ((n : Int) != (m : Int)) = true := by simp; omega
    have HE : Hid (decide (zs = ys) = false) := by
      show _ = _
      rw [decide_eq_false_iff_not]
      rintro rfl
      have := lz.out
      have := ly.out
      omega
    go_enter Try.func43, Try.ntmps43
    go_wp2
    go_ret
    rw [HE.out]
    exact ⟨rfl, Bel.refl _⟩

end Go.Proofs.Ytbociponcacmpaa
