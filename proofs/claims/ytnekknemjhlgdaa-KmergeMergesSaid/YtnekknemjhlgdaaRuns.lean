/- run.Runs: runs, each of them sorted. -/
import Derived.Test.YtnekknemjhlgdaaRunB
import Derived.Test.YtnekknemjhlgdaaCutA
namespace Go.Proofs.Ytnekknemjhlgdaa
open Go.RowKit
set_option linter.unusedVariables false
attribute [local go_sem] fct_get0

/-- Runs in new memory. -/
structure RunsAt (w0 w : World) (v : Value) (rs : List (Row Fct)) : Prop where
  own : w.ownsRow w0.heap.size 75 1 v rs.length (rs.map Row.v)
  all : ∀ r ∈ rs, r.ok w ∧ r.n ≤ 1000 ∧ OffR v.ownBlock r
  bel : Bel w0 w
theorem RunsAt.keep {w0 w w' : World} {v : Value} {rs : List (Row Fct)} (h : RunsAt w0 w v rs) (hb : Bel w w') : RunsAt w0 w' v rs :=
  ⟨own_bel h.own hb, fun r hr => ⟨(h.all r hr).1.mono hb, (h.all r hr).2⟩, h.bel.trans hb⟩
theorem flat_fcts (rs : List (Row Fct)) : rs.flatMap Cel.cells = rs.map Row.v := by
  induction rs with
  | nil => rfl
  | cons r rs ih => rw [List.flatMap_cons, ih]; rfl
theorem RunsAt.cell {w0 w : World} {g n c : Nat} {rs : List (Row Fct)} (h : RunsAt w0 w (.slice (some ⟨g, 0, none⟩) n c) rs) {k : Nat} {r : Row Fct} (hr : rs[k]? = some r) : w.cell? ⟨g, k, none⟩ = some r.v ∧ w.frozen? ⟨g, k, none⟩ = false ∧ g < w.heap.size := by
  obtain ⟨A, c', e, _⟩ := own_slice h.own
  injection e with e1 e2 e3
  have ho := h.own
  rw [← e2, ← flat_fcts] at ho
  have hk : k < n := by have := (List.getElem?_eq_some_iff.1 hr).1; omega
  obtain ⟨q1, q2⟩ := own_range (α := Row Fct) ho hr
  have q3 := own_there (α := Row Fct) ho hk 0 (by decide)
  have e4 : k * Cel.size (Row Fct) + 0 = k := Nat.mul_one k
  have q4 := q1 0 r.v rfl
  rw [e4] at q4 q3
  exact ⟨q4, q3.2, q2⟩
theorem RunsAt.len {w0 w : World} {A : Option Addr} {n c : Nat} {rs : List (Row Fct)} (h : RunsAt w0 w (.slice A n c) rs) : rs.length = n := by
  obtain ⟨A', c', e, _⟩ := own_slice h.own
  injection e with e1 e2 e3
  exact e2.symm
theorem RunsAt.addr {w0 w : World} {A : Option Addr} {n c : Nat} {rs : List (Row Fct)} (h : RunsAt w0 w (.slice A n c) rs) (hn : 0 < n) : ∃ g, A = some ⟨g, 0, none⟩ := by
  have hl := h.len
  rcases h.own.2 with ⟨h0, hz⟩ | ⟨g, cap, cur, e, _⟩
  · omega
  · injection e with e1
    exact ⟨g, e1⟩
theorem RunsAt.set {w0 w : World} {g n c : Nat} {rs : List (Row Fct)} (h : RunsAt w0 w (.slice (some ⟨g, 0, none⟩) n c) rs) {k : Nat} (hk : k < n) {y : Row Fct} (hy : y.ok w) (hn : y.n ≤ 1000) (ho : OffR (some g) y) :
    RunsAt w0 (w.setCell ⟨g, k, none⟩ y.v) (.slice (some ⟨g, 0, none⟩) n c) (rs.set k y) := by
  obtain ⟨A, c', e, _⟩ := own_slice h.own
  injection e with e1 e2 e3
  have hg : w.grownBy (w.setCell ⟨g, k, none⟩ y.v) (some g) := ⟨rfl, rfl, rfl, (KeepsWalks.setCell w _ y.v).size, fun j _ hj => Below.heap_setCell _ _ _ j (fun e => hj (by rw [e]))⟩
  refine ⟨?_, fun r hr => ?_, h.bel.grown hg fun j e => ?_⟩
  · have hw := h.own
    rw [← e2, ← flat_fcts] at hw
    have := own_setRow (α := Row Fct) hw hk y
    rw [flat_fcts, show k * Cel.size (Row Fct) = k from Nat.mul_one k] at this
    rw [List.length_set, ← e2]
    exact this
  · rcases List.mem_or_eq_of_mem_set hr with hr' | rfl
    · exact ⟨fcts_grown (h.all r hr').1 hg (h.all r hr').2.2, (h.all r hr').2⟩
    · exact ⟨fcts_grown hy hg ho, hn, ho⟩
  · injection e with e
    subst e
    exact own_ge h.own rfl

theorem set_mid {α : Type} {U D : List α} {k : Nat} (v : α) (hU : U.length = k) (hk : k < D.length) : (U ++ D.drop k).set k v = (U ++ [v]) ++ D.drop (k + 1) := by
  rw [List.set_append_right _ _ (by omega), hU, Nat.sub_self, List.drop_eq_getElem_cons hk, List.set_cons_zero, List.append_assoc]
  rfl
theorem get_mid {α : Type} {U D : List α} {k : Nat} (hU : U.length = k) : (U ++ D.drop k)[k]? = D[k]? := by
  rw [List.getElem?_append_right (by omega), hU, Nat.sub_self, List.getElem?_drop, Nat.add_zero]
theorem upto_get {α : Type} (f : Nat → α) {k K : Nat} (h : k < K) : (upto f K)[k]? = some (f k) := by simp [upto, h]

set_option maxRecDepth 100000 in
set_option maxHeartbeats 1000000 in
theorem runs_any (m : Nat) (hm1 : 1 ≤ m) (hm2 : m ≤ 9223372036854775807) (x : Row Fct) (w : World) (hx : x.ok w) (hn : x.n ≤ 1000) :
    Calls Try.prog 118 #[.int .i64 m, x.v] w fun e w' => ∃ k v rs, x.l.length ≤ k * m ∧ (k = 0 ∨ (k - 1) * m < x.l.length) ∧ e = .returned (.tuple #[v, .int .i64 0]) ∧ RunsAt w w' v rs ∧ rs.map (fun r => cons r.l) = upto (fun j => sortC (cons ((x.l.drop (j * m)).take m))) k := by
  have Hx := Lib.hid hx
  have Hlen : Hid (x.l.length = x.n) := hx.len
  clear hx
  obtain ⟨A, n, c, l⟩ := x
  simp only [Row.v] at *
  go_enter Try.func118, Try.ntmps118
  go_wp2_with fail
  refine (cut_any m hm1 hm2 ⟨A, n, c, l⟩ _ Hx.out hn).mono ?_
  rintro e w1 ⟨K, hK1, hK2, v, rs, rfl, hown, hall, hcs, hb⟩
  have hR : RunsAt w w1 v rs := ⟨hown, hall, hb⟩
  have hrl : rs.length = K := by have := congrArg List.length hcs; rwa [List.length_map, upto_length] at this
  have hKn : K ≤ 1000 := by
    rcases hK2 with h0 | h1
    · omega
    · have := Nat.le_mul_of_pos_right (K - 1) (show 0 < m by omega)
      have := Hlen.out
      simp only at h1
      omega
  clear hown hall hb
  have HK1 := Lib.hid hK1
  have HK2 := Lib.hid hK2
  have Hcs := Lib.hid hcs
  clear hK1 hK2 hcs
  obtain ⟨vA, vc, rfl, hvc⟩ := own_slice hR.own
  have Hrl := Lib.hid hrl
  rw [hrl] at hR hvc ⊢
  clear hrl
  have hR0 := hR
  go_wp2
  go_loopg [22] K (fun gg i wr => ∃ k ys, gg = K - k ∧ k ≤ K ∧ i = .int .i64 (k : Nat) ∧ RunsAt w wr (.slice vA K vc) ys ∧ Hid (ys.map (fun r => cons r.l) = upto (fun j => sortC (cons ((l.drop (j * m)).take m))) k ++ (rs.map (fun r => cons r.l)).drop k))
  case atStart => exact ⟨0, rs, rfl, by omega, rfl, hR0, by show _ = _; simp [upto]⟩
  case round =>
    obtain ⟨k, ys, hgk, hk, rfl, hY, hys⟩ := hrel
    have Hgk := Lib.hid hgk
    clear hgk
    by_cases hlt : k < K
    · obtain ⟨g, rfl⟩ := hY.addr (by omega)
      obtain ⟨y, hy⟩ : ∃ y, ys[k]? = some y := ⟨_, List.getElem?_eq_getElem (by rw [hY.len]; exact hlt)⟩
      obtain ⟨hc, hf, hg⟩ := hY.cell hy
      have hya := hY.all y (List.mem_of_getElem? hy)
      have Hy := Lib.hid hy
      have HYa := Lib.hid hya
      have HY := Lib.hid hY
      obtain ⟨yA, yn, yc, yl⟩ := y
      simp only [Row.v] at hc
      clear hy hya hY hR hR0
      go_wp2_with fail
      refine (sort_any ⟨yA, yn, yc, yl⟩ _ HYa.out.1 HYa.out.2.1).mono ?_
      rintro e w2 ⟨u, fs, rfl, hG, hfs⟩
      have Hfs := Lib.hid hfs
      clear hfs
      have hfl : fs.length = yn := by have h1 := congrArg List.length Hfs.out; rw [cons_len, sortC_len, cons_len] at h1; rw [h1]; exact HYa.out.1.len
      have hyn : yn ≤ 1000 := HYa.out.2.1
      obtain ⟨z, rfl, hzo, hzl, hzn⟩ := gath_row hG (by omega)
      have hY2 := HY.out.keep hG.bel
      have hoz : OffR (some g) z := off_gath hG rfl hzl hg
      have HS := Lib.hid (hY2.set hlt hzo (by omega) hoz)
      obtain ⟨hc2, hf2, hg2⟩ := hY2.cell Hy.out
      simp only [Row.v] at hc2
      obtain ⟨zA, zn, zc, zl⟩ := z
      simp only [Row.v] at *
      have Hzl : Hid (zl = fs) := hzl
      clear hY2 hoz hG hzo hzl hzn hfl
      go_wp2
      go_roundg (K - (k + 1))
      case rel =>
        refine ⟨k + 1, _, rfl, by omega, by go_num, HS.out, ?_⟩
        show _ = _
        have hU : (upto (fun j => sortC (cons ((l.drop (j * m)).take m))) k).length = k := upto_length _ _
        have hD : k < (rs.map (fun r => cons r.l)).length := by rw [List.length_map, Hrl.out]; exact hlt
        have h1 : (ys.map (fun r => cons r.l))[k]? = some (cons yl) := by rw [List.getElem?_map, Hy.out]; rfl
        rw [hys.out, get_mid hU, Hcs.out, upto_get _ hlt] at h1
        injection h1 with h1
        rw [List.map_set, hys.out, set_mid _ hU hD, upto_succ]
        simp only [Hzl.out, Hfs.out, h1]
      case measure => rw [Hgk.out]; omega
    · obtain rfl : k = K := by omega
      clear hR hR0
      go_wp2
      refine bodyPost_ret (v := .tuple #[.slice vA k vc, .int .i64 0]) (by kernel_rfl) rfl ?_
      refine ⟨k, _, ys, HK1.out, HK2.out, rfl, hY, ?_⟩
      rw [hys.out, List.drop_eq_nil_of_le (by rw [List.length_map, Hrl.out]; exact Nat.le_refl _), List.append_nil]

end Go.Proofs.Ytnekknemjhlgdaa
