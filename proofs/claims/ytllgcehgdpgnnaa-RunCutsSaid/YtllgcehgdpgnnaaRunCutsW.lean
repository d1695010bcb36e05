/- The walk of the law RunCuts. -/
import Derived.Test.YtllgcehgdpgnnaaRunD
import Derived.Test.YtllgcehgdpgnnaaRuns
import Derived.Deep.DeepCutAuto
import Derived.Deep.RegionWith
namespace Go.Proofs.Ytllgcehgdpgnnaa
open Go.RowKit
set_option linter.unusedVariables false
attribute [local go_sem] fct_get0

theorem runs_not (m : Int) (hm : m < 1) (v : Value) (w : World) : Calls Try.prog 18 #[.int .i64 m, v] w fun e w' => e = .returned (.tuple #[.slice none 0 0, .int .i64 2]) ∧ Bel w w' := by
  go_enter Try.func18, Try.ntmps18
  go_wp2_with fail
  refine (cut_not m hm v _).mono ?_; rintro e w1 ⟨rfl, hb⟩
  go_wp2
  refine bodyPost_ret (v := .tuple #[.slice none 0 0, .int .i64 2]) (by kernel_rfl) rfl ⟨rfl, hb⟩

theorem flat_upto (l : List Fct) (m : Nat) : ∀ k, (upto (fun j => (l.drop (j * m)).take m) k).flatten = l.take (k * m)
  | 0 => by simp [upto]
  | k + 1 => by rw [upto_succ, List.flatten_append, flat_upto l m k, Nat.add_mul, Nat.one_mul, List.take_add]; simp
theorem runs_uni {n m K K' : Nat} (h1 : n ≤ K * m) (h2 : K = 0 ∨ (K - 1) * m < n) (h1' : n ≤ K' * m) (h2' : K' = 0 ∨ (K' - 1) * m < n) : K = K' := by
  have key : ∀ a b, n ≤ a * m → (b = 0 ∨ (b - 1) * m < n) → ¬ a < b := fun a b ha hb hlt => by
    rcases hb with h0 | h0
    · omega
    · have := Nat.mul_le_mul_right m (show a ≤ b - 1 by omega)
      omega
  have := key K K' h1 h2'
  have := key K' K h1' h2
  omega
theorem chunk_len {l : List Fct} {m K i : Nat} (h2 : K = 0 ∨ (K - 1) * m < l.length) (hm : 1 ≤ m) (hi : i < K) : 1 ≤ ((l.drop (i * m)).take m).length ∧ ((l.drop (i * m)).take m).length ≤ m ∧ (i + 1 < K → ((l.drop (i * m)).take m).length = m) := by
  rw [List.length_take, List.length_drop]
  have h3 : (K - 1) * m < l.length := by omega
  have h4 := Nat.mul_le_mul_right m (show i ≤ K - 1 by omega)
  refine ⟨by omega, by omega, fun h => ?_⟩
  have h5 := Nat.mul_le_mul_right m (show i + 1 ≤ K - 1 by omega)
  rw [Nat.add_mul, Nat.one_mul] at h5
  omega

theorem sameF_cons {l q : List Fct} (h : cons l = cons q) : sameF l q = true := by
  unfold sameF
  rw [h]
  exact decide_eq_true rfl
theorem upto_take {α : Type} (f : Nat → α) {k K : Nat} (h : k ≤ K) : (upto f K).take k = upto f k := by
  simp [upto, ← List.map_take, List.take_range, Nat.min_eq_left h]
theorem flat_cons {rs : List (Row Fct)} {l : List Fct} {m k K : Nat} (h : rs.map (fun r => cons r.l) = upto (fun j => cons ((l.drop (j * m)).take m)) K) (hk : k ≤ K) : cons ((rs.take k).flatMap Row.l) = cons (l.take (k * m)) := by
  have h1 : cons ((rs.take k).flatMap Row.l) = ((rs.map (fun r => cons r.l)).take k).flatten := by
    unfold cons; rw [List.map_flatMap, List.flatMap_def, List.map_take]
  rw [h1, h, upto_take _ hk, ← flat_upto]
  unfold cons
  rw [List.map_flatten, upto_map]

theorem get_q0 {α : Type} {x : α} {l : List α} : (List.toArray (x :: l))[0]? = some x := rfl
theorem get_qs {α : Type} {x y : α} {l : List α} {i : Nat} (h : l.toArray[i]? = some x) : (List.toArray (y :: l))[i + 1]? = some x := by simpa using h
theorem get_qt {α : Type} {x y0 y1 y2 y3 y4 y5 y6 y7 y8 y9 : α} {l : List α} {i : Nat} (h : l.toArray[i]? = some x) : (List.toArray (y0 :: y1 :: y2 :: y3 :: y4 :: y5 :: y6 :: y7 :: y8 :: y9 :: l))[i + 10]? = some x := by simpa using h

theorem Kept.app {w0 w w' : World} {v v' : Value} {L : List Fct} {y : Row Fct} (h : Kept w0 w v L) (hy : y.ok w0) (hown : w'.ownsRow w0.heap.size 124 11 v' (L.length + y.n) (L.flatMap Cel.cells ++ y.l.flatMap Cel.cells)) (hB : Bel w0 w') : Kept w0 w' v' (L ++ y.l) := by
  refine ⟨hB, ?_, fun f hf => ?_⟩
  · rw [List.length_append, List.flatMap_append, hy.len]; exact hown
  · rcases List.mem_append.1 hf with h1 | h1
    · exact h.ok f h1
    · exact hy.all f h1

set_option maxRecDepth 100000 in
set_option maxHeartbeats 1000000 in
theorem runCuts_main (m : Nat) (hm1 : 1 ≤ m) (hm2 : m ≤ 9223372036854775807) (x : Row Fct) (w : World) (hx : x.ok w) (hF : fewF 80 x.l = true) :
    Calls Try.prog 3 #[.int .i64 m, x.v] w fun e w' => e = .returned (.bool true) ∧ Bel w w' := by
  have hn : x.n ≤ 80 := by have := fewF_len hF; rw [hx.len] at this; exact this
  have hlen : Hid (x.l.length = x.n) := hx.len
  have Hx := Lib.hid hx
  have HF := Lib.hid hF
  clear hx hF
  obtain ⟨A, n, c, l⟩ := x
  simp only [Row.v] at *
  go_enter Try.func3, Try.ntmps3
  go_wp2_with fail
  refine (few19_any ⟨A, n, c, l⟩ _ _ Hx.out (by omega) (by omega)).mono ?_; rintro e w1 ⟨rfl, rfl⟩
  rw [show Int.toNat 80 = 80 from rfl, HF.out]
  go_wp2_with fail
  refine (cut_any m hm1 hm2 ⟨A, n, c, l⟩ _ Hx.out (by simp only; omega)).mono ?_
  rintro e w1 ⟨K, hK1, hK2, v, rs, rfl, hown, hall, hcs, hb⟩
  have HR1 : Hid (RunsAt w w1 v rs) := ⟨hown, hall, hb⟩
  have HK1 := Lib.hid hK1
  have HK2 := Lib.hid hK2
  have Hcs := Lib.hid hcs
  have Hb := Lib.hid hb
  clear hown hall hK1 hK2 hcs hb
  go_wp2_with fail
  refine (runs_any m hm1 hm2 ⟨A, n, c, l⟩ _ (Hx.out.mono Hb.out) (by simp only; omega)).mono ?_
  rintro e w2 ⟨K', v', qs, hQ1, hQ2, rfl, hQ, hqs⟩
  obtain rfl := runs_uni HK1.out HK2.out hQ1 hQ2
  have Hqs := Lib.hid hqs
  have HQ := Lib.hid hQ
  have HR : Hid (RunsAt w w2 v rs) := HR1.out.keep hQ.bel
  clear hqs hQ hQ1 hQ2 HR1
  have hrl : rs.length = K := by have := congrArg List.length Hcs.out; rwa [List.length_map, upto_length] at this
  have hql : qs.length = K := by have := congrArg List.length Hqs.out; rwa [List.length_map, upto_length] at this
  have hKn : K ≤ 80 := by
    rcases HK2.out with h0 | h1
    · omega
    · have := Nat.le_mul_of_pos_right (K - 1) (show 0 < m by omega)
      have := hlen.out
      omega
  obtain ⟨vA, vc, rfl, hvc⟩ := own_slice HR.out.own
  obtain ⟨qA, qc, rfl, hqc⟩ := own_slice HQ.out.own
  rw [hrl] at hvc HR ⊢
  rw [hql] at hqc HQ ⊢
  have Hrl := Lib.hid hrl
  have Hql := Lib.hid hql
  clear hrl hql
  have d : decide ((m : Int) < 1) = false := by simp; omega
  go_wp2
  go_loopg [9, 61] K (fun gg s9 i wr => ∃ (k : Nat) (u : Value), gg = K - k ∧ k ≤ K ∧ i = .int .i64 (k : Nat) ∧ s9 = u ∧ Kept w2 wr u ((rs.take k).flatMap Row.l))
  case atStart => exact ⟨0, _, rfl, by omega, rfl, rfl, ⟨Bel.refl _, ⟨rfl, .inl ⟨rfl, rfl⟩⟩, by simp⟩⟩
  case round =>
    obtain ⟨k, u, hgk, hk, rfl, rfl, hY⟩ := hrel
    have Hgk := Lib.hid hgk
    clear hgk
    by_cases hlt : k < K
    · obtain ⟨g, rfl⟩ := HR.out.addr (by omega)
      obtain ⟨q, rfl⟩ := HQ.out.addr (by omega)
      obtain ⟨y, hy⟩ : ∃ y, rs[k]? = some y := ⟨_, List.getElem?_eq_getElem (by rw [HR.out.len]; exact hlt)⟩
      obtain ⟨z, hz⟩ : ∃ z, qs[k]? = some z := ⟨_, List.getElem?_eq_getElem (by rw [HQ.out.len]; exact hlt)⟩
      have HS : Hid (∀ w', Bel wr w' → w'.cell? ⟨g, k, none⟩ = some y.v ∧ w'.cell? ⟨q, k, none⟩ = some z.v) := fun w' hb' => ⟨((HR.out.keep hY.bel).keep hb' |>.cell hy).1, ((HQ.out.keep hY.bel).keep hb' |>.cell hz).1⟩
      have Hyo : Hid (y.ok wr) := (HR.out.all y (List.mem_of_getElem? hy)).1.mono hY.bel
      have Hyw : Hid (y.ok w2) := (HR.out.all y (List.mem_of_getElem? hy)).1
      have Hzo : Hid (z.ok wr) := (HQ.out.all z (List.mem_of_getElem? hz)).1.mono hY.bel
      have hy1 : cons y.l = cons ((l.drop (k * m)).take m) := by
        have h1 : (rs.map (fun r => cons r.l))[k]? = some (cons y.l) := by rw [List.getElem?_map, hy]; rfl
        rw [Hcs.out, upto_get _ hlt] at h1
        injection h1 with h1
        exact h1.symm
      have hz1 : cons z.l = sortC (cons y.l) := by
        have h1 : (qs.map (fun r => cons r.l))[k]? = some (cons z.l) := by rw [List.getElem?_map, hz]; rfl
        rw [Hqs.out, upto_get _ hlt] at h1
        injection h1 with h1
        rw [hy1, h1]
      obtain ⟨n1, n2, n3⟩ := chunk_len HK2.out hm1 hlt
      have e1 : y.l.length = ((l.drop (k * m)).take m).length := by have := congrArg List.length hy1; rwa [cons_len, cons_len] at this
      have e2 : z.l.length = y.l.length := by have := congrArg List.length hz1; rwa [cons_len, sortC_len, cons_len] at this
      have e3 : ((l.drop (k * m)).take m).length ≤ 80 := by rw [List.length_take, List.length_drop]; have := hlen.out; omega
      rw [← e1] at n1 n2 n3 e3
      rw [Hyo.out.len] at n1 n2 n3 e3 e2
      rw [Hzo.out.len] at e2
      have Hzy := Lib.hid hz1
      have Hyl : Hid (y.l.length = y.n) := Hyo.out.len
      have Hy := Lib.hid hy
      have Hy1 := Lib.hid hy1
      clear hy hz hy1 hz1 e1
      obtain ⟨yA, yn, yc, yl⟩ := y
      obtain ⟨zA, zn, zc, zl⟩ := z
      simp only [Row.v] at *
      subst e2
      have HY := Lib.hid hY
      clear hY
      have d1 : decide ((zn : Int) < 1) = false := by simp; omega
      have d2 : decide ((m : Int) < zn) = false := by simp; omega
      have wk : IntKind.i64.wrap ((k : Int) + 1) = (k : Int) + 1 := IntWalk.i64_in _ (by omega)
      obtain ⟨hcy, hcz⟩ := HS.out wr (Bel.refl wr)
      go_upto_region 13 with fail
      go_cut [107] (fun s107 wx => s107 = .bool false ∧ Bel wr wx)
      case first =>
        by_cases hl1 : k + 1 < K
        · have N3 := Lib.hid (n3 hl1)
          have hnm : (zn : Int) = m := by have := N3.out; omega
          clear n3
          have d3 : decide ((k : Int) + 1 < K) = true := by simp; omega
          go_region_held3 (fun w' => w'.cell? ⟨g, k, none⟩ = some (.slice yA zn yc) ∧ w'.cell? ⟨q, k, none⟩ = some (.slice zA zn zc)) (first | exact HS.out _ (Bel.refl wr).drew | exact HS.out _ ((Bel.refl wr).drew.trans hb3) | exact HS.out _ (((Bel.refl wr).drew.trans hb3).trans hb4) | go_keep) (first
            | (go_at_call 20; refine (rsort_any ⟨yA, zn, yc, yl⟩ _ (Hyo.out.mono (Bel.refl wr).drew) (by simp only; omega)).mono ?_; rintro e w3 ⟨s3, fs, rfl, hK3, hfs⟩; obtain ⟨⟨tA, tn, tc, tl⟩, rfl, hto, htl, htn⟩ := hK3.row (by have h1 := congrArg List.length hfs; rw [cons_len, sortC_len, cons_len] at h1; have h2 := Hyl.out; simp only at h1 h2; omega); have hb3 := hK3.bel; have hc3 := (HS.out _ ((Bel.refl wr).drew.trans hb3)).2; simp only [Row.v])
            | (go_at_call 19; refine (same_any ⟨zA, zn, zc, zl⟩ ⟨tA, tn, tc, tl⟩ _ (Hzo.out.mono ((Bel.refl wr).drew.trans hb3)) hto (by simp only; omega) (by have h1 := congrArg List.length hfs; rw [cons_len, sortC_len, cons_len] at h1; have h2 := Hyl.out; simp only at h1 h2 htn ⊢; omega)).mono ?_; rintro e w4 ⟨rfl, hb4⟩; rw [sameF_cons (show cons zl = cons tl by have h1 : tl = fs := htl; rw [h1, hfs]; exact Hzy.out)]))
          all_goals (go_wp2_with fail; go_meet; exact ⟨rfl, ((Bel.refl wr).drew.trans hb3).trans hb4⟩)
        · have d3 : decide ((k : Int) + 1 < K) = false := by simp; omega
          have d2n : decide (m < zn) = false := by simp; omega
          clear n3
          refine wp_region_held_drew (S := fun w' => w'.cell? ⟨g, k, none⟩ = some (.slice yA zn yc) ∧ w'.cell? ⟨q, k, none⟩ = some (.slice zA zn zc)) (by kernel_rfl) ?_ (fun hHeld => ?_)
          · (try dsimp only); first | exact HS.out _ (Bel.refl wr).drew | exact HS.out _ ((Bel.refl wr).drew.trans hb3) | exact HS.out _ (((Bel.refl wr).drew.trans hb3).trans hb4)
          refine wpAnyH_take (i := 0) (v := ?v0) (get_q0) (by kernel_rfl) (by kernel_rfl) (by kernel_rfl) (by exact fun _ _ _ h => h) (Or.inl ⟨by rfl, ?hy0⟩) (by assumption) ?_
          case hy0 => (intro w hSw; (try dsimp only at hSw); go_simp) <;> with_reducible rfl
          try simp only [Act.put, List.setIfInBounds_toArray, List.set_cons_zero, List.set_cons_succ]
          refine wpAnyH_take (i := 1) (v := ?v1) (get_qs (get_q0)) (by kernel_rfl) (by kernel_rfl) (by kernel_rfl) (by exact fun _ _ _ h => h) (Or.inl ⟨by rfl, ?hy1⟩) (by assumption) ?_
          case hy1 => (intro w hSw; (try dsimp only at hSw); go_simp) <;> with_reducible rfl
          try simp only [Act.put, List.setIfInBounds_toArray, List.set_cons_zero, List.set_cons_succ]
          refine wpAnyH_take (i := 2) (v := ?v2) (get_qs (get_qs (get_q0))) (by kernel_rfl) (by kernel_rfl) (by kernel_rfl) (by exact fun _ _ _ h => h) (Or.inl ⟨by rfl, ?hy2⟩) (by assumption) ?_
          case hy2 => (intro w hSw; (try dsimp only at hSw); go_simp) <;> with_reducible rfl
          try simp only [Act.put, List.setIfInBounds_toArray, List.set_cons_zero, List.set_cons_succ]
          refine wpAnyH_take (i := 3) (v := ?v3) (get_qs (get_qs (get_qs (get_q0)))) (by kernel_rfl) (by kernel_rfl) (by kernel_rfl) (by exact fun _ _ _ h => h) (Or.inl ⟨by rfl, ?hy3⟩) (by assumption) ?_
          case hy3 => (intro w hSw; (try dsimp only at hSw); go_simp) <;> with_reducible rfl
          try simp only [Act.put, List.setIfInBounds_toArray, List.set_cons_zero, List.set_cons_succ]
          refine wpAnyH_take (i := 4) (v := ?v4) (get_qs (get_qs (get_qs (get_qs (get_q0))))) (by kernel_rfl) (by kernel_rfl) (by kernel_rfl) (by exact fun _ _ _ h => h) (Or.inl ⟨by rfl, ?hy4⟩) (by assumption) ?_
          case hy4 => (intro w hSw; (try dsimp only at hSw); go_simp) <;> with_reducible rfl
          try simp only [Act.put, List.setIfInBounds_toArray, List.set_cons_zero, List.set_cons_succ]
          refine wpAnyH_take (i := 5) (v := ?v5) (get_qs (get_qs (get_qs (get_qs (get_qs (get_q0)))))) (by kernel_rfl) (by kernel_rfl) (by kernel_rfl) (by exact fun _ _ _ h => h) (Or.inl ⟨by rfl, ?hy5⟩) (by assumption) ?_
          case hy5 => (intro w hSw; (try dsimp only at hSw); go_simp) <;> with_reducible rfl
          try simp only [Act.put, List.setIfInBounds_toArray, List.set_cons_zero, List.set_cons_succ]
          refine wpAnyH_take (i := 6) (v := undef) (get_qs (get_qs (get_qs (get_qs (get_qs (get_qs (get_q0))))))) (by kernel_rfl) (by kernel_rfl) (by kernel_rfl) (by exact fun _ _ _ h => h) (Or.inr ⟨by rfl, rfl⟩) (by assumption) ?_
          try simp only [Act.put, List.setIfInBounds_toArray, List.set_cons_zero, List.set_cons_succ]
          refine wpAnyH_take (i := 7) (v := undef) (get_qs (get_qs (get_qs (get_qs (get_qs (get_qs (get_qs (get_q0)))))))) (by kernel_rfl) (by kernel_rfl) (by kernel_rfl) (by exact fun _ _ _ h => h) (Or.inr ⟨by rfl, rfl⟩) (by assumption) ?_
          try simp only [Act.put, List.setIfInBounds_toArray, List.set_cons_zero, List.set_cons_succ]
          refine wpAnyH_take (i := 8) (v := undef) (get_qs (get_qs (get_qs (get_qs (get_qs (get_qs (get_qs (get_qs (get_q0))))))))) (by kernel_rfl) (by kernel_rfl) (by kernel_rfl) (by exact fun _ _ _ h => h) (Or.inr ⟨by rfl, rfl⟩) (by assumption) ?_
          try simp only [Act.put, List.setIfInBounds_toArray, List.set_cons_zero, List.set_cons_succ]
          refine wpAnyH_take (i := 9) (v := undef) (get_qs (get_qs (get_qs (get_qs (get_qs (get_qs (get_qs (get_qs (get_qs (get_q0)))))))))) (by kernel_rfl) (by kernel_rfl) (by kernel_rfl) (by exact fun _ _ _ h => h) (Or.inr ⟨by rfl, rfl⟩) (by assumption) ?_
          try simp only [Act.put, List.setIfInBounds_toArray, List.set_cons_zero, List.set_cons_succ]
          refine wpAnyH_take (i := 10) (v := undef) (get_qt (get_q0)) (by kernel_rfl) (by kernel_rfl) (by kernel_rfl) (by exact fun _ _ _ h => h) (Or.inr ⟨by rfl, rfl⟩) (by assumption) ?_
          try simp only [Act.put, List.setIfInBounds_toArray, List.set_cons_zero, List.set_cons_succ]
          refine wpAnyH_take (i := 11) (v := undef) (get_qt (get_qs (get_q0))) (by kernel_rfl) (by kernel_rfl) (by kernel_rfl) (by exact fun _ _ _ h => h) (Or.inr ⟨by rfl, rfl⟩) (by assumption) ?_
          try simp only [Act.put, List.setIfInBounds_toArray, List.set_cons_zero, List.set_cons_succ]
          refine wpAnyH_take (i := 12) (v := undef) (get_qt (get_qs (get_qs (get_q0)))) (by kernel_rfl) (by kernel_rfl) (by kernel_rfl) (by exact fun _ _ _ h => h) (Or.inr ⟨by rfl, rfl⟩) (by assumption) ?_
          try simp only [Act.put, List.setIfInBounds_toArray, List.set_cons_zero, List.set_cons_succ]
          refine wpAnyH_take (i := 13) (v := ?v13) (get_qt (get_qs (get_qs (get_qs (get_q0))))) (by kernel_rfl) (by kernel_rfl) (by kernel_rfl) (by exact fun _ _ _ h => h) (Or.inl ⟨by rfl, ?hy13⟩) (by assumption) ?_
          case hy13 => (intro w hSw; (try dsimp only at hSw); go_simp) <;> with_reducible rfl
          try simp only [Act.put, List.setIfInBounds_toArray, List.set_cons_zero, List.set_cons_succ]
          refine wpAnyH_take (i := 14) (v := ?v14) (get_qt (get_qs (get_qs (get_qs (get_qs (get_q0)))))) (by kernel_rfl) (by kernel_rfl) (by kernel_rfl) (by exact fun _ _ _ h => h) (Or.inl ⟨by rfl, ?hy14⟩) (by assumption) ?_
          case hy14 => (intro w hSw; (try dsimp only at hSw); go_simp) <;> with_reducible rfl
          try simp only [Act.put, List.setIfInBounds_toArray, List.set_cons_zero, List.set_cons_succ]
          refine wpAnyH_take (i := 15) (v := ?v15) (get_qt (get_qs (get_qs (get_qs (get_qs (get_qs (get_q0))))))) (by kernel_rfl) (by kernel_rfl) (by kernel_rfl) (by exact fun _ _ _ h => h) (Or.inl ⟨by rfl, ?hy15⟩) (by assumption) ?_
          case hy15 => (intro w hSw; (try dsimp only at hSw); go_simp) <;> with_reducible rfl
          try simp only [Act.put, List.setIfInBounds_toArray, List.set_cons_zero, List.set_cons_succ]
          refine wpAnyH_take (i := 16) (v := ?v16) (get_qt (get_qs (get_qs (get_qs (get_qs (get_qs (get_qs (get_q0)))))))) (by kernel_rfl) (by kernel_rfl) (by kernel_rfl) (by exact fun _ _ _ h => h) (Or.inl ⟨by rfl, ?hy16⟩) (by assumption) ?_
          case hy16 => (intro w hSw; (try dsimp only at hSw); go_simp) <;> with_reducible rfl
          try simp only [Act.put, List.setIfInBounds_toArray, List.set_cons_zero, List.set_cons_succ]
          refine wpAnyH_take (i := 17) (v := ?v17) (get_qt (get_qs (get_qs (get_qs (get_qs (get_qs (get_qs (get_qs (get_q0))))))))) (by kernel_rfl) (by kernel_rfl) (by kernel_rfl) (by exact fun _ _ _ h => h) (Or.inl ⟨by rfl, ?hy17⟩) (by assumption) ?_
          case hy17 => (intro w hSw; (try dsimp only at hSw); go_simp) <;> with_reducible rfl
          try simp only [Act.put, List.setIfInBounds_toArray, List.set_cons_zero, List.set_cons_succ]
          refine wpAnyH_take (i := 18) (v := ?v18) (get_qt (get_qs (get_qs (get_qs (get_qs (get_qs (get_qs (get_qs (get_qs (get_q0)))))))))) (by kernel_rfl) (by kernel_rfl) (by kernel_rfl) (by exact fun _ _ _ h => h) (Or.inl ⟨by rfl, ?hy18⟩) (by assumption) ?_
          case hy18 => (intro w hSw; (try dsimp only at hSw); go_simp) <;> with_reducible rfl
          try simp only [Act.put, List.setIfInBounds_toArray, List.set_cons_zero, List.set_cons_succ]
          refine wpAnyH_take (i := 19) (v := ?v19) (get_qt (get_qs (get_qs (get_qs (get_qs (get_qs (get_qs (get_qs (get_qs (get_qs (get_q0))))))))))) (by kernel_rfl) (by kernel_rfl) (by kernel_rfl) (by exact fun _ _ _ h => h) (Or.inl ⟨by rfl, ?hy19⟩) (by assumption) ?_
          case hy19 => (intro w hSw; (try dsimp only at hSw); go_simp) <;> with_reducible rfl
          try simp only [Act.put, List.setIfInBounds_toArray, List.set_cons_zero, List.set_cons_succ]
          refine wpAnyH_take (i := 20) (v := ?v20) (get_qt (get_qt (get_q0))) (by kernel_rfl) (by kernel_rfl) (by kernel_rfl) (by exact fun _ _ _ h => h) (Or.inl ⟨by rfl, ?hy20⟩) (by assumption) ?_
          case hy20 => (intro w hSw; (try dsimp only at hSw); go_simp) <;> with_reducible rfl
          try simp only [Act.put, List.setIfInBounds_toArray, List.set_cons_zero, List.set_cons_succ]
          refine wpAnyH_take (i := 21) (v := ?v21) (get_qt (get_qt (get_qs (get_q0)))) (by kernel_rfl) (by kernel_rfl) (by kernel_rfl) (by exact fun _ _ _ h => h) (Or.inl ⟨by rfl, ?hy21⟩) (by assumption) ?_
          case hy21 => (intro w hSw; (try dsimp only at hSw); go_simp) <;> with_reducible rfl
          try simp only [Act.put, List.setIfInBounds_toArray, List.set_cons_zero, List.set_cons_succ]
          refine wpAnyH_take (i := 22) (v := ?v22) (get_qt (get_qt (get_qs (get_qs (get_q0))))) (by kernel_rfl) (by kernel_rfl) (by kernel_rfl) (by exact fun _ _ _ h => h) (Or.inl ⟨by rfl, ?hy22⟩) (by assumption) ?_
          case hy22 => (intro w hSw; (try dsimp only at hSw); go_simp) <;> with_reducible rfl
          try simp only [Act.put, List.setIfInBounds_toArray, List.set_cons_zero, List.set_cons_succ]
          refine wpAnyH_take (i := 23) (v := ?v23) (get_qt (get_qt (get_qs (get_qs (get_qs (get_q0)))))) (by kernel_rfl) (by kernel_rfl) (by kernel_rfl) (by exact fun _ _ _ h => h) (Or.inl ⟨by rfl, ?hy23⟩) (by assumption) ?_
          case hy23 => (intro w hSw; (try dsimp only at hSw); go_simp) <;> with_reducible rfl
          try simp only [Act.put, List.setIfInBounds_toArray, List.set_cons_zero, List.set_cons_succ]
          refine wpAnyH_take (i := 24) (v := ?v24) (get_qt (get_qt (get_qs (get_qs (get_qs (get_qs (get_q0))))))) (by kernel_rfl) (by kernel_rfl) (by kernel_rfl) (by exact fun _ _ _ h => h) (Or.inl ⟨by rfl, ?hy24⟩) (by assumption) ?_
          case hy24 => (intro w hSw; (try dsimp only at hSw); go_simp) <;> with_reducible rfl
          try simp only [Act.put, List.setIfInBounds_toArray, List.set_cons_zero, List.set_cons_succ]
          refine wpAnyH_take (i := 25) (v := ?v25) (get_qt (get_qt (get_qs (get_qs (get_qs (get_qs (get_qs (get_q0)))))))) (by kernel_rfl) (by kernel_rfl) (by kernel_rfl) (by exact fun _ _ _ h => h) (Or.inl ⟨by rfl, ?hy25⟩) (by assumption) ?_
          case hy25 => (intro w hSw; (try dsimp only at hSw); go_simp) <;> with_reducible rfl
          try simp only [Act.put, List.setIfInBounds_toArray, List.set_cons_zero, List.set_cons_succ]
          refine wpAnyH_take (i := 26) (v := ?v26) (get_qt (get_qt (get_qs (get_qs (get_qs (get_qs (get_qs (get_qs (get_q0))))))))) (by kernel_rfl) (by kernel_rfl) (by kernel_rfl) (by exact fun _ _ _ h => h) (Or.inl ⟨by rfl, ?hy26⟩) (by assumption) ?_
          case hy26 => (intro w hSw; (try dsimp only at hSw); go_simp) <;> with_reducible rfl
          try simp only [Act.put, List.setIfInBounds_toArray, List.set_cons_zero, List.set_cons_succ]
          refine wpAnyH_take (i := 27) (v := ?v27) (get_qt (get_qt (get_qs (get_qs (get_qs (get_qs (get_qs (get_qs (get_qs (get_q0)))))))))) (by kernel_rfl) (by kernel_rfl) (by kernel_rfl) (by exact fun _ _ _ h => h) (Or.inl ⟨by rfl, ?hy27⟩) (by assumption) ?_
          case hy27 => (intro w hSw; (try dsimp only at hSw); go_simp) <;> with_reducible rfl
          try simp only [Act.put, List.setIfInBounds_toArray, List.set_cons_zero, List.set_cons_succ]
          refine wpAnyH_take (i := 28) (v := ?v28) (get_qt (get_qt (get_qs (get_qs (get_qs (get_qs (get_qs (get_qs (get_qs (get_qs (get_q0))))))))))) (by kernel_rfl) (by kernel_rfl) (by kernel_rfl) (by exact fun _ _ _ h => h) (Or.inl ⟨by rfl, ?hy28⟩) (by assumption) ?_
          case hy28 => (intro w hSw; (try dsimp only at hSw); go_simp) <;> with_reducible rfl
          try simp only [Act.put, List.setIfInBounds_toArray, List.set_cons_zero, List.set_cons_succ]
          refine wpAnyH_take (i := 29) (v := ?v29) (get_qt (get_qt (get_qs (get_qs (get_qs (get_qs (get_qs (get_qs (get_qs (get_qs (get_qs (get_q0)))))))))))) (by kernel_rfl) (by kernel_rfl) (by kernel_rfl) (by exact fun _ _ _ h => h) (Or.inl ⟨by rfl, ?hy29⟩) (by assumption) ?_
          case hy29 => (intro w hSw; (try dsimp only at hSw); go_simp) <;> with_reducible rfl
          try simp only [Act.put, List.setIfInBounds_toArray, List.set_cons_zero, List.set_cons_succ]
          refine wpAnyH_take (i := 30) (v := ?v30) (get_qt (get_qt (get_qt (get_q0)))) (by kernel_rfl) (by kernel_rfl) (by kernel_rfl) (by exact fun _ _ _ h => h) (Or.inl ⟨by rfl, ?hy30⟩) (by assumption) ?_
          case hy30 => (intro w hSw; (try dsimp only at hSw); go_simp) <;> with_reducible rfl
          try simp only [Act.put, List.setIfInBounds_toArray, List.set_cons_zero, List.set_cons_succ]
          refine wpAnyH_take (i := 31) (v := ?v31) (get_qt (get_qt (get_qt (get_qs (get_q0))))) (by kernel_rfl) (by kernel_rfl) (by kernel_rfl) (by exact fun _ _ _ h => h) (Or.inl ⟨by rfl, ?hy31⟩) (by assumption) ?_
          case hy31 => (intro w hSw; (try dsimp only at hSw); go_simp) <;> with_reducible rfl
          try simp only [Act.put, List.setIfInBounds_toArray, List.set_cons_zero, List.set_cons_succ]
          refine wpAnyH_take (i := 32) (v := ?v32) (get_qt (get_qt (get_qt (get_qs (get_qs (get_q0)))))) (by kernel_rfl) (by kernel_rfl) (by kernel_rfl) (by exact fun _ _ _ h => h) (Or.inl ⟨by rfl, ?hy32⟩) (by assumption) ?_
          case hy32 => (intro w hSw; (try dsimp only at hSw); go_simp) <;> with_reducible rfl
          try simp only [Act.put, List.setIfInBounds_toArray, List.set_cons_zero, List.set_cons_succ]
          refine wpAnyH_take (i := 33) (v := ?v33) (get_qt (get_qt (get_qt (get_qs (get_qs (get_qs (get_q0))))))) (by kernel_rfl) (by kernel_rfl) (by kernel_rfl) (by exact fun _ _ _ h => h) (Or.inl ⟨by rfl, ?hy33⟩) (by assumption) ?_
          case hy33 => (intro w hSw; (try dsimp only at hSw); go_simp) <;> with_reducible rfl
          try simp only [Act.put, List.setIfInBounds_toArray, List.set_cons_zero, List.set_cons_succ]
          refine wpAnyH_take (i := 34) (v := ?v34) (get_qt (get_qt (get_qt (get_qs (get_qs (get_qs (get_qs (get_q0)))))))) (by kernel_rfl) (by kernel_rfl) (by kernel_rfl) (by exact fun _ _ _ h => h) (Or.inl ⟨by rfl, ?hy34⟩) (by assumption) ?_
          case hy34 => (intro w hSw; (try dsimp only at hSw); go_simp) <;> with_reducible rfl
          try simp only [Act.put, List.setIfInBounds_toArray, List.set_cons_zero, List.set_cons_succ]
          refine wpAnyH_take (i := 35) (v := ?v35) (get_qt (get_qt (get_qt (get_qs (get_qs (get_qs (get_qs (get_qs (get_q0))))))))) (by kernel_rfl) (by kernel_rfl) (by kernel_rfl) (by exact fun _ _ _ h => h) (Or.inl ⟨by rfl, ?hy35⟩) (by assumption) ?_
          case hy35 => (intro w hSw; (try dsimp only at hSw); go_simp) <;> with_reducible rfl
          try simp only [Act.put, List.setIfInBounds_toArray, List.set_cons_zero, List.set_cons_succ]
          refine wpAnyH_take (i := 36) (v := ?v36) (get_qt (get_qt (get_qt (get_qs (get_qs (get_qs (get_qs (get_qs (get_qs (get_q0)))))))))) (by kernel_rfl) (by kernel_rfl) (by kernel_rfl) (by exact fun _ _ _ h => h) (Or.inl ⟨by rfl, ?hy36⟩) (by assumption) ?_
          case hy36 => (intro w hSw; (try dsimp only at hSw); go_simp) <;> with_reducible rfl
          try simp only [Act.put, List.setIfInBounds_toArray, List.set_cons_zero, List.set_cons_succ]
          refine wpAnyH_take (i := 37) (v := ?v37) (get_qt (get_qt (get_qt (get_qs (get_qs (get_qs (get_qs (get_qs (get_qs (get_qs (get_q0))))))))))) (by kernel_rfl) (by kernel_rfl) (by kernel_rfl) (by exact fun _ _ _ h => h) (Or.inl ⟨by rfl, ?hy37⟩) (by assumption) ?_
          case hy37 => (intro w hSw; (try dsimp only at hSw); go_simp) <;> with_reducible rfl
          try simp only [Act.put, List.setIfInBounds_toArray, List.set_cons_zero, List.set_cons_succ]
          refine wpAnyH_take (i := 38) (v := ?v38) (get_qt (get_qt (get_qt (get_qs (get_qs (get_qs (get_qs (get_qs (get_qs (get_qs (get_qs (get_q0)))))))))))) (by kernel_rfl) (by kernel_rfl) (by kernel_rfl) (by exact fun _ _ _ h => h) (Or.inl ⟨by rfl, ?hy38⟩) (by assumption) ?_
          case hy38 => (intro w hSw; (try dsimp only at hSw); go_simp) <;> with_reducible rfl
          try simp only [Act.put, List.setIfInBounds_toArray, List.set_cons_zero, List.set_cons_succ]
          refine wpAnyH_take (i := 39) (v := ?v39) (get_qt (get_qt (get_qt (get_qs (get_qs (get_qs (get_qs (get_qs (get_qs (get_qs (get_qs (get_qs (get_q0))))))))))))) (by kernel_rfl) (by kernel_rfl) (by kernel_rfl) (by exact fun _ _ _ h => h) (Or.inl ⟨by rfl, ?hy39⟩) (by assumption) ?_
          case hy39 => (intro w hSw; (try dsimp only at hSw); go_simp) <;> with_reducible rfl
          try simp only [Act.put, List.setIfInBounds_toArray, List.set_cons_zero, List.set_cons_succ]
          refine wpAnyH_ready (rs := [40]) (by kernel_rfl) (by simp) ?_
          refine AllReadyH.cons (get_qt (get_qt (get_qt (get_qt (get_q0))))) (fun KK hKK => ?_) AllReadyH.nil
          go_simp
          refine (rsort_any ⟨yA, zn, yc, yl⟩ _ (Hyo.out.mono (Bel.refl wr).drew) (by simp only; omega)).mono ?_; rintro e w3 ⟨s3, fs, rfl, hK3, hfs⟩; obtain ⟨⟨tA, tn, tc, tl⟩, rfl, hto, htl, htn⟩ := hK3.row (by have h1 := congrArg List.length hfs; rw [cons_len, sortC_len, cons_len] at h1; have h2 := Hyl.out; simp only at h1 h2; omega); have hb3 := hK3.bel; simp only [Row.v]
          refine hKK.out _ _ ?_ (fun hHeld => ?_)
          · (try dsimp only); first | exact HS.out _ (Bel.refl wr).drew | exact HS.out _ ((Bel.refl wr).drew.trans hb3) | exact HS.out _ (((Bel.refl wr).drew.trans hb3).trans hb4)
          clear hKK KK
          try simp only [Act.put, List.setIfInBounds_toArray, List.set_cons_zero, List.set_cons_succ]
          refine wpAnyH_ready (rs := [41]) (by kernel_rfl) (by simp) ?_
          refine AllReadyH.cons (get_qt (get_qt (get_qt (get_qt (get_qs (get_q0)))))) (fun KK hKK => ?_) AllReadyH.nil
          go_simp
          refine (same_any ⟨zA, zn, zc, zl⟩ ⟨tA, tn, tc, tl⟩ _ (Hzo.out.mono ((Bel.refl wr).drew.trans hb3)) hto (by simp only; omega) (by have h1 := congrArg List.length hfs; rw [cons_len, sortC_len, cons_len] at h1; have h2 := Hyl.out; simp only at h1 h2 htn ⊢; omega)).mono ?_; rintro e w4 ⟨rfl, hb4⟩; rw [sameF_cons (show cons zl = cons tl by have h1 : tl = fs := htl; rw [h1, hfs]; exact Hzy.out)]
          refine hKK.out _ _ ?_ (fun hHeld => ?_)
          · (try dsimp only); first | exact HS.out _ (Bel.refl wr).drew | exact HS.out _ ((Bel.refl wr).drew.trans hb3) | exact HS.out _ (((Bel.refl wr).drew.trans hb3).trans hb4)
          clear hKK KK
          try simp only [Act.put, List.setIfInBounds_toArray, List.set_cons_zero, List.set_cons_succ]
          refine wpAnyH_take (i := 42) (v := ?v42) (get_qt (get_qt (get_qt (get_qt (get_qs (get_qs (get_q0))))))) (by kernel_rfl) (by kernel_rfl) (by kernel_rfl) (by exact fun _ _ _ h => h) (Or.inl ⟨by rfl, ?hy42⟩) (by assumption) ?_
          case hy42 => (intro w hSw; (try dsimp only at hSw); go_simp) <;> with_reducible rfl
          try simp only [Act.put, List.setIfInBounds_toArray, List.set_cons_zero, List.set_cons_succ]
          refine wpAnyH_take (i := 43) (v := ?v43) (get_qt (get_qt (get_qt (get_qt (get_qs (get_qs (get_qs (get_q0)))))))) (by kernel_rfl) (by kernel_rfl) (by kernel_rfl) (by exact fun _ _ _ h => h) (Or.inl ⟨by rfl, ?hy43⟩) (by assumption) ?_
          case hy43 => (intro w hSw; (try dsimp only at hSw); go_simp) <;> with_reducible rfl
          try simp only [Act.put, List.setIfInBounds_toArray, List.set_cons_zero, List.set_cons_succ]
          refine wpAnyH_done (by kernel_rfl) ?_ _
          go_wp2_with fail; go_meet; exact ⟨rfl, ((Bel.refl wr).drew.trans hb3).trans hb4⟩
      case rest =>
        obtain ⟨rfl, hBx⟩ := hcut
        have hcx := (HS.out _ hBx).1
        have HBx := Lib.hid hBx
        have HYx := Lib.hid (HY.out.keep hBx)
        have hLn : ((rs.take k).flatMap Row.l).length ≤ 80 := by
          have h1 := congrArg List.length (flat_cons (k := k) Hcs.out (by omega))
          rw [cons_len, cons_len, List.length_take] at h1
          have := hlen.out
          omega
        clear hBx n3
        go_wp2_with ((with_reducible show wpList _ _ _ (⟨some 113, _, _, _, _, _⟩ :: _) _ _); refine wpList_append1 rfl (.tmp 108) (.tmp 112) _ rfl E_fct w2 HYx.out.bel _ _ _ rfl HYx.out.own yA zn yc (yl.flatMap Cel.cells) rfl ((Hyo.out.mono HBx.out).rd) (fct_cells_one _) (by unfold maxLen; omega) (by omega) ?_; intro v5 w5 hown5 hB5 hg5 hat5)
        have HK5 := Lib.hid (HYx.out.app (y := ⟨yA, zn, yc, yl⟩) Hyw.out hown5 hB5)
        clear hown5 hB5 hg5 hat5
        go_wp2
        go_roundg (K - (k + 1))
        case rel =>
          refine ⟨k + 1, v5, rfl, by omega, by go_num, rfl, ?_⟩
          have h1 : (rs.take (k + 1)).flatMap Row.l = (rs.take k).flatMap Row.l ++ yl := by rw [List.take_add_one, Hy.out, List.flatMap_append]; simp
          rw [h1]
          exact HK5.out
        case measure => rw [Hgk.out]; omega
    · obtain rfl : k = K := by omega
      have Hfl := Lib.hid (flat_cons (k := k) Hcs.out (Nat.le_refl _))
      have hLn : ((rs.take k).flatMap Row.l).length ≤ 80 := by
        have h1 := congrArg List.length Hfl.out
        rw [cons_len, cons_len, List.length_take] at h1
        have := hlen.out
        omega
      obtain ⟨⟨sA, sn, sc, sl⟩, rfl, hso, hsl, hsn⟩ := hY.row (by omega)
      have hsn' : sn ≤ 80 := by simp only at hsn; omega
      have Hso := Lib.hid hso
      have HE : Hid (sameF sl l = true) := sameF_cons (by have h1 : sl = _ := hsl; rw [h1, Hfl.out, List.take_of_length_le HK1.out])
      have HB : Hid (Bel w wr) := (Hb.out.trans HQ.out.bel).trans hY.bel
      clear hY hso hsl hsn hLn
      simp only [Row.v] at *
      go_wp2_with fail
      refine (same_any ⟨sA, sn, sc, sl⟩ ⟨A, n, c, l⟩ _ Hso.out (Hx.out.mono HB.out) (by simp only; omega) (by simp only; omega)).mono ?_; rintro e w5 ⟨rfl, hb5⟩
      have Hb5 := Lib.hid hb5
      clear hb5
      simp only [HE.out]
      go_wp2_with fail
      refine (awake21_any _).mono ?_; rintro e w7 ⟨rfl, hb7⟩
      go_wp2
      go_ret
      exact ⟨rfl, (HB.out.trans Hb5.out).trans hb7⟩

end Go.Proofs.Ytllgcehgdpgnnaa
