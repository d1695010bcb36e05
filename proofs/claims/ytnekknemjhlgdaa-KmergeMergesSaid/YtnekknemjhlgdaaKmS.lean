/- kmerge.Sort. -/
import Derived.Test.YtnekknemjhlgdaaPassW
namespace Go.Proofs.Ytnekknemjhlgdaa
open Go.RowKit
set_option linter.unusedVariables false
set_option linter.unusedSimpArgs false


set_option maxRecDepth 100000 in
theorem runs_not (m : Int) (hm : m < 1) (v : Value) (w : World) : Calls Try.prog 118 #[.int .i64 m, v] w fun e w' => e = .returned (.tuple #[.slice none 0 0, .int .i64 2]) ∧ Bel w w' := by
  go_enter Try.func118, Try.ntmps118
  go_wp2_with fail
  refine (cut_not m hm v _).mono ?_; rintro e w1 ⟨rfl, hb⟩
  go_wp2
  refine bodyPost_ret (v := .tuple #[.slice none 0 0, .int .i64 2]) (by kernel_rfl) rfl ⟨rfl, hb⟩


theorem sameF_consK {l q : List Fct} (h : cons l = cons q) : sameF l q = true := by
  unfold sameF
  rw [h]
  exact decide_eq_true rfl


theorem passes_any (fan : Nat) (x : Row (Row Fct)) (w : World) (hx : GoodR w x) (hf : 2 ≤ fan) (hf2 : fan ≤ 9223372036854775807) :
    Calls Try.prog 52 #[.int .i64 fan, .slice x.A x.n x.c] w (PassPost (sortC (runsC x.l).flatten) (passN fan x.n) w) := callsIn_wide.1 (passes_in 4 (Nat.le_refl _) fan x w hx hf hf2)
set_option maxRecDepth 100000 in
theorem passes_not (fan : Int) (hf : fan < 2) (v : Value) (w : World) : Calls Try.prog 52 #[.int .i64 fan, v] w fun e w' => e = .returned (.tuple #[.slice none 0 0, .int .i64 0, .int .i64 2]) ∧ Bel w w' := by
  have d : decide (fan < 2) = true := by simp; omega
  go_enter Try.func52, Try.ntmps52
  go_wp2
  refine bodyPost_ret (v := .tuple #[.slice none 0 0, .int .i64 0, .int .i64 2]) (by kernel_rfl) rfl ⟨rfl, ?_⟩
  exact Bel.refl w
theorem chain_srt {l : List Fct} (h : sortedF l = true) : Srt (cons l) := by
  have key : ∀ m : List Con, chain (fun a b => !lessK b a) (m.map Prod.fst) = true → m.Pairwise (fun a b => lessC b a = false) := by
    intro m
    induction m with
    | nil => intro _; exact List.Pairwise.nil
    | cons a m ih =>
      intro h
      cases m with
      | nil => exact List.pairwise_singleton _ _
      | cons b m =>
        have h2 : (!lessK b.1 a.1 && chain (fun a b => !lessK b a) ((b :: m).map Prod.fst)) = true := h
        rw [Bool.and_eq_true] at h2
        have hp := ih h2.2
        have hab : lessC b a = false := by have := h2.1; simpa [lessC] using this
        refine List.pairwise_cons.2 ⟨fun z hz => ?_, hp⟩
        rcases List.mem_cons.1 hz with rfl | hz
        · exact hab
        · exact lessC_false_trans hab ((List.pairwise_cons.1 hp).1 z hz)
  have h2 := key (cons l) (by have e : (cons l).map Prod.fst = keysOf l := by simp [cons, keysOf, Fct.con]
                              rw [e]; exact h)
  intro i j a b hij ha hb
  obtain ⟨h3, rfl⟩ := List.getElem?_eq_some_iff.1 ha
  obtain ⟨h4, rfl⟩ := List.getElem?_eq_some_iff.1 hb
  exact List.pairwise_iff_getElem.1 h2 i j h3 h4 hij
theorem RunsAt.good {w0 w : World} {v : Value} {rs : List (Row Fct)} {l : List Con} {m K : Nat} (h : RunsAt w0 w v rs) (hr : rs.map (fun r => cons r.l) = upto (fun j => sortC ((l.drop (j * m)).take m)) K) (h1 : l.length ≤ K * m) (h2 : K = 0 ∨ (K - 1) * m < l.length) (hm : 1 ≤ m) (hl : l.length ≤ 1000) :
    ∃ x : Row (Row Fct), v = .slice x.A x.n x.c ∧ GoodR w x ∧ sortC (runsC x.l).flatten = sortC l := by
  obtain ⟨A, c, rfl, hc⟩ := own_slice h.own
  have hK : rs.length = K := by have h := congrArg List.length hr; rw [List.length_map, upto_length] at h; exact h
  have hK2 : K ≤ 1000 := by
    rcases h2 with rfl | h2
    · omega
    · have : (K - 1) * 1 ≤ (K - 1) * m := Nat.mul_le_mul_left _ hm
      omega
  have e1 : runsC rs = (upto (fun j => (l.drop (j * m)).take m) K).map sortC := by show rs.map (fun r => cons r.l) = _; rw [hr]; simp [upto, List.map_map, Function.comp_def]
  refine ⟨⟨A, rs.length, c, rs⟩, rfl, ⟨own_okK (x := ⟨A, rs.length, c, rs⟩) (by rw [flat_fcts]; exact h.own) (fun r hr => (h.all r hr).1) (by show rs.length * 24 ≤ _; omega), by show rs.length ≤ _; omega, fun r hr => ?_, ?_⟩, ?_⟩
  · have hr : r ∈ runsC rs := hr
    rw [e1] at hr
    obtain ⟨j, _, rfl⟩ := List.mem_map.1 hr
    exact srt_sort _
  · show (runsC rs).flatten.length ≤ 1000
    rw [e1, flat_len_sort, chunks_flat, List.length_take]
    omega
  · show sortC (runsC rs).flatten = _
    rw [e1, sortC_flat, chunks_flat, List.take_of_length_le h1]
/-- How kmerge.Sort ends. -/
def SrtPost (l : List Con) (w : World) (e : Ending) (w' : World) : Prop := ∃ v fs, e = .returned (.tuple #[v, .int .i64 0]) ∧ Gath w w' v fs ∧ cons fs = sortC l
set_option maxRecDepth 100000 in
set_option maxHeartbeats 1000000 in
theorem ksort_any (m fan : Nat) (hm1 : 1 ≤ m) (hm2 : m ≤ 9223372036854775807) (hf : 2 ≤ fan) (hf2 : fan ≤ 9223372036854775807) (x : Row Fct) (w : World) (hx : x.ok w) (hn : x.n ≤ 1000) :
    Calls Try.prog 53 #[.int .i64 m, .int .i64 fan, .slice x.A x.n x.c] w (SrtPost (cons x.l) w) := by
  have HR := Lib.hid (runs_any m hm1 hm2 x w hx hn)
  have hxl := hx.len
  have HL : Hid ((cons x.l).length ≤ 1000) := by show _ ≤ _; rw [cons_len]; omega
  have HCL : Hid (x.l.length = (cons x.l).length) := (cons_len _).symm
  have HCD : Hid (∀ j, cons ((x.l.drop (j * m)).take m) = ((cons x.l).drop (j * m)).take m) := fun j => by rw [cons_take, cons_drop]
  generalize cons x.l = l at *
  obtain ⟨A, n, c, xl⟩ := x
  simp only [Row.v] at *
  clear hx
  go_enter Try.func53, Try.ntmps53
  go_wp2_with fail
  refine HR.out.mono ?_; rintro e w1 ⟨K, v, rs, h1, h2, rfl, hat, hrs⟩
  obtain ⟨X, rfl, hg, hs⟩ := hat.good (l := l) (m := m) (K := K) (by rw [hrs]; congr 1; funext j; rw [HCD.out]) (by rw [← HCL.out]; exact h1) (by rw [← HCL.out]; exact h2) hm1 HL.out
  have HB := Lib.hid hat.bel
  have HP := Lib.hid (passes_any fan X w1 hg hf hf2)
  rw [hs] at HP
  obtain ⟨XA, XN, XC, XL⟩ := X
  simp only at *
  clear hat hrs h1 h2 hg hs HR
  go_wp2_with fail
  refine HP.out.mono ?_; rintro e w2 ⟨v, fs, rfl, hG, hc⟩
  have HG := Lib.hid (hG.from_ HB.out)
  have HC := Lib.hid hc
  clear hG hc HP
  go_wp2
  go_ret2
  exact ⟨v, fs, rfl, HG.out, HC.out⟩
set_option maxRecDepth 100000 in
theorem ksort_not (m fan : Int) (h : m < 1 ∨ fan < 2) (hm2 : m ≤ 9223372036854775807) (x : Row Fct) (w : World) (hx : x.ok w) (hn : x.n ≤ 1000) :
    Calls Try.prog 53 #[.int .i64 m, .int .i64 fan, .slice x.A x.n x.c] w fun e w' => e = .returned (.tuple #[.slice none 0 0, .int .i64 2]) ∧ Bel w w' := by
  by_cases hm : m < 1
  · go_enter Try.func53, Try.ntmps53
    go_wp2_with fail
    refine (runs_not m hm _ _).mono ?_; rintro e w1 ⟨rfl, hb⟩
    go_wp2
    refine bodyPost_ret (v := .tuple #[.slice none 0 0, .int .i64 2]) (by kernel_rfl) rfl ⟨rfl, hb⟩
  · have hf : fan < 2 := by omega
    obtain ⟨m, rfl⟩ : ∃ k : Nat, m = k := ⟨m.toNat, by omega⟩
    have HR := Lib.hid (runs_any m (by omega) (by omega) x w hx hn)
    obtain ⟨A, n, c, xl⟩ := x
    simp only [Row.v] at *
    clear hx
    go_enter Try.func53, Try.ntmps53
    go_wp2_with fail
    refine HR.out.mono ?_; rintro e w1 ⟨K, v, rs, _, _, rfl, hat, _⟩
    have HB := Lib.hid hat.bel
    clear hat HR
    go_wp2_with fail
    refine (passes_not fan hf _ _).mono ?_; rintro e w2 ⟨rfl, hb2⟩
    go_wp2
    refine bodyPost_ret (v := .tuple #[.slice none 0 0, .int .i64 2]) (by kernel_rfl) rfl ⟨rfl, HB.out.trans hb2⟩

end Go.Proofs.Ytnekknemjhlgdaa
