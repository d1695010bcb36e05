/- Runs merged pass by pass: plain; pieces of rows of runs; marks of loops. -/
import Derived.Test.YtnekknemjhlgdaaKmH
import Derived.Test.YtnekknemjhlgdaaChunkR
import Derived.Test.YtnekknemjhlgdaaRuns
namespace Go.Proofs.Ytnekknemjhlgdaa
open Go.RowKit Go.Shelf
set_option linter.unusedVariables false

theorem chunks_flat {β : Type} (l : List β) (m K : Nat) : (upto (fun j => (l.drop (j * m)).take m) K).flatten = l.take (K * m) := by
  induction K with
  | zero => simp [upto]
  | succ K ih => rw [upto_succ, List.flatten_append, ih, List.flatten_singleton, Nat.add_mul, Nat.one_mul, List.take_add]
theorem chunks_sort (R : List (List Con)) (m K : Nat) (h : R.length ≤ K * m) : sortC (upto (fun j => sortC ((R.drop (j * m)).take m).flatten) K).flatten = sortC R.flatten := by
  have e1 : upto (fun j => sortC ((R.drop (j * m)).take m).flatten) K = ((upto (fun j => (R.drop (j * m)).take m) K).map List.flatten).map sortC := by simp [upto, List.map_map, Function.comp_def]
  rw [e1, sortC_flat, ← List.flatten_flatten, chunks_flat, List.take_of_length_le h]
theorem flat_part {β : Type} (l : List (List β)) (i j : Nat) : ((l.drop i).take j).flatten.length ≤ l.flatten.length := by
  have h1 := List.take_append_drop i l
  have h2 := List.take_append_drop j (l.drop i)
  have e : l.flatten = (l.take i).flatten ++ (((l.drop i).take j).flatten ++ ((l.drop i).drop j).flatten) := by
    rw [← List.flatten_append, h2, ← List.flatten_append, h1]
  rw [e, List.length_append, List.length_append]
  omega
theorem flat_len_sort (ls : List (List Con)) : (ls.map sortC).flatten.length = ls.flatten.length := by
  induction ls with
  | nil => rfl
  | cons a ls ih => rw [List.map_cons, List.flatten_cons, List.flatten_cons, List.length_append, List.length_append, sortC_len, ih]
theorem chunks_len (R : List (List Con)) (m K : Nat) (h : R.length ≤ K * m) : (upto (fun j => sortC ((R.drop (j * m)).take m).flatten) K).flatten.length = R.flatten.length := by
  have e1 : upto (fun j => sortC ((R.drop (j * m)).take m).flatten) K = ((upto (fun j => (R.drop (j * m)).take m) K).map List.flatten).map sortC := by simp [upto, List.map_map, Function.comp_def]
  rw [e1, flat_len_sort, ← List.flatten_flatten, chunks_flat, List.take_of_length_le h]
theorem runsC_part (l : List (Row Fct)) (i j : Nat) : runsC ((l.drop i).take j) = ((runsC l).drop i).take j := by rw [runsC, List.map_take, List.map_drop]
/-- How often so many runs are gone through. -/
def passF (fan : Nat) : Nat → Nat → Nat
  | 0, _ => 0
  | f + 1, n => if n ≤ 1 then 0 else passF fan f ((n + fan - 1) / fan) + 1
def passN (fan n : Nat) : Nat := passF fan n n
theorem ceil_lt {fan n : Nat} (hf : 2 ≤ fan) (hn : 1 < n) : (n + fan - 1) / fan < n := by
  rw [Nat.div_lt_iff_lt_mul (by omega)]
  have : n * 2 ≤ n * fan := Nat.mul_le_mul_left _ hf
  rcases Nat.lt_or_ge fan n with h | h
  · omega
  · have : 2 * fan ≤ n * fan := Nat.mul_le_mul_right _ hn
    omega
theorem passF_fuel {fan : Nat} (hf : 2 ≤ fan) : ∀ (f n : Nat), n ≤ f → passF fan f n = passF fan n n := by
  intro f
  induction f using Nat.strongRecOn with
  | ind f ih =>
    intro n hn
    cases f with
    | zero =>
      have : n = 0 := by omega
      subst this
      rfl
    | succ f =>
      cases n with
      | zero => simp [passF]
      | succ n =>
        rw [passF, passF]
        split
        · rfl
        · have := ceil_lt (n := n + 1) hf (by omega)
          rw [ih f (by omega) _ (by omega), ← ih n (by omega) _ (by omega)]
theorem passN_small {fan n : Nat} (h : n ≤ 1) : passN fan n = 0 := by
  unfold passN
  cases n with
  | zero => rfl
  | succ n => rw [passF, if_pos h]
theorem ceil_of {fan n K : Nat} (hf : 2 ≤ fan) (hn : 0 < n) (h1 : n ≤ K * fan) (h2 : K = 0 ∨ (K - 1) * fan < n) : (n + fan - 1) / fan = K := by
  rcases h2 with rfl | h2
  · omega
  · have hK : K ≠ 0 := fun e => by subst e; omega
    obtain ⟨j, rfl⟩ : ∃ j, K = j + 1 := ⟨K - 1, by omega⟩
    rw [Nat.add_sub_cancel] at h2
    rw [Nat.add_mul, Nat.one_mul] at h1
    refine Nat.div_eq_of_lt_le ?_ ?_
    · rw [Nat.add_mul, Nat.one_mul]; omega
    · rw [Nat.add_mul, Nat.add_mul, Nat.one_mul]; omega
theorem passN_step {fan n K : Nat} (hf : 2 ≤ fan) (hn : 1 < n) (h1 : n ≤ K * fan) (h2 : K = 0 ∨ (K - 1) * fan < n) : passN fan n = passN fan K + 1 ∧ K < n := by
  have e := ceil_of hf (by omega) h1 h2
  have l := ceil_lt hf hn
  rw [e] at l
  refine ⟨?_, l⟩
  unfold passN
  obtain ⟨j, rfl⟩ : ∃ j, n = j + 1 := ⟨n - 1, by omega⟩
  rw [passF, if_neg (by omega), e, passF_fuel hf j K (by omega)]

/-- What is asked of a row of runs. -/
structure GoodR (w : World) (x : Row (Row Fct)) : Prop where
  ok : x.ok w
  n : x.n ≤ 1000
  s : ∀ r ∈ runsC x.l, Srt r
  t : (runsC x.l).flatten.length ≤ 1000
theorem pieceR_ok {w : World} {b o n c m : Nat} {l : List (Row Fct)} (h : GoodR w ⟨some ⟨b, o, none⟩, n, c, l⟩) (k : Nat) : GoodR w (pieceR b o m l k) := by
  have hl : l.length = n := h.ok.len
  have hn := h.n
  have hlen : ((l.drop (k * m)).take m).length = min m (l.length - k * m) := by rw [List.length_take, List.length_drop]
  refine ⟨⟨⟨?_, fun h0 => ?_⟩, fun a ha => h.ok.all a (List.mem_of_mem_drop (List.mem_of_mem_take ha)), Nat.le_refl _, ?_, ?_⟩, ?_, fun r hr => ?_, ?_⟩
  · rw [cells_len]; exact congrArg (· * 1) hlen
  · have h1 : k * m < l.length := by simp only [pieceR] at h0; omega
    obtain ⟨ad, e, hb, hc⟩ := h.ok.rd.2 (by simp only; omega)
    injection e with e
    subst e
    refine ⟨_, rfl, hb, fun j u hu => ?_⟩
    have e1 : (pieceR b o m l k).l.flatMap Cel.cells = ((l.map Row.v).drop (k * m)).take m := by
      show ((l.drop (k * m)).take m).flatMap Cel.cells = _
      rw [flat_fcts, List.map_take, List.map_drop]
    rw [e1] at hu
    rw [List.getElem?_take] at hu
    split at hu
    · rw [List.getElem?_drop] at hu
      have := hc (k * m + j) u (by rw [flat_fcts]; exact hu)
      rw [Addr.add_mid] at this ⊢
      rw [Nat.add_assoc]
      exact this
    · cases hu
  · simp only [pieceR]; simp only at hn; unfold maxLen; omega
  · simp only [pieceR, Cel.bytes]; simp only at hn; omega
  · simp only [pieceR]; simp only at hn; omega
  · have hr : r ∈ runsC ((l.drop (k * m)).take m) := hr
    rw [runsC_part] at hr
    exact h.s r (List.mem_of_mem_drop (List.mem_of_mem_take hr))
  · show (runsC ((l.drop (k * m)).take m)).flatten.length ≤ 1000
    rw [runsC_part]
    exact Nat.le_trans (flat_part _ _ _) h.t
abbrev PieceR (w : World) := {x : Row (Row Fct) // GoodR w x}
theorem chunkR_stops (n : Nat) (hn : 1 ≤ n) (Bs Bn b o c ln m : Nat) (l : List (Row Fct)) (w0 w : World) (hx : GoodR w0 ⟨some ⟨b, o, none⟩, ln, c, l⟩) (hm1 : 1 ≤ m) (hm2 : m ≤ 9223372036854775807)
    (hs : Bs < w.heap.size) (hb : Bn < w.heap.size) (hBs : w.cell? ⟨Bs, 0, none⟩ = some (.slice (some ⟨b, o, none⟩) ln c)) (hBn : w.cell? ⟨Bn, 0, none⟩ = some (.int .i64 m)) :
    SeqStopsK Fence.wide n Try.prog 174 #[.pointer (some ⟨Bs, 0, none⟩), .pointer (some ⟨Bn, 0, none⟩)] (fun x : PieceR w0 => #[x.1.v]) (KeepC Bs Bn)
      (fun xs => ∃ k, l.length ≤ k * m ∧ (k = 0 ∨ (k - 1) * m < l.length) ∧ xs = upto (fun j => (⟨pieceR b o m l j, pieceR_ok hx j⟩ : PieceR w0)) k) (fun _ => True) l.length w := fun lp J Jx W hW hJ _ hY h0 => by
  have hl : l.length = ln := hx.ok.len
  have hc := hx.ok.le
  have hc2 := hx.ok.cap
  have h1000 := hx.n
  unfold maxLen at hc2
  subst hl
  refine (chunkR1_in n hn lp Bs Bn b o c m l hm1 hm2 h1000 hc hc2 (fun x => GoodR w0 x) (pieceR_ok hx) J Jx (fun s A B hA hg => hJ s A B none hA hg (fun r e => by cases e)) hY W ((hW.cell (p := ⟨Bs, 0, none⟩) hs).trans hBs) ((hW.cell (p := ⟨Bn, 0, none⟩) hb).trans hBn) h0).mono ?_
  rintro e W' ⟨he, ⟨k, ys, h1, h2, rfl, hj⟩ | ⟨pre, hj⟩⟩
  · exact ⟨he, .inl ⟨_, ⟨k, h1, h2, rfl⟩, hj⟩⟩
  · exact ⟨he, .inr ⟨_, trivial, hj⟩⟩
/-- The marks that loops over functions have left. -/
def marks (ds : List Nat) : List Deferred := ds.map fun D => { target := .collected D, args := #[] }
def Marked (base : Nat) (w : World) (ds : List Nat) : Prop := ds.Nodup ∧ ∀ D ∈ ds, base ≤ D ∧ w.heap[D]? = some (.deferred (some []))
theorem leave_marks {F : Fence} {n : Nat} {P : Program} {fn : Func} {tmps : Array Value} {R : Ending → World → Prop} {base : Nat} {I : World → Prop}
    (hI : ∀ w D, I w → base ≤ D → w.heap[D]? = some (.deferred (some [])) → I (w.putObj D (.deferred none))) (hend : ∀ w, I w → LeavesIn F n P fn tmps R [] .returning w) :
    ∀ (ds : List Nat) (w : World), I w → Marked base w ds → LeavesInM F n P fn tmps R (marks ds) .returning w := by
  intro ds
  induction ds with
  | nil => intro w hi _; exact hend w hi
  | cons D ds ih =>
    intro w hi hm
    have hD := hm.2 D (List.mem_cons_self ..)
    have hnd := List.nodup_cons.1 hm.1
    refine ⟨by simp, .inl ⟨D, _, rfl, run_takeDeferred hD.2, ih _ (hI w D hi hD.1 hD.2) ⟨hnd.2, fun E hE => ?_⟩⟩⟩
    have h1 := hm.2 E (List.mem_cons_of_mem _ hE)
    refine ⟨h1.1, ?_⟩
    have hne : D ≠ E := fun e => hnd.1 (e ▸ hE)
    rw [← h1.2]
    simp [World.putObj, hne]

end Go.Proofs.Ytnekknemjhlgdaa
