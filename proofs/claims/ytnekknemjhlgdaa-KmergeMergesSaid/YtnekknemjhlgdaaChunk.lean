/- slices.Chunk over facts: what a loop over it is handed (after the kit's worked iterators over a slice). -/
import Derived.RangeFuncNested
import Derived.RangeFuncBound
import Derived.RangeFuncCalls
import Derived.RangeFuncLeaves
import Derived.Shelf.Abstract
import Derived.Shelf.RegionOpen
import Derived.OwnWalkIn
import Derived.TacticsInMore
import Derived.LoopNIn
import Derived.LoopIn
import Derived.RangeFuncBox
import Derived.Sort.QuietIn
import Derived.Test.YtnekknemjhlgdaaRunB
namespace Go.Proofs.Ytnekknemjhlgdaa
open Go.RowKit Go.Shelf
set_option linter.unusedVariables false
attribute [local go_sem] Oper.semAt_some

/-- The k-th piece of a row, of m. -/
def piece (b o m : Nat) (l : List Fct) (k : Nat) : Row Fct := ⟨some ⟨b, o + k * m * 11, none⟩, min m (l.length - k * m), min m (l.length - k * m), (l.drop (k * m)).take m⟩
def upto {α : Type} (f : Nat → α) (k : Nat) : List α := (List.range k).map f
theorem upto_succ {α : Type} (f : Nat → α) (k : Nat) : upto f (k + 1) = upto f k ++ [f k] := by simp [upto, List.range_succ]
theorem upto_length {α : Type} (f : Nat → α) (k : Nat) : (upto f k).length = k := by simp [upto]

/-- Two variables hold what they held. -/
def KeepC (Bs Bn : Nat) (W W' : World) : Prop := W'.cell? ⟨Bs, 0, none⟩ = W.cell? ⟨Bs, 0, none⟩ ∧ W'.cell? ⟨Bn, 0, none⟩ = W.cell? ⟨Bn, 0, none⟩
theorem KeepC.trans {Bs Bn : Nat} {A B C : World} (h : KeepC Bs Bn A B) (k : KeepC Bs Bn B C) : KeepC Bs Bn A C := ⟨k.1.trans h.1, k.2.trans h.2⟩
theorem grown_drewN (w : World) (n : Nat) : w.grownBy (w.drewN n) none := ⟨rfl, rfl, rfl, Nat.le_refl _, fun _ _ _ => rfl⟩

set_option maxRecDepth 100000 in
set_option maxHeartbeats 1000000 in
theorem chunk1_in (n : Nat) (hn : 1 ≤ n) (lp Bs Bn b o c m : Nat) (l : List Fct) (hm1 : 1 ≤ m) (hm2 : m ≤ 9223372036854775807) (hl : l.length ≤ 1000) (hc : l.length ≤ c) (hc2 : c ≤ 9223372036854775807) (Pd : Row Fct → Prop) (hP : ∀ k, Pd (piece b o m l k)) (J Jx : List {x : Row Fct // Pd x} → World → Prop) (hJd : ∀ s A B, J s A → A.grownBy B none → J s B)
    (hY : ∀ pre (x : {x : Row Fct // Pd x}) W, J pre W → pre.length < l.length → YieldAt Fence.wide (n - 1) Try.prog lp #[x.1.v] W fun e W' =>
      (e = .returned (.bool true) ∧ J (pre ++ [x]) W' ∧ KeepC Bs Bn W W') ∨ (e = .returned (.bool false) ∧ Jx (pre ++ [x]) W'))
    (W : World) (hBs : W.cell? ⟨Bs, 0, none⟩ = some (.slice (some ⟨b, o, none⟩) l.length c)) (hBn : W.cell? ⟨Bn, 0, none⟩ = some (.int .i64 m)) (h0 : J [] W) :
    CallsIn Fence.wide n Try.prog 232 #[.func (.yield lp) #[] #[], .pointer (some ⟨Bs, 0, none⟩), .pointer (some ⟨Bn, 0, none⟩)] W fun e W' => (∃ v, e = .returned v) ∧
      ((∃ k ys, l.length ≤ k * m ∧ (k = 0 ∨ (k - 1) * m < l.length) ∧ ys = upto (fun j => (⟨piece b o m l j, hP j⟩ : {x : Row Fct // Pd x})) k ∧ J ys W') ∨ (∃ pre, Jx pre W')) := by
  have hlen : Hid (∃ n1, n1 = l.length) := ⟨_, rfl⟩
  refine callsIn_of_wp Try.func232 rfl trivial ?_ rfl
  simp only [Try.ntmps232, List.size_toArray, List.length_cons, List.length_nil, Nat.reduceAdd, Nat.reduceSub, Array.replicate_succ, Array.replicate_zero, List.push_toArray, List.append_toArray, List.nil_append, List.cons_append]
  gi_wp2
  gi_loopw [4] (fun i wr => ∃ k : Nat, (k = 0 ∨ (k - 1) * m < l.length) ∧ k ≤ l.length ∧ i = .int .i64 (k * m : Nat) ∧ J (upto (fun j => (⟨piece b o m l j, hP j⟩ : {x : Row Fct // Pd x})) k) wr ∧ KeepC Bs Bn W wr)
    (fun i _ => l.length - (intOf i).toNat)
  case atStart => exact ⟨0, .inl rfl, Nat.zero_le _, by simp, h0, ⟨rfl, rfl⟩⟩
  case round =>
    obtain ⟨k, hk, hkl, rfl, hJs, hnx⟩ := hrel
    have c1 := hnx.1.trans hBs
    have c2 := hnx.2.trans hBn
    generalize hi : k * m = i at *
    by_cases hlt : i < l.length
    · obtain ⟨e, he⟩ : ∃ e, e = min m (l.length - i) := ⟨_, rfl⟩
      have he1 : 1 ≤ e := by omega
      have he2 : i + e ≤ l.length := by omega
      have hi0 : (0 : Int) ≤ (i : Int) := by omega
      have hi1 : (i : Int) ≤ (l.length : Int) := by omega
      have hmin : min (m : Int) ((l.length - i : Nat) : Int) = (e : Int) := by omega
      have HE := Lib.hid he
      have HI := Lib.hid hi
      clear he hi
      gi_wp2_with fail
      gi_quiet (fail)
      have HX : Hid (piece b o m l k = ⟨some ⟨b, o + i * 11, none⟩, e, e, (l.drop i).take m⟩) := by show _ = _; unfold piece; rw [HI.out, ← HE.out]
      have hJ2 : J (upto (fun j => (⟨piece b o m l j, hP j⟩ : {x : Row Fct // Pd x})) k) (wr.drewN nq) := hJd _ _ _ hJs (grown_drewN wr nq)
      have hnx2 : KeepC Bs Bn W (wr.drewN nq) := hnx
      have c12 : (wr.drewN nq).cell? ⟨Bs, 0, none⟩ = some (.slice (some ⟨b, o, none⟩) l.length c) := c1
      have c22 : (wr.drewN nq).cell? ⟨Bn, 0, none⟩ = some (.int .i64 m) := c2
      have hkl2 : k < l.length := by have h1 := HI.out; have : k ≤ k * m := Nat.le_mul_of_pos_right _ hm1; omega
      generalize wr.drewN nq = V at *
      obtain ⟨fn, tmps, assign, body, hy, hR⟩ := hY _ ⟨(⟨some ⟨b, o + i * 11, none⟩, e, e, (l.drop i).take m⟩ : Row Fct), by rw [← HX.out]; exact hP k⟩ V hJ2 (by rw [upto_length]; exact hkl2)
      simp only [Row.v] at hy
      clear c1 c2 hJs hnx hmin
      gi_wp2
      refine hR.mono ?_
      rintro e' W3 (⟨rfl, hJ3, hk3⟩ | ⟨rfl, hJx3⟩)
      · have c13 := hk3.1.trans c12
        have c23 := hk3.2.trans c22
        have him : i + m ≤ 9223372036854775807 := by
          have h1 := HI.out
          cases k with
          | zero => simp at h1; omega
          | succ k => have : m ≤ (k + 1) * m := Nat.le_mul_of_pos_left _ (by omega); omega
        have Him : Hid ((k + 1) * m = i + m) := by show _ = _; rw [Nat.add_mul, HI.out, Nat.one_mul]
        have hJ4 : J (upto (fun j => (⟨piece b o m l j, hP j⟩ : {x : Row Fct // Pd x})) (k + 1)) W3 := by
          rw [upto_succ]
          have e1 : (⟨piece b o m l k, hP k⟩ : {x : Row Fct // Pd x}) = ⟨(⟨some ⟨b, o + i * 11, none⟩, e, e, (l.drop i).take m⟩ : Row Fct), by rw [← HX.out]; exact hP k⟩ := Subtype.ext HX.out
          rw [e1]
          exact hJ3
        clear hJ3
        gi_wp2
        go_roundw
        case rel => exact ⟨k + 1, .inr (by rw [show k + 1 - 1 = k by omega, HI.out]; exact hlt), by omega, by rw [Him.out]; go_num, hJ4, hnx2.trans hk3⟩
        case measure => simp [intOf]; omega
      · gi_wp2
        refine bodyPost_ret (results_none rfl _ _ _) rfl ?_
        exact ⟨⟨_, rfl⟩, .inr ⟨_, hJx3⟩⟩
    · gi_wp2
      go_end0
      exact ⟨⟨_, rfl⟩, .inl ⟨k, _, by rw [hi]; omega, hk, rfl, hJs⟩⟩

set_option maxRecDepth 100000 in
set_option maxHeartbeats 1000000 in
/-- .. of no facts: no round. -/
theorem chunk1_nil_in (n : Nat) (lp Bs Bn : Nat) {α : Type} (J : List α → World → Prop) (A : Option Addr) (c : Nat) (W : World) (hBs : W.cell? ⟨Bs, 0, none⟩ = some (.slice A 0 c)) (h0 : J [] W) :
    CallsIn Fence.wide n Try.prog 232 #[.func (.yield lp) #[] #[], .pointer (some ⟨Bs, 0, none⟩), .pointer (some ⟨Bn, 0, none⟩)] W fun e W' => (∃ v, e = .returned v) ∧ J [] W' := by
  refine callsIn_of_wp Try.func232 rfl trivial ?_ rfl
  simp only [Try.ntmps232, List.size_toArray, List.length_cons, List.length_nil, Nat.reduceAdd, Nat.reduceSub, Array.replicate_succ, Array.replicate_zero, List.push_toArray, List.append_toArray, List.nil_append, List.cons_append]
  gi_wp2
  gi_loopw [4] (fun i wr => i = .int .i64 0 ∧ wr = W) (fun _ _ => 0)
  case atStart => exact ⟨rfl, rfl⟩
  case round =>
    obtain ⟨rfl, rfl⟩ := hrel
    gi_wp2
    go_end0
    exact ⟨⟨_, rfl⟩, h0⟩

set_option maxRecDepth 100000 in
set_option maxHeartbeats 1000000 in
theorem chunk_in (n : Nat) (A : Option Addr) (len c m : Nat) (hm : 1 ≤ m) (w : World) :
    CallsIn Fence.wide n Try.prog 215 #[.slice A len c, .int .i64 m] w fun e w' => e = .returned (.func (.func 232) #[] #[.pointer (some ⟨w.heap.size, 0, none⟩), .pointer (some ⟨w.heap.size + 1, 0, none⟩)]) ∧ w' = (w.alloc (.cells #[.slice A len c] 75)).alloc (.cells #[.int .i64 m] 3) := by
  have d : decide ((m : Int) < 1) = false := by simp; omega
  refine callsIn_of_wp Try.func215 rfl trivial ?_ rfl
  simp only [Try.ntmps215, List.size_toArray, List.length_cons, List.length_nil, Nat.reduceAdd, Nat.reduceSub, Array.replicate_succ, Array.replicate_zero, List.push_toArray, List.append_toArray, List.nil_append, List.cons_append]
  gi_wp2
  go_ret
  exact ⟨rfl, rfl⟩

end Go.Proofs.Ytnekknemjhlgdaa
