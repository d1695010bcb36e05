/- What few nodes, written, take of bytes; what is written is read back. -/
import Derived.Test.YtlclllkjnhgbjaaFewS
import Derived.Test.YtlclllkjnhgbjaaWrt
namespace Go.Proofs.Ytlclllkjnhgbjaa
open Go.RowKit
set_option linter.unusedVariables false
set_option linter.unusedSimpArgs false
def cellsN (n : NC) : Nat := (n.ls.map List.length).sum
theorem moveC_cells (nd : Nat) (g : Int → Int) (n : NC) : cellsN (moveC nd g n) = cellsN n := by
  unfold moveC cellsN
  split
  · rfl
  · simp [List.map_map, Function.comp_def]
theorem nodePut_len3 {xs : List (List Int)} {ms : Int} {n : NC} (h : nodeErr xs ms n = 0) (hs : shapeOk xs ms = true) : (nodePut xs.length ms n).length ≤ 116 + 92 * cellsN n := by
  obtain ⟨h0, sz, h1, h2, h3, h4, h5, h6⟩ := nodeErr_inv h
  obtain ⟨t1, t2, t3⟩ := shape_tier hs h1
  have hm := (shape_ms hs).2.2.2
  have hflat : ∀ (ls : List (List Cl)), (∀ l ∈ ls, ∃ z : Int, 1 ≤ z ∧ z ≤ 200 ∧ listErr xs.length ms n.dim z l = 0) → (ls.flatMap (listPut xs.length ms n.dim)).length ≤ 2 * ls.length + 92 * (ls.map List.length).sum := fun ls => by
    induction ls with
    | nil => intro _; simp
    | cons l ls ih =>
      intro hl
      rw [List.flatMap_cons, List.length_append, List.length_cons, List.map_cons, List.sum_cons]
      have := ih fun x hx => hl x (List.mem_cons_of_mem _ hx)
      obtain ⟨z, z1, z2, hz⟩ := hl l (List.mem_cons_self ..)
      have hr := (listErr_rise hz).1
      have hlen := riseC_len l (-1) hr (by omega)
      have h7 := cellsPut_len2 (nd := xs.length) (dim := n.dim) hm z2 l (-1) (by omega) hr
      have h8 := nput_le2 (n := l.length) (by omega)
      have h9 : (listPut xs.length ms n.dim l).length ≤ 2 + 92 * l.length := by
        unfold listPut
        rw [List.length_append]
        omega
      omega
  have hf := hflat n.ls fun l hl => by
    obtain ⟨k, hk, hkl⟩ := List.getElem_of_mem hl
    obtain ⟨z, hz, hL⟩ := h4 k l (by rw [List.getElem?_eq_getElem hk, hkl])
    have := t3 k z hz
    exact ⟨z, this.1, this.2, hL⟩
  have hb : (bodyPut xs.length ms n).length ≤ 107 + 92 * cellsN n := by
    unfold bodyPut cellsN
    rw [List.length_append, List.length_append]
    have := nput_le9 n.dim.toNat
    have := cellPut_len (nd := xs.length) (dim := n.dim) (c := n.all) hm
    omega
  show (ptext _).length ≤ _
  rw [ptext_length]
  have := nsize_le (bodyPut xs.length ms n).length
  omega
theorem wsteps_size {xs : List (List Int)} {ms : Int} (hs : shapeOk xs ms = true) : ∀ (l2 l1 : List NC) (st : List Int) (out : List UInt8), GoodN xs ms (l1 ++ l2) → st.length = l1.length → StOk st out.length →
    (wsteps xs.length ms l2 st out).2.length ≤ out.length + (116 * l2.length + 92 * (l2.map cellsN).sum)
  | [], l1, st, out, hg, hl, hst => by simp [wsteps]
  | n :: l2, l1, st, out, hg, hl, hst => by
    obtain ⟨hE, hb, _, _⟩ := moved_ok (k := l1.length) (n := n) hs hg (by rw [List.getElem?_append_right (Nat.le_refl _), Nat.sub_self]; rfl) hst hl
    have h3 := nodePut_len3 hE hs
    rw [moveC_cells] at h3
    have h4 := wsteps_size hs l2 (l1 ++ [n]) (st ++ [(out.length : Int)]) (out ++ nodePut xs.length ms (moveC xs.length (plc st) n)) (by rw [List.append_assoc]; exact hg) (by rw [List.length_append, List.length_append, hl]; rfl) (hst.snoc (by rw [List.length_append]; omega))
    rw [List.length_append] at h4
    rw [wsteps, List.length_cons, List.map_cons, List.sum_cons]
    omega
theorem sum_mono {α : Type} (f g : α → Nat) : ∀ (l : List α), (∀ x ∈ l, f x ≤ g x) → (l.map f).sum ≤ (l.map g).sum
  | [], _ => Nat.le_refl _
  | x :: l, h => by
    rw [List.map_cons, List.map_cons, List.sum_cons, List.sum_cons]
    have h1 := h x (List.mem_cons_self ..)
    have h2 := sum_mono f g l fun y hy => h y (List.mem_cons_of_mem _ hy)
    omega
theorem few_pwrite {xs : List (List Int)} {ms : Int} {l : Row Nd} {w : World} (hl : l.rd w) (hf : FewT l 15) (hok : shapeOk xs ms = true) (hg : GoodN xs ms (l.l.map Nd.con)) : (pwrite xs.length ms (l.l.map Nd.con)).2.length ≤ 1000000 := by
  have h1 := wsteps_size hok (l.l.map Nd.con) [] [] [] hg rfl StOk.nil
  have h2 : ((l.l.map Nd.con).map cellsN).sum ≤ (l.l.map ncs).sum := by
    rw [List.map_map]
    refine sum_mono _ _ _ fun n hn => ?_
    show ((n.ls.l.map Row.l).map List.length).sum ≤ (n.ls.l.map fun y => min y.n 10000).sum
    rw [List.map_map]
    refine sum_mono _ _ _ fun y hy => ?_
    have h3 := (hf.1.2 n hn).2 y hy
    have h4 : y.l.length = y.n := ((hl.all n hn : n.rd w).ls.all y hy).len
    show y.l.length ≤ min y.n 10000
    omega
  have h5 := hf.2
  have h6 := hf.1.1
  have h7 : l.l.length = l.n := hl.len
  rw [List.length_nil, List.length_map, h7] at h1
  show (wsteps _ _ _ [] []).2.length ≤ _
  omega
theorem nd_ncOk {w : World} {n : Nd} (hn : n.rd w) : NcOk n.con := by
  have h := nd_cells hn
  refine ⟨fun l hl c hc => h c ?_, h _ ?_⟩
  · exact List.mem_append_left _ (List.mem_flatten.2 ⟨l, hl, hc⟩)
  · exact List.mem_append_right _ (List.mem_singleton.2 rfl)
theorem preadT_pwrite {xs : List (List Int)} {ms : Int} {L : List NC} (hs : shapeOk xs ms = true) (hg : GoodN xs ms L) (ho : ∀ n ∈ L, NcOk n) (h15 : L.length ≤ 15) (hw : wholeC xs.length L = true) : preadT xs ms (pwrite xs.length ms L).2 (wtop (pwrite xs.length ms L).1) = some L := by
  obtain ⟨tail, t1, t2⟩ := write_read hs L [] [] [] hg ho rfl StOk.nil (by simp) (by simpa using h15)
  rw [List.nil_append] at t1 t2
  have h1 : pread xs ms (pwrite xs.length ms L).2 = some ((pwrite xs.length ms L).1, L) := by
    show rstep xs ms 0 (wsteps _ _ _ [] []).2 [] [] = _
    rw [t1]
    exact t2
  unfold preadT
  rw [h1]
  simp only
  rw [if_pos ⟨True.intro, hw⟩]
theorem wtop_i64 {st : List Int} {m : Nat} (h : StOk st m) (hm : m ≤ 1000000000) : I64 (wtop st) := by
  unfold wtop
  cases hq : st.getLast? with
  | none => unfold I64; simp
  | some z => exact stOk_i64 h hm z (List.mem_of_getLast? hq)
theorem wsteps_ok {xs : List (List Int)} {ms : Int} (hs : shapeOk xs ms = true) : ∀ (l2 l1 : List NC) (st : List Int) (out : List UInt8), GoodN xs ms (l1 ++ l2) → st.length = l1.length → StOk st out.length →
    StOk (wsteps xs.length ms l2 st out).1 (wsteps xs.length ms l2 st out).2.length
  | [], l1, st, out, hg, hl, hst => hst
  | n :: l2, l1, st, out, hg, hl, hst => by
    obtain ⟨hE, hb, _, _⟩ := moved_ok (k := l1.length) (n := n) hs hg (by rw [List.getElem?_append_right (Nat.le_refl _), Nat.sub_self]; rfl) hst hl
    rw [wsteps]
    exact wsteps_ok hs l2 (l1 ++ [n]) (st ++ [(out.length : Int)]) (out ++ nodePut xs.length ms (moveC xs.length (plc st) n)) (by rw [List.append_assoc]; exact hg) (by rw [List.length_append, List.length_append, hl]; rfl) (hst.snoc (by rw [List.length_append]; omega))
theorem pwrite_top {xs : List (List Int)} {ms : Int} {L : List NC} (hs : shapeOk xs ms = true) (hg : GoodN xs ms L) (hb : (pwrite xs.length ms L).2.length ≤ 1000000) : I64 (wtop (pwrite xs.length ms L).1) :=
  wtop_i64 (wsteps_ok hs L [] [] [] hg rfl StOk.nil) (Nat.le_trans hb (by omega))
end Go.Proofs.Ytlclllkjnhgbjaa
