/- Nodes as bytes: plain. -/
import Derived.Test.YtlclllkjnhgbjaaAreP
import Derived.Test.YtlclllkjnhgbjaaAreJ
import Derived.Test.YtlclllkjnhgbjaaBh
import Derived.Test.YtlclllkjnhgbjaaBq
import Derived.IntWalk
namespace Go.Proofs.Ytlclllkjnhgbjaa
open Go.RowKit
set_option linter.unusedVariables false
set_option linter.unusedSimpArgs false

/-- What stands at a cell. -/
def cellPut (nd : Nat) (ms dim : Int) (c : Cl) : List UInt8 := if dim = (nd : Int) - 1 then agPut ms.toNat c.ag else nput c.ch.toNat
def cellsPut (nd : Nat) (ms dim : Int) : Int → List Cl → List UInt8
  | _, [] => []
  | was, c :: l => nput (c.key - was - 1).toNat ++ (cellPut nd ms dim c ++ cellsPut nd ms dim c.key l)
def listPut (nd : Nat) (ms dim : Int) (l : List Cl) : List UInt8 := nput l.length ++ cellsPut nd ms dim (-1) l
def bodyPut (nd : Nat) (ms : Int) (n : NC) : List UInt8 := nput n.dim.toNat ++ (n.ls.flatMap (listPut nd ms n.dim) ++ cellPut nd ms n.dim n.all)
def nodePut (nd : Nat) (ms : Int) (n : NC) : List UInt8 := ptext (bodyPut nd ms n)

/-- What is read. -/
def keyAt (was g : Int) : Int := wrap64 (wrap64 (was + 1) + g)
def pcell (nd : Nat) (ms dim key : Int) (s : List UInt8) : PR Cl :=
  if dim = (nd : Int) - 1 then pbind2 (pag ms s) (fun a => ⟨key, 0, a⟩) else pbind2 (pnum 1048576 s) (fun n => ⟨key, (n : Int), .zero⟩)
def pcells (nd : Nat) (ms dim size : Int) : Nat → Int → List Cl → List UInt8 → PR (List Cl)
  | 0, _, acc, s => .ok (acc, s)
  | n + 1, was, acc, s => pbind (pnum size s) fun g r => pbind (pcell nd ms dim (keyAt was g) r) fun c r => pcells nd ms dim size n (keyAt was g) (acc ++ [c]) r
def plist (nd : Nat) (ms dim size : Int) (s : List UInt8) : PR (List Cl) := pbind (pnum size s) fun n r => pcells nd ms dim size n (-1) [] r
def plists (nd : Nat) (ms dim : Int) : List Int → List (List Cl) → List UInt8 → PR (List (List Cl))
  | [], acc, s => .ok (acc, s)
  | z :: zs, acc, s => pbind (plist nd ms dim z s) fun l r => plists nd ms dim zs (acc ++ [l]) r
def pafter (nd : Nat) (ms dim : Int) (o : PR (List (List Cl))) : PR NC := pbind o fun ls r => pbind2 (pcell nd ms dim 0 r) fun c => ⟨dim, ls, c⟩
def pbody (xs : List (List Int)) (ms : Int) (s : List UInt8) : PR NC :=
  pbind (pnum ((xs.length : Int) - 1) s) fun d r => pafter xs.length ms (d : Nat) (plists xs.length ms (d : Nat) ((xs[d]?).getD []) [] r)
/-- How many bytes a node has that begins so. -/
def nodeSize (s : List UInt8) : Option Nat := if (ntake s).2.2 = true ∧ (ntake s).1 ≤ 1048576 then some ((ntake s).1 + (ntake s).2.1) else none
/-- The node with which bytes begin, and how many these are. -/
def nodeTake (xs : List (List Int)) (ms : Int) (s : List UInt8) : Option (NC × Nat) :=
  match nodeSize s with
  | none => none
  | some z => if s.length < z ∨ xs.length = 0 then none else
    match pbody xs ms ((s.take z).drop (ntake s).2.1) with
    | .error _ => none
    | .ok (n, r) => if r = [] ∧ nodeErr xs ms n = 0 then some (n, z) else none

theorem pbind_ok {α β : Type} (x : α) (r : List UInt8) (f : α → List UInt8 → PR β) : pbind (.ok (x, r)) f = f x r := rfl
theorem pbind_err {α β : Type} (k : Int) (f : α → List UInt8 → PR β) : pbind (.error k : PR α) f = .error k := rfl
theorem pbind2_ok {α β : Type} (x : α) (r : List UInt8) (f : α → β) : pbind2 (.ok (x, r)) f = .ok (f x, r) := rfl
theorem pbind2_err {α β : Type} (k : Int) (f : α → β) : pbind2 (.error k : PR α) f = .error k := rfl

/-- Keys that rise. -/
def RiseC (size : Int) : Int → List Cl → Prop
  | _, [] => True
  | was, c :: l => was < c.key ∧ c.key < size ∧ RiseC size c.key l
theorem riseC_of {size : Int} : ∀ (l : List Cl) (was : Int), (∀ i c, l[i]? = some c → c.key < size ∧ (if i = 0 then was else ((l[i - 1]?).getD .nil).key) < c.key) → RiseC size was l
  | [], _, _ => trivial
  | c :: l, was, h => by
    have h0 := h 0 c rfl
    rw [if_pos rfl] at h0
    refine ⟨h0.2, h0.1, riseC_of l c.key fun i d hd => ?_⟩
    have h1 := h (i + 1) d (by simpa using hd)
    rw [if_neg (by omega)] at h1
    refine ⟨h1.1, ?_⟩
    cases i with
    | zero => simpa using h1.2
    | succ i => simpa using h1.2
theorem riseC_len {size : Int} : ∀ (l : List Cl) (was : Int), RiseC size was l → was < size → (l.length : Int) ≤ size - 1 - was
  | [], was, _, h => by simp; omega
  | c :: l, was, h, h2 => by
    have := riseC_len l c.key h.2.2 h.2.1
    have h1 := h.1
    rw [List.length_cons]
    omega
theorem listErr_rise {nd : Nat} {ms dim size : Int} {l : List Cl} (h : listErr nd ms dim size l = 0) : RiseC size (-1) l ∧ l.length ≠ 0 := by
  unfold listErr at h
  by_cases h0 : l.length = 0
  · rw [if_pos h0] at h; omega
  rw [if_neg h0] at h
  refine ⟨riseC_of l _ fun i c hc => ?_, h0⟩
  have hi := (List.getElem?_eq_some_iff.1 hc).1
  have h1 := firstErr_inv h i (Nat.zero_le _) (by omega)
  rw [cellAt_some hc] at h1
  by_cases a1 : c.key < 0 ∨ size ≤ c.key
  · rw [if_pos a1] at h1; omega
  rw [if_neg a1] at h1
  by_cases a2 : 0 < i ∧ c.key ≤ ((l[i - 1]?).getD .nil).key
  · rw [if_pos a2] at h1; omega
  refine ⟨by omega, ?_⟩
  by_cases hi0 : i = 0
  · rw [if_pos hi0]; omega
  · rw [if_neg hi0]; omega
theorem nodeErr_inv {xs : List (List Int)} {ms : Int} {n : NC} (h : nodeErr xs ms n = 0) : 0 ≤ n.dim ∧ ∃ sz, xs[n.dim.toNat]? = some sz ∧ n.ls.length = sz.length ∧ sz.length ≠ 0 ∧ (∀ (k : Nat) (l : List Cl), n.ls[k]? = some l → ∃ z : Int, sz[k]? = some z ∧ listErr xs.length ms n.dim z l = 0) ∧ n.all.key = 0 ∧ cellOk xs.length ms n.dim n.all = true := by
  by_cases h1 : n.dim < 0
  · rw [nodeErr_neg h1] at h; omega
  by_cases h2 : xs.length ≤ n.dim.toNat
  · rw [nodeErr_none h1 h2] at h; omega
  have hs : xs[n.dim.toNat]? = some (xs[n.dim.toNat]'(by omega)) := List.getElem?_eq_getElem (by omega)
  rw [nodeErr_some h1 hs] at h
  rw [hs]
  generalize xs[n.dim.toNat]'(by omega) = sz at h
  refine ⟨by omega, sz, rfl, ?_⟩
  by_cases h3 : sz.length = 0 ∨ n.ls.length ≠ sz.length
  · rw [if_pos h3] at h; omega
  rw [if_neg h3] at h
  have hlen : n.ls.length = sz.length := Classical.byContradiction fun e => h3 (.inr e)
  by_cases h4 : firstErr (listAt xs.length ms n.dim sz n.ls) n.ls.length 0 ≠ 0
  · rw [if_pos h4] at h; exact absurd h h4
  rw [if_neg h4] at h
  refine ⟨hlen, fun e => h3 (.inl e), fun k l hk => ?_, ?_⟩
  · have hkl := (List.getElem?_eq_some_iff.1 hk).1
    have hz : sz[k]? = some (sz[k]'(by omega)) := List.getElem?_eq_getElem (by omega)
    refine ⟨_, hz, ?_⟩
    have h6 := firstErr_inv (Classical.not_not.1 h4) k (Nat.zero_le _) (by omega)
    rw [listAt_some hk hz] at h6
    by_cases h7 : listErr xs.length ms n.dim (sz[k]'(by omega)) l ≠ 0
    · rw [if_pos h7] at h6; exact absurd h6 h7
    · exact Classical.not_not.1 h7
  · by_cases h5 : n.all.key ≠ 0 ∨ cellOk xs.length ms n.dim n.all = false
    · rw [if_pos h5] at h; omega
    · refine ⟨Classical.byContradiction fun e => h5 (.inl e), ?_⟩
      cases hk : cellOk xs.length ms n.dim n.all with
      | true => rfl
      | false => exact absurd (.inr hk) h5

theorem putsC_len (a : Ag) : ∀ n k, (putsFrom a k n).length ≤ 27 * n := by
  intro n
  induction n with
  | zero => intro k; simp [putsFrom]
  | succ n ih =>
    intro k
    rw [putsFrom, List.length_append]
    have h1 : (prtPut a.c (a.prt k)).length ≤ 27 := by
      unfold prtPut
      have e1 := nput_le9 (nfold (a.prt k).s)
      have e2 := nput_le9 (nfold (a.prt k).mn)
      have e3 := nput_le9 (nfold (a.prt k).mx)
      split
      · simp only [List.length_append]; omega
      · simp only [List.length_append, List.length_nil]; omega
    have := ih (k + 1)
    omega
theorem cellPut_len {nd : Nat} {ms dim : Int} {c : Cl} (h : ms ≤ 3) : (cellPut nd ms dim c).length ≤ 90 := by
  unfold cellPut
  split
  · unfold agPut
    rw [List.length_append]
    have := nput_le9 (nfold c.ag.c)
    have := putsC_len c.ag ms.toNat 0
    omega
  · have := nput_le9 c.ch.toNat; omega
theorem cellsPut_len {nd : Nat} {ms dim : Int} (h : ms ≤ 3) : ∀ (l : List Cl) (was : Int), (cellsPut nd ms dim was l).length ≤ 99 * l.length
  | [], _ => by simp [cellsPut]
  | c :: l, was => by
    rw [cellsPut, List.length_append, List.length_append, List.length_cons]
    have := nput_le9 (c.key - was - 1).toNat
    have := cellPut_len (nd := nd) (dim := dim) (c := c) h
    have := cellsPut_len (nd := nd) (dim := dim) h l c.key
    omega
theorem listPut_len {nd : Nat} {ms dim : Int} (h : ms ≤ 3) (l : List Cl) : (listPut nd ms dim l).length ≤ 9 + 99 * l.length := by
  unfold listPut
  rw [List.length_append]
  have := nput_le9 l.length
  have := cellsPut_len (nd := nd) (dim := dim) h l (-1)
  omega
theorem flatPut_len {nd : Nat} {ms dim : Int} (h : ms ≤ 3) {m : Nat} : ∀ (ls : List (List Cl)), (∀ l ∈ ls, l.length ≤ m) → (ls.flatMap (listPut nd ms dim)).length ≤ (9 + 99 * m) * ls.length
  | [], _ => by simp
  | l :: ls, hm => by
    rw [List.flatMap_cons, List.length_append, List.length_cons]
    have h1 := listPut_len (nd := nd) (dim := dim) h l
    have h2 := hm l (List.mem_cons_self ..)
    have h3 := flatPut_len (nd := nd) (dim := dim) h ls fun x hx => hm x (List.mem_cons_of_mem _ hx)
    rw [Nat.mul_add, Nat.mul_one]
    have h4 : 99 * l.length ≤ 99 * m := Nat.mul_le_mul_left _ h2
    omega
theorem shape_tier {xs : List (List Int)} {ms : Int} (h : shapeOk xs ms = true) {d : Nat} {sz : List Int} (hd : xs[d]? = some sz) : 1 ≤ sz.length ∧ sz.length ≤ 4 ∧ ∀ (k : Nat) (z : Int), sz[k]? = some z → 1 ≤ z ∧ z ≤ 200 := by
  unfold shapeOk at h
  simp only [Bool.and_eq_true, decide_eq_true_eq, List.all_eq_true] at h
  have ht := h.2 sz (List.mem_of_getElem? hd)
  unfold tierShape at ht
  simp only [Bool.and_eq_true, decide_eq_true_eq, List.all_eq_true, List.mem_range] at ht
  refine ⟨ht.1.1, ht.1.2, fun k z hz => ?_⟩
  have hk := (List.getElem?_eq_some_iff.1 hz).1
  have := ht.2 k hk
  rw [hz] at this
  simp only [Option.getD_some] at this
  exact this.1
theorem shape_ms {xs : List (List Int)} {ms : Int} (h : shapeOk xs ms = true) : 1 ≤ xs.length ∧ xs.length ≤ 16 ∧ 1 ≤ ms ∧ ms ≤ 3 := by
  unfold shapeOk at h
  simp only [Bool.and_eq_true, decide_eq_true_eq] at h
  exact ⟨h.1.1.1.1, h.1.1.1.2, h.1.1.2, h.1.2⟩
theorem node_lists {xs : List (List Int)} {ms : Int} {n : NC} (h : nodeErr xs ms n = 0) (hs : shapeOk xs ms = true) : n.ls.length ≤ 4 ∧ ∀ l ∈ n.ls, l.length ≤ 200 := by
  obtain ⟨h0, sz, h1, h2, h3, h4, h5, h6⟩ := nodeErr_inv h
  obtain ⟨t1, t2, t3⟩ := shape_tier hs h1
  refine ⟨by omega, fun l hl => ?_⟩
  obtain ⟨k, hk, hkl⟩ := List.getElem_of_mem hl
  obtain ⟨z, hz, hL⟩ := h4 k l (by rw [List.getElem?_eq_getElem hk, hkl])
  have hzz := t3 k z hz
  have := riseC_len l (-1) (listErr_rise hL).1 (by omega)
  omega
theorem bodyPut_len {xs : List (List Int)} {ms : Int} {n : NC} (h : nodeErr xs ms n = 0) (hs : shapeOk xs ms = true) : (bodyPut xs.length ms n).length ≤ 100000 := by
  have hl := node_lists h hs
  have hm := (shape_ms hs).2.2.2
  unfold bodyPut
  rw [List.length_append, List.length_append]
  have h1 := nput_le9 n.dim.toNat
  have h2 := cellPut_len (nd := xs.length) (dim := n.dim) (c := n.all) hm
  have h3 := flatPut_len (nd := xs.length) (dim := n.dim) hm (m := 200) n.ls hl.2
  have h4 : (9 + 99 * 200) * n.ls.length ≤ (9 + 99 * 200) * 4 := Nat.mul_le_mul_left _ hl.1
  omega

theorem keyAt_back {was key : Int} (h1 : -1 ≤ was) (h2 : was < key) (h3 : I64 key) : keyAt was ((key - was - 1).toNat : Nat) = key := by
  unfold keyAt
  obtain ⟨a, b⟩ := h3
  rw [IntWalk.wrap64_in (was + 1) (by omega), IntWalk.wrap64_in _ (by omega)]
  omega
/-- A cell read that may be, where what is led to can be told. -/
theorem pcell_put {nd : Nat} {ms dim : Int} {c : Cl} (ho : c.ok) (h : cellOk nd ms dim c = true) (hc : dim ≠ (nd : Int) - 1 → c.ch ≤ 1048576) (t : List UInt8) : pcell nd ms dim c.key (cellPut nd ms dim c ++ t) = .ok (c, t) := by
  unfold cellOk at h
  unfold pcell cellPut
  obtain ⟨key, ch, ag⟩ := c
  simp only at *
  by_cases hd : dim = (nd : Int) - 1
  · rw [if_pos hd] at h
    rw [if_pos hd, if_pos hd]
    simp only [Bool.and_eq_true, decide_eq_true_eq] at h
    rw [pag_agPut ho.ag h.2, pbind2_ok, h.1]
  · rw [if_neg hd] at h
    rw [if_neg hd, if_neg hd]
    simp only [Bool.and_eq_true, decide_eq_true_eq] at h
    have := hc hd
    rw [q_pnum (by omega) (by omega), pbind2_ok, h.2, Int.toNat_of_nonneg h.1]
theorem pcells_put {nd : Nat} {ms dim size : Int} : ∀ (l : List Cl) (was : Int) (acc : List Cl) (t : List UInt8), (∀ c ∈ l, c.ok) → (∀ c ∈ l, cellOk nd ms dim c = true) → (dim ≠ (nd : Int) - 1 → ∀ c ∈ l, c.ch ≤ 1048576) → -1 ≤ was → RiseC size was l →
    pcells nd ms dim size l.length was acc (cellsPut nd ms dim was l ++ t) = .ok (acc ++ l, t)
  | [], _, acc, t, _, _, _, _, _ => by simp [pcells, cellsPut]
  | c :: l, was, acc, t, ho, hk, hc, hw, hr => by
    have o1 := ho c (List.mem_cons_self ..)
    have k1 := hk c (List.mem_cons_self ..)
    have hI := o1.key
    rw [List.length_cons, pcells, cellsPut, List.append_assoc, List.append_assoc]
    obtain ⟨r1, r2, r3⟩ := hr
    have hI2 : c.key ≤ 9223372036854775807 := hI.2
    rw [q_pnum (by omega) (by omega), pbind_ok, keyAt_back hw r1 hI, pcell_put o1 k1 (fun hd => hc hd c (List.mem_cons_self ..)), pbind_ok,
      pcells_put l c.key (acc ++ [c]) t (fun x hx => ho x (List.mem_cons_of_mem _ hx)) (fun x hx => hk x (List.mem_cons_of_mem _ hx)) (fun hd x hx => hc hd x (List.mem_cons_of_mem _ hx)) (by omega) r3]
    simp
theorem plist_put {nd : Nat} {ms dim size : Int} {l : List Cl} (h : listErr nd ms dim size l = 0) (ho : ∀ c ∈ l, c.ok) (hc : dim ≠ (nd : Int) - 1 → ∀ c ∈ l, c.ch ≤ 1048576) (hz : 0 ≤ size ∧ size ≤ 200) (t : List UInt8) : plist nd ms dim size (listPut nd ms dim l ++ t) = .ok (l, t) := by
  obtain ⟨hr, h0⟩ := listErr_rise h
  have hlen := riseC_len l (-1) hr (by omega)
  unfold plist listPut
  rw [List.append_assoc, q_pnum (by omega) (by omega), pbind_ok, pcells_put l (-1) [] t ho (listErr_cells h) hc (by omega) hr, List.nil_append]
theorem plists_put {nd : Nat} {ms dim : Int} : ∀ (sz : List Int) (ls : List (List Cl)) (acc : List (List Cl)) (t : List UInt8), ls.length = sz.length → (∀ (k : Nat) (l : List Cl), ls[k]? = some l → ∃ z : Int, sz[k]? = some z ∧ listErr nd ms dim z l = 0) → (∀ (k : Nat) (z : Int), sz[k]? = some z → 1 ≤ z ∧ z ≤ 200) → (∀ l ∈ ls, ∀ c ∈ l, c.ok) → (dim ≠ (nd : Int) - 1 → ∀ l ∈ ls, ∀ c ∈ l, c.ch ≤ 1048576) →
    plists nd ms dim sz acc (ls.flatMap (listPut nd ms dim) ++ t) = .ok (acc ++ ls, t)
  | [], [], acc, t, _, _, _, _, _ => by simp [plists]
  | z :: sz, [], acc, t, h, _, _, _, _ => by cases h
  | [], l :: ls, acc, t, h, _, _, _, _ => by cases h
  | z :: sz, l :: ls, acc, t, h, hL, hz, ho, hc => by
    obtain ⟨z', hz', hl'⟩ := hL 0 l rfl
    have hzz : z = z' := by injection hz'
    subst hzz
    have hz0 := hz 0 z rfl
    rw [plists, List.flatMap_cons, List.append_assoc, plist_put hl' (ho l (List.mem_cons_self ..)) (fun hd => hc hd l (List.mem_cons_self ..)) (by omega), pbind_ok,
      plists_put sz ls (acc ++ [l]) t (by simpa using h) (fun k x hx => by simpa using hL (k + 1) x (by simpa using hx)) (fun k x hx => hz (k + 1) x (by simpa using hx)) (fun x hx => ho x (List.mem_cons_of_mem _ hx)) (fun hd x hx => hc hd x (List.mem_cons_of_mem _ hx))]
    simp
structure NcOk (n : NC) : Prop where
  ls : ∀ l ∈ n.ls, ∀ c ∈ l, c.ok
  all : n.all.ok
/-- A node that may be is read back. -/
theorem pbody_put {xs : List (List Int)} {ms : Int} {n : NC} (h : nodeErr xs ms n = 0) (hs : shapeOk xs ms = true) (ho : NcOk n) (hc : n.dim ≠ (xs.length : Int) - 1 → ∀ c ∈ eachN n, c.ch ≤ 1048576) (t : List UInt8) : pbody xs ms (bodyPut xs.length ms n ++ t) = .ok (n, t) := by
  obtain ⟨h0, sz, h1, h2, h3, h4, h5, h6⟩ := nodeErr_inv h
  obtain ⟨t1, t2, t3⟩ := shape_tier hs h1
  have hd := (List.getElem?_eq_some_iff.1 h1).1
  have h16 := (shape_ms hs).2.1
  unfold pbody bodyPut
  rw [List.append_assoc, q_pnum (by omega) (by omega), pbind_ok, h1, List.append_assoc, Int.toNat_of_nonneg h0, Option.getD_some,
    plists_put sz n.ls [] _ h2 h4 t3 ho.ls (fun e l hl c hcl => hc e c (List.mem_append_left _ (List.mem_flatten.2 ⟨l, hl, hcl⟩)))]
  unfold pafter
  rw [pbind_ok, ← h5, pcell_put ho.all h6 (fun e => hc e n.all (List.mem_append_right _ (List.mem_singleton.2 rfl))), pbind2_ok, List.nil_append]
theorem ptext_take {l : List UInt8} (h : l.length < 18446744073709551616) (t : List UInt8) : ntake (ptext l ++ t) = (l.length, nsize l.length, true) := by
  unfold ptext
  rw [List.append_assoc]
  exact ntake_nput h _
theorem ptext_length (l : List UInt8) : (ptext l).length = l.length + nsize l.length := by
  unfold ptext
  rw [List.length_append, nput_length]
  omega
theorem ptext_drop (l t : List UInt8) : ((ptext l ++ t).take (l.length + nsize l.length)).drop (nsize l.length) = l := by
  rw [← ptext_length, List.take_left']
  · unfold ptext
    rw [← nput_length, List.drop_left]
  · rfl
theorem nodeSize_put {l : List UInt8} (h : l.length ≤ 1000000) (t : List UInt8) : nodeSize (ptext l ++ t) = some (ptext l).length := by
  unfold nodeSize
  rw [ptext_take (by omega), if_pos ⟨rfl, by show l.length ≤ _; omega⟩, ptext_length]
theorem nodeTake_put {xs : List (List Int)} {ms : Int} {n : NC} (h : nodeErr xs ms n = 0) (hs : shapeOk xs ms = true) (ho : NcOk n) (hc : n.dim ≠ (xs.length : Int) - 1 → ∀ c ∈ eachN n, c.ch ≤ 1048576) (t : List UInt8) :
    nodeTake xs ms (nodePut xs.length ms n ++ t) = some (n, (nodePut xs.length ms n).length) := by
  have hb := bodyPut_len h hs
  have hx := (shape_ms hs).1
  have hp := pbody_put h hs ho hc []
  rw [List.append_nil] at hp
  unfold nodeTake nodePut
  rw [nodeSize_put (by omega)]
  simp only
  rw [if_neg (by rw [List.length_append]; omega), ptext_take (by omega), ptext_length]
  simp only
  rw [ptext_drop, hp]
  simp only
  rw [if_pos ⟨trivial, h⟩]
end Go.Proofs.Ytlclllkjnhgbjaa
