/- Texts laid together: XCelP XCelA XCelB XCelD XCelE XCelF XCelI. -/
import Derived.Test.YtlclllkjnhgbjaaBu
import Derived.Test.YtlclllkjnhgbjaaBh
import Derived.Test.YtlclllkjnhgbjaaBq
import Derived.IntWalk
import Derived.Test.YtlclllkjnhgbjaaBc
import Derived.Test.YtlclllkjnhgbjaaSep
import Derived.Test.YtlclllkjnhgbjaaBb
import Derived.Test.YtlclllkjnhgbjaaBa
import Derived.Test.YtlclllkjnhgbjaaBt

namespace Go.Proofs.Ytlclllkjnhgbjaa
open Go.RowKit
set_option linter.unusedVariables false
set_option linter.unusedSimpArgs false

/-- What stands at a cell. -/
def cellPut (nd : Nat) (ms dim : Int) (c : Cl) : List UInt8 := if dim = (nd : Int) - 1 then agPut ms.toNat c.ag else nput c.ch.toNat
def cellsPut (nd : Nat) (ms dim : Int) : Int → List Cl → List UInt8
  | _, [] => []
  | was, c :: l => nput (c.key - was - 1).toNat ++ (cellPut nd ms dim c ++ cellsPut nd ms dim c.key l)
def listPut (nd : Nat) (ms dim : Int) (l : List Cl) : List UInt8 := nput l.length ++ cellsPut nd ms dim (-1) l
def bodyPut (nd : Nat) (ms : Int) (n : NC) : List UInt8 := nput n.dim.toNat ++ (n.ls.flatMap (listPut nd ms n.dim) ++ cellPut nd ms n.dim n.all)
def nodePut (nd : Nat) (ms : Int) (n : NC) : List UInt8 := ptext (bodyPut nd ms n)

/-- What is read. -/
def keyAt (was g : Int) : Int := wrap64 (wrap64 (was + 1) + g)
def pcell (nd : Nat) (ms dim key : Int) (s : List UInt8) : PR Cl :=
  if dim = (nd : Int) - 1 then pbind2 (pag ms s) (fun a => ⟨key, 0, a⟩) else pbind2 (pnum 1048576 s) (fun n => ⟨key, (n : Int), .zero⟩)
def pcells (nd : Nat) (ms dim size : Int) : Nat → Int → List Cl → List UInt8 → PR (List Cl)
  | 0, _, acc, s => .ok (acc, s)
  | n + 1, was, acc, s => pbind (pnum size s) fun g r => pbind (pcell nd ms dim (keyAt was g) r) fun c r => pcells nd ms dim size n (keyAt was g) (acc ++ [c]) r
def plist (nd : Nat) (ms dim size : Int) (s : List UInt8) : PR (List Cl) := pbind (pnum size s) fun n r => pcells nd ms dim size n (-1) [] r
def plists (nd : Nat) (ms dim : Int) : List Int → List (List Cl) → List UInt8 → PR (List (List Cl))
  | [], acc, s => .ok (acc, s)
  | z :: zs, acc, s => pbind (plist nd ms dim z s) fun l r => plists nd ms dim zs (acc ++ [l]) r
def pafter (nd : Nat) (ms dim : Int) (o : PR (List (List Cl))) : PR NC := pbind o fun ls r => pbind2 (pcell nd ms dim 0 r) fun c => ⟨dim, ls, c⟩
def pbody (xs : List (List Int)) (ms : Int) (s : List UInt8) : PR NC :=
  pbind (pnum ((xs.length : Int) - 1) s) fun d r => pafter xs.length ms (d : Nat) (plists xs.length ms (d : Nat) ((xs[d]?).getD []) [] r)
/-- How many bytes a node has that begins so. -/
def nodeSize (s : List UInt8) : Option Nat := if (ntake s).2.2 = true ∧ (ntake s).1 ≤ 1048576 then some ((ntake s).1 + (ntake s).2.1) else none
/-- The node with which bytes begin, and how many these are. -/
def nodeTake (xs : List (List Int)) (ms : Int) (s : List UInt8) : Option (NC × Nat) :=
  match nodeSize s with
  | none => none
  | some z => if s.length < z ∨ xs.length = 0 then none else
    match pbody xs ms ((s.take z).drop (ntake s).2.1) with
    | .error _ => none
    | .ok (n, r) => if r = [] ∧ nodeErr xs ms n = 0 then some (n, z) else none

theorem pbind_ok {α β : Type} (x : α) (r : List UInt8) (f : α → List UInt8 → PR β) : pbind (.ok (x, r)) f = f x r := rfl
theorem pbind_err {α β : Type} (k : Int) (f : α → List UInt8 → PR β) : pbind (.error k : PR α) f = .error k := rfl
theorem pbind2_ok {α β : Type} (x : α) (r : List UInt8) (f : α → β) : pbind2 (.ok (x, r)) f = .ok (f x, r) := rfl
theorem pbind2_err {α β : Type} (k : Int) (f : α → β) : pbind2 (.error k : PR α) f = .error k := rfl

/-- Keys that rise. -/
def RiseC (size : Int) : Int → List Cl → Prop
  | _, [] => True
  | was, c :: l => was < c.key ∧ c.key < size ∧ RiseC size c.key l
theorem riseC_of {size : Int} : ∀ (l : List Cl) (was : Int), (∀ i c, l[i]? = some c → c.key < size ∧ (if i = 0 then was else ((l[i - 1]?).getD .nil).key) < c.key) → RiseC size was l
  | [], _, _ => trivial
  | c :: l, was, h => by
    have h0 := h 0 c rfl
    rw [if_pos rfl] at h0
    refine ⟨h0.2, h0.1, riseC_of l c.key fun i d hd => ?_⟩
    have h1 := h (i + 1) d (by simpa using hd)
    rw [if_neg (by omega)] at h1
    refine ⟨h1.1, ?_⟩
    cases i with
    | zero => simpa using h1.2
    | succ i => simpa using h1.2
theorem riseC_len {size : Int} : ∀ (l : List Cl) (was : Int), RiseC size was l → was < size → (l.length : Int) ≤ size - 1 - was
  | [], was, _, h => by simp; omega
  | c :: l, was, h, h2 => by
    have := riseC_len l c.key h.2.2 h.2.1
    have h1 := h.1
    rw [List.length_cons]
    omega
theorem listErr_rise {nd : Nat} {ms dim size : Int} {l : List Cl} (h : listErr nd ms dim size l = 0) : RiseC size (-1) l ∧ l.length ≠ 0 := by
  unfold listErr at h
  by_cases h0 : l.length = 0
  · rw [if_pos h0] at h; omega
  rw [if_neg h0] at h
  refine ⟨riseC_of l _ fun i c hc => ?_, h0⟩
  have hi := (List.getElem?_eq_some_iff.1 hc).1
  have h1 := firstErr_inv h i (Nat.zero_le _) (by omega)
  rw [cellAt_some hc] at h1
  by_cases a1 : c.key < 0 ∨ size ≤ c.key
  · rw [if_pos a1] at h1; omega
  rw [if_neg a1] at h1
  by_cases a2 : 0 < i ∧ c.key ≤ ((l[i - 1]?).getD .nil).key
  · rw [if_pos a2] at h1; omega
  refine ⟨by omega, ?_⟩
  by_cases hi0 : i = 0
  · rw [if_pos hi0]; omega
  · rw [if_neg hi0]; omega
theorem nodeErr_inv {xs : List (List Int)} {ms : Int} {n : NC} (h : nodeErr xs ms n = 0) : 0 ≤ n.dim ∧ ∃ sz, xs[n.dim.toNat]? = some sz ∧ n.ls.length = sz.length ∧ sz.length ≠ 0 ∧ (∀ (k : Nat) (l : List Cl), n.ls[k]? = some l → ∃ z : Int, sz[k]? = some z ∧ listErr xs.length ms n.dim z l = 0) ∧ n.all.key = 0 ∧ cellOk xs.length ms n.dim n.all = true := by
  by_cases h1 : n.dim < 0
  · rw [nodeErr_neg h1] at h; omega
  by_cases h2 : xs.length ≤ n.dim.toNat
  · rw [nodeErr_none h1 h2] at h; omega
  have hs : xs[n.dim.toNat]? = some (xs[n.dim.toNat]'(by omega)) := List.getElem?_eq_getElem (by omega)
  rw [nodeErr_some h1 hs] at h
  rw [hs]
  generalize xs[n.dim.toNat]'(by omega) = sz at h
  refine ⟨by omega, sz, rfl, ?_⟩
  by_cases h3 : sz.length = 0 ∨ n.ls.length ≠ sz.length
  · rw [if_pos h3] at h; omega
  rw [if_neg h3] at h
  have hlen : n.ls.length = sz.length := Classical.byContradiction fun e => h3 (.inr e)
  by_cases h4 : firstErr (listAt xs.length ms n.dim sz n.ls) n.ls.length 0 ≠ 0
  · rw [if_pos h4] at h; exact absurd h h4
  rw [if_neg h4] at h
  refine ⟨hlen, fun e => h3 (.inl e), fun k l hk => ?_, ?_⟩
  · have hkl := (List.getElem?_eq_some_iff.1 hk).1
    have hz : sz[k]? = some (sz[k]'(by omega)) := List.getElem?_eq_getElem (by omega)
    refine ⟨_, hz, ?_⟩
    have h6 := firstErr_inv (Classical.not_not.1 h4) k (Nat.zero_le _) (by omega)
    rw [listAt_some hk hz] at h6
    by_cases h7 : listErr xs.length ms n.dim (sz[k]'(by omega)) l ≠ 0
    · rw [if_pos h7] at h6; exact absurd h6 h7
    · exact Classical.not_not.1 h7
  · by_cases h5 : n.all.key ≠ 0 ∨ cellOk xs.length ms n.dim n.all = false
    · rw [if_pos h5] at h; omega
    · refine ⟨Classical.byContradiction fun e => h5 (.inl e), ?_⟩
      cases hk : cellOk xs.length ms n.dim n.all with
      | true => rfl
      | false => exact absurd (.inr hk) h5

theorem putsC_len (a : Ag) : ∀ n k, (putsFrom a k n).length ≤ 27 * n := by
  intro n
  induction n with
  | zero => intro k; simp [putsFrom]
  | succ n ih =>
    intro k
    rw [putsFrom, List.length_append]
    have h1 : (prtPut a.c (a.prt k)).length ≤ 27 := by
      unfold prtPut
      have e1 := nput_le9 (nfold (a.prt k).s)
      have e2 := nput_le9 (nfold (a.prt k).mn)
      have e3 := nput_le9 (nfold (a.prt k).mx)
      split
      · simp only [List.length_append]; omega
      · simp only [List.length_append, List.length_nil]; omega
    have := ih (k + 1)
    omega
theorem cellPut_len {nd : Nat} {ms dim : Int} {c : Cl} (h : ms ≤ 3) : (cellPut nd ms dim c).length ≤ 90 := by
  unfold cellPut
  split
  · unfold agPut
    rw [List.length_append]
    have := nput_le9 (nfold c.ag.c)
    have := putsC_len c.ag ms.toNat 0
    omega
  · have := nput_le9 c.ch.toNat; omega
theorem cellsPut_len {nd : Nat} {ms dim : Int} (h : ms ≤ 3) : ∀ (l : List Cl) (was : Int), (cellsPut nd ms dim was l).length ≤ 99 * l.length
  | [], _ => by simp [cellsPut]
  | c :: l, was => by
    rw [cellsPut, List.length_append, List.length_append, List.length_cons]
    have := nput_le9 (c.key - was - 1).toNat
    have := cellPut_len (nd := nd) (dim := dim) (c := c) h
    have := cellsPut_len (nd := nd) (dim := dim) h l c.key
    omega
theorem listPut_len {nd : Nat} {ms dim : Int} (h : ms ≤ 3) (l : List Cl) : (listPut nd ms dim l).length ≤ 9 + 99 * l.length := by
  unfold listPut
  rw [List.length_append]
  have := nput_le9 l.length
  have := cellsPut_len (nd := nd) (dim := dim) h l (-1)
  omega
theorem flatPut_len {nd : Nat} {ms dim : Int} (h : ms ≤ 3) {m : Nat} : ∀ (ls : List (List Cl)), (∀ l ∈ ls, l.length ≤ m) → (ls.flatMap (listPut nd ms dim)).length ≤ (9 + 99 * m) * ls.length
  | [], _ => by simp
  | l :: ls, hm => by
    rw [List.flatMap_cons, List.length_append, List.length_cons]
    have h1 := listPut_len (nd := nd) (dim := dim) h l
    have h2 := hm l (List.mem_cons_self ..)
    have h3 := flatPut_len (nd := nd) (dim := dim) h ls fun x hx => hm x (List.mem_cons_of_mem _ hx)
    rw [Nat.mul_add, Nat.mul_one]
    have h4 : 99 * l.length ≤ 99 * m := Nat.mul_le_mul_left _ h2
    omega
theorem shape_tier {xs : List (List Int)} {ms : Int} (h : shapeOk xs ms = true) {d : Nat} {sz : List Int} (hd : xs[d]? = some sz) : 1 ≤ sz.length ∧ sz.length ≤ 4 ∧ ∀ (k : Nat) (z : Int), sz[k]? = some z → 1 ≤ z ∧ z ≤ 200 := by
  unfold shapeOk at h
  simp only [Bool.and_eq_true, decide_eq_true_eq, List.all_eq_true] at h
  have ht := h.2 sz (List.mem_of_getElem? hd)
  unfold tierShape at ht
  simp only [Bool.and_eq_true, decide_eq_true_eq, List.all_eq_true, List.mem_range] at ht
  refine ⟨ht.1.1, ht.1.2, fun k z hz => ?_⟩
  have hk := (List.getElem?_eq_some_iff.1 hz).1
  have := ht.2 k hk
  rw [hz] at this
  simp only [Option.getD_some] at this
  exact this.1
theorem shape_ms {xs : List (List Int)} {ms : Int} (h : shapeOk xs ms = true) : 1 ≤ xs.length ∧ xs.length ≤ 16 ∧ 1 ≤ ms ∧ ms ≤ 3 := by
  unfold shapeOk at h
  simp only [Bool.and_eq_true, decide_eq_true_eq] at h
  exact ⟨h.1.1.1.1, h.1.1.1.2, h.1.1.2, h.1.2⟩
theorem node_lists {xs : List (List Int)} {ms : Int} {n : NC} (h : nodeErr xs ms n = 0) (hs : shapeOk xs ms = true) : n.ls.length ≤ 4 ∧ ∀ l ∈ n.ls, l.length ≤ 200 := by
  obtain ⟨h0, sz, h1, h2, h3, h4, h5, h6⟩ := nodeErr_inv h
  obtain ⟨t1, t2, t3⟩ := shape_tier hs h1
  refine ⟨by omega, fun l hl => ?_⟩
  obtain ⟨k, hk, hkl⟩ := List.getElem_of_mem hl
  obtain ⟨z, hz, hL⟩ := h4 k l (by rw [List.getElem?_eq_getElem hk, hkl])
  have hzz := t3 k z hz
  have := riseC_len l (-1) (listErr_rise hL).1 (by omega)
  omega
theorem bodyPut_len {xs : List (List Int)} {ms : Int} {n : NC} (h : nodeErr xs ms n = 0) (hs : shapeOk xs ms = true) : (bodyPut xs.length ms n).length ≤ 100000 := by
  have hl := node_lists h hs
  have hm := (shape_ms hs).2.2.2
  unfold bodyPut
  rw [List.length_append, List.length_append]
  have h1 := nput_le9 n.dim.toNat
  have h2 := cellPut_len (nd := xs.length) (dim := n.dim) (c := n.all) hm
  have h3 := flatPut_len (nd := xs.length) (dim := n.dim) hm (m := 200) n.ls hl.2
  have h4 : (9 + 99 * 200) * n.ls.length ≤ (9 + 99 * 200) * 4 := Nat.mul_le_mul_left _ hl.1
  omega

theorem keyAt_back {was key : Int} (h1 : -1 ≤ was) (h2 : was < key) (h3 : I64 key) : keyAt was ((key - was - 1).toNat : Nat) = key := by
  unfold keyAt
  obtain ⟨a, b⟩ := h3
  rw [IntWalk.wrap64_in (was + 1) (by omega), IntWalk.wrap64_in _ (by omega)]
  omega
/-- A cell read that may be, where what is led to can be told. -/
theorem pcell_put {nd : Nat} {ms dim : Int} {c : Cl} (ho : c.ok) (h : cellOk nd ms dim c = true) (hc : dim ≠ (nd : Int) - 1 → c.ch ≤ 1048576) (t : List UInt8) : pcell nd ms dim c.key (cellPut nd ms dim c ++ t) = .ok (c, t) := by
  unfold cellOk at h
  unfold pcell cellPut
  obtain ⟨key, ch, ag⟩ := c
  simp only at *
  by_cases hd : dim = (nd : Int) - 1
  · rw [if_pos hd] at h
    rw [if_pos hd, if_pos hd]
    simp only [Bool.and_eq_true, decide_eq_true_eq] at h
    rw [pag_agPut ho.ag h.2, pbind2_ok, h.1]
  · rw [if_neg hd] at h
    rw [if_neg hd, if_neg hd]
    simp only [Bool.and_eq_true, decide_eq_true_eq] at h
    have := hc hd
    rw [q_pnum (by omega) (by omega), pbind2_ok, h.2, Int.toNat_of_nonneg h.1]
theorem pcells_put {nd : Nat} {ms dim size : Int} : ∀ (l : List Cl) (was : Int) (acc : List Cl) (t : List UInt8), (∀ c ∈ l, c.ok) → (∀ c ∈ l, cellOk nd ms dim c = true) → (dim ≠ (nd : Int) - 1 → ∀ c ∈ l, c.ch ≤ 1048576) → -1 ≤ was → RiseC size was l →
    pcells nd ms dim size l.length was acc (cellsPut nd ms dim was l ++ t) = .ok (acc ++ l, t)
  | [], _, acc, t, _, _, _, _, _ => by simp [pcells, cellsPut]
  | c :: l, was, acc, t, ho, hk, hc, hw, hr => by
    have o1 := ho c (List.mem_cons_self ..)
    have k1 := hk c (List.mem_cons_self ..)
    have hI := o1.key
    rw [List.length_cons, pcells, cellsPut, List.append_assoc, List.append_assoc]
    obtain ⟨r1, r2, r3⟩ := hr
    have hI2 : c.key ≤ 9223372036854775807 := hI.2
    rw [q_pnum (by omega) (by omega), pbind_ok, keyAt_back hw r1 hI, pcell_put o1 k1 (fun hd => hc hd c (List.mem_cons_self ..)), pbind_ok,
      pcells_put l c.key (acc ++ [c]) t (fun x hx => ho x (List.mem_cons_of_mem _ hx)) (fun x hx => hk x (List.mem_cons_of_mem _ hx)) (fun hd x hx => hc hd x (List.mem_cons_of_mem _ hx)) (by omega) r3]
    simp
theorem plist_put {nd : Nat} {ms dim size : Int} {l : List Cl} (h : listErr nd ms dim size l = 0) (ho : ∀ c ∈ l, c.ok) (hc : dim ≠ (nd : Int) - 1 → ∀ c ∈ l, c.ch ≤ 1048576) (hz : 0 ≤ size ∧ size ≤ 200) (t : List UInt8) : plist nd ms dim size (listPut nd ms dim l ++ t) = .ok (l, t) := by
  obtain ⟨hr, h0⟩ := listErr_rise h
  have hlen := riseC_len l (-1) hr (by omega)
  unfold plist listPut
  rw [List.append_assoc, q_pnum (by omega) (by omega), pbind_ok, pcells_put l (-1) [] t ho (listErr_cells h) hc (by omega) hr, List.nil_append]
theorem plists_put {nd : Nat} {ms dim : Int} : ∀ (sz : List Int) (ls : List (List Cl)) (acc : List (List Cl)) (t : List UInt8), ls.length = sz.length → (∀ (k : Nat) (l : List Cl), ls[k]? = some l → ∃ z : Int, sz[k]? = some z ∧ listErr nd ms dim z l = 0) → (∀ (k : Nat) (z : Int), sz[k]? = some z → 1 ≤ z ∧ z ≤ 200) → (∀ l ∈ ls, ∀ c ∈ l, c.ok) → (dim ≠ (nd : Int) - 1 → ∀ l ∈ ls, ∀ c ∈ l, c.ch ≤ 1048576) →
    plists nd ms dim sz acc (ls.flatMap (listPut nd ms dim) ++ t) = .ok (acc ++ ls, t)
  | [], [], acc, t, _, _, _, _, _ => by simp [plists]
  | z :: sz, [], acc, t, h, _, _, _, _ => by cases h
  | [], l :: ls, acc, t, h, _, _, _, _ => by cases h
  | z :: sz, l :: ls, acc, t, h, hL, hz, ho, hc => by
    obtain ⟨z', hz', hl'⟩ := hL 0 l rfl
    have hzz : z = z' := by injection hz'
    subst hzz
    have hz0 := hz 0 z rfl
    rw [plists, List.flatMap_cons, List.append_assoc, plist_put hl' (ho l (List.mem_cons_self ..)) (fun hd => hc hd l (List.mem_cons_self ..)) (by omega), pbind_ok,
      plists_put sz ls (acc ++ [l]) t (by simpa using h) (fun k x hx => by simpa using hL (k + 1) x (by simpa using hx)) (fun k x hx => hz (k + 1) x (by simpa using hx)) (fun x hx => ho x (List.mem_cons_of_mem _ hx)) (fun hd x hx => hc hd x (List.mem_cons_of_mem _ hx))]
    simp
structure NcOk (n : NC) : Prop where
  ls : ∀ l ∈ n.ls, ∀ c ∈ l, c.ok
  all : n.all.ok
/-- A node that may be is read back. -/
theorem pbody_put {xs : List (List Int)} {ms : Int} {n : NC} (h : nodeErr xs ms n = 0) (hs : shapeOk xs ms = true) (ho : NcOk n) (hc : n.dim ≠ (xs.length : Int) - 1 → ∀ c ∈ eachN n, c.ch ≤ 1048576) (t : List UInt8) : pbody xs ms (bodyPut xs.length ms n ++ t) = .ok (n, t) := by
  obtain ⟨h0, sz, h1, h2, h3, h4, h5, h6⟩ := nodeErr_inv h
  obtain ⟨t1, t2, t3⟩ := shape_tier hs h1
  have hd := (List.getElem?_eq_some_iff.1 h1).1
  have h16 := (shape_ms hs).2.1
  unfold pbody bodyPut
  rw [List.append_assoc, q_pnum (by omega) (by omega), pbind_ok, h1, List.append_assoc, Int.toNat_of_nonneg h0, Option.getD_some,
    plists_put sz n.ls [] _ h2 h4 t3 ho.ls (fun e l hl c hcl => hc e c (List.mem_append_left _ (List.mem_flatten.2 ⟨l, hl, hcl⟩)))]
  unfold pafter
  rw [pbind_ok, ← h5, pcell_put ho.all h6 (fun e => hc e n.all (List.mem_append_right _ (List.mem_singleton.2 rfl))), pbind2_ok, List.nil_append]
theorem ptext_take {l : List UInt8} (h : l.length < 18446744073709551616) (t : List UInt8) : ntake (ptext l ++ t) = (l.length, nsize l.length, true) := by
  unfold ptext
  rw [List.append_assoc]
  exact ntake_nput h _
theorem ptext_length (l : List UInt8) : (ptext l).length = l.length + nsize l.length := by
  unfold ptext
  rw [List.length_append, nput_length]
  omega
theorem ptext_drop (l t : List UInt8) : ((ptext l ++ t).take (l.length + nsize l.length)).drop (nsize l.length) = l := by
  rw [← ptext_length, List.take_left']
  · unfold ptext
    rw [← nput_length, List.drop_left]
  · rfl
theorem nodeSize_put {l : List UInt8} (h : l.length ≤ 1000000) (t : List UInt8) : nodeSize (ptext l ++ t) = some (ptext l).length := by
  unfold nodeSize
  rw [ptext_take (by omega), if_pos ⟨rfl, by show l.length ≤ _; omega⟩, ptext_length]
theorem nodeTake_put {xs : List (List Int)} {ms : Int} {n : NC} (h : nodeErr xs ms n = 0) (hs : shapeOk xs ms = true) (ho : NcOk n) (hc : n.dim ≠ (xs.length : Int) - 1 → ∀ c ∈ eachN n, c.ch ≤ 1048576) (t : List UInt8) :
    nodeTake xs ms (nodePut xs.length ms n ++ t) = some (n, (nodePut xs.length ms n).length) := by
  have hb := bodyPut_len h hs
  have hx := (shape_ms hs).1
  have hp := pbody_put h hs ho hc []
  rw [List.append_nil] at hp
  unfold nodeTake nodePut
  rw [nodeSize_put (by omega)]
  simp only
  rw [if_neg (by rw [List.length_append]; omega), ptext_take (by omega), ptext_length]
  simp only
  rw [ptext_drop, hp]
  simp only
  rw [if_pos ⟨trivial, h⟩]
end Go.Proofs.Ytlclllkjnhgbjaa

namespace Go.Proofs.Ytlclllkjnhgbjaa
open Go.RowKit
set_option linter.unusedVariables false
set_option linter.unusedSimpArgs false

set_option maxRecDepth 100000 in
set_option maxHeartbeats 2000000 in
theorem celput_any (s : Shp) (d : Int) (c : Cl) (w : World) (hs : s.rd w) (hd : I64 d) (hc : c.ok) (hk : cellOk s.sz.n s.ms d c = true) :
    Calls Try.prog 36 #[.agg s.cs, .int .i64 d, .agg c.cs] w fun e w' => e = .returned (.string ⟨(cellPut s.sz.n s.ms d c).toArray⟩) ∧ Bel w w' := by
  have HL := Lib.hid (fun w' (hb : Bel w w') => last_any s d w' (hs.mono hb) hd)
  have HM := Lib.hid (fun w9 (h : mayAg s.ms c.ag = true) => aput_any c.ag s.ms w9 hc.ag hs.ms)
  have HN := Lib.hid (fun w' => putNum_any c.ch w' hc.ch.1 hc.ch.2)
  have H := Lib.hid (((SL.start No w).alloc s.cs 24).alloc c.cs 32)
  (try simp only [List.set_cons_zero, List.set_cons_succ, List.cons_append, List.nil_append, List.eraseIdx_cons_zero, List.eraseIdx_cons_succ, List.setIfInBounds_toArray, World.size_alloc, selR, List.getD_cons_zero, List.getD_cons_succ] at H)
  have n63 := hs.sz.n63
  have hcs : s.cs = #[.slice s.sz.A s.sz.n s.sz.c, .int .i64 s.ms] := rfl
  have HCS := Lib.hid hcs
  clear hcs
  have hR : Hid (cellPut s.sz.n s.ms d c = if d = (s.sz.n : Int) - 1 then agPut s.ms.toNat c.ag else nput c.ch.toNat) := rfl
  have hK : Hid ((if d = (s.sz.n : Int) - 1 then decide (c.ch = 0) && mayAg s.ms c.ag else decide (0 ≤ c.ch) && decide (c.ag = .zero)) = true) := hk
  generalize cellPut s.sz.n s.ms d c = R at *
  clear hs hc hk
  go_enter Try.func36, Try.ntmps36
  go_upto_region 1 with fail
  rw [← HCS.out] at *
  generalize w.heap.size + 1 = y at *
  generalize w.heap.size = x at *
  generalize World.alloc (World.alloc _ _) _ = w1 at *
  go_wp2_with ((with_reducible show wpList _ _ _ (⟨some 9, _, _, _, _, _⟩ :: _) _ _); (refine wpList_load_blk rfl rowShp2 (.tmp 3) rfl _ rfl (H.out.blk 0 rfl) rfl ?_))
  refine (HL.out _ H.out.to).mono ?_; rintro e w2 ⟨rfl, hb2⟩
  replace H := Lib.hid (H.out.bel hb2); (try simp only [List.set_cons_zero, List.set_cons_succ, List.cons_append, List.nil_append, List.eraseIdx_cons_zero, List.eraseIdx_cons_succ, List.setIfInBounds_toArray, World.size_alloc, selR, List.getD_cons_zero, List.getD_cons_succ] at H)
  clear hb2 HL
  have HAG : Hid (w2.rangeAt y 2 c.ag.cs.toList) := fun j v hv => by
    have := (H.out.blk 1 rfl).range (j + 2) v (by rw [cl_ag]; exact hv)
    rw [show 0 + (j + 2) = 2 + j by omega] at this
    exact this
  have c1 : w2.cell? ⟨y, 1, none⟩ = some (.int .i64 c.ch) := (H.out.blk 1 rfl).cell 1
  have cm : w2.cell? ⟨x, 1, none⟩ = some (.int .i64 s.ms) := (H.out.blk 0 rfl).cell 1
  cases hl : (d == (s.sz.n : Int) - 1) with
  | true =>
    have hl2 : d = (s.sz.n : Int) - 1 := by simpa using hl
    have hA : mayAg s.ms c.ag = true := by have := hK.out; rw [if_pos hl2] at this; simp at this; exact this.2
    have hR2 : Hid (R = agPut s.ms.toNat c.ag) := by show _ = _; rw [hR.out, if_pos hl2]
    have HM2 := Lib.hid (fun w' => HM.out w' hA)
    have hV : agPutV s.ms c.ag = (agPut s.ms.toNat c.ag, 0) := by unfold agPutV; rw [if_pos hA]
    rw [hV] at HM2
    clear hR hA hl2 hK HM hV
    go_wp2_with ((with_reducible show wpList _ _ _ (⟨some 16, _, _, _, _, _⟩ :: _) _ _); refine wpList_load_row_at rfl rowAg (.tmp 15) rfl y 2 rfl c.ag.cs rfl HAG.out ?_)
    refine (HM2.out _).mono ?_; rintro e w3 ⟨rfl, hb3⟩
    replace H := Lib.hid (H.out.bel hb3); (try simp only [List.set_cons_zero, List.set_cons_succ, List.cons_append, List.nil_append, List.eraseIdx_cons_zero, List.eraseIdx_cons_succ, List.setIfInBounds_toArray, World.size_alloc, selR, List.getD_cons_zero, List.getD_cons_succ] at H)
    go_wp2_with fail
    go_ret
    rw [hR2.out]
    exact ⟨rfl, H.out.to⟩
  | false =>
    have hR2 : Hid (R = nput c.ch.toNat) := by show _ = _; rw [hR.out, if_neg (by simpa using hl)]
    clear hR hK HM HAG cm
    go_wp2_with fail
    refine (HN.out _).mono ?_; rintro e w3 ⟨rfl, hb3⟩
    replace H := Lib.hid (H.out.bel hb3); (try simp only [List.set_cons_zero, List.set_cons_succ, List.cons_append, List.nil_append, List.eraseIdx_cons_zero, List.eraseIdx_cons_succ, List.setIfInBounds_toArray, World.size_alloc, selR, List.getD_cons_zero, List.getD_cons_succ] at H)
    go_wp2_with fail
    go_ret
    rw [hR2.out]
    exact ⟨rfl, H.out.to⟩
set_option maxRecDepth 100000 in
set_option maxHeartbeats 2000000 in
theorem one_any (s : Shp) (d : Int) (c : Cl) (w : World) (hs : s.rd w) (hd : I64 d) (hc : c.ok) (hk : cellOk s.sz.n s.ms d c = true) :
    Calls Try.prog 40 #[.agg s.cs, .int .i64 d, .agg c.cs] w fun e w' => e = .returned (.string ⟨(cellPut s.sz.n s.ms d c).toArray⟩) ∧ Bel w w' := by
  have HL := Lib.hid (fun w' (hb : Bel w w') => last_any s d w' (hs.mono hb) hd)
  have HM := Lib.hid (fun w9 (h : mayAg s.ms c.ag = true) => raput_any c.ag s.ms w9 hc.ag hs.ms h)
  have HN := Lib.hid (fun w' => rputNum_any c.ch w' hc.ch.1 hc.ch.2)
  have H := Lib.hid (((SL.start No w).alloc s.cs 24).alloc c.cs 32)
  (try simp only [List.set_cons_zero, List.set_cons_succ, List.cons_append, List.nil_append, List.eraseIdx_cons_zero, List.eraseIdx_cons_succ, List.setIfInBounds_toArray, World.size_alloc, selR, List.getD_cons_zero, List.getD_cons_succ] at H)
  have n63 := hs.sz.n63
  have hcs : s.cs = #[.slice s.sz.A s.sz.n s.sz.c, .int .i64 s.ms] := rfl
  have HCS := Lib.hid hcs
  clear hcs
  have hR : Hid (cellPut s.sz.n s.ms d c = if d = (s.sz.n : Int) - 1 then agPut s.ms.toNat c.ag else nput c.ch.toNat) := rfl
  have hK : Hid ((if d = (s.sz.n : Int) - 1 then decide (c.ch = 0) && mayAg s.ms c.ag else decide (0 ≤ c.ch) && decide (c.ag = .zero)) = true) := hk
  generalize cellPut s.sz.n s.ms d c = R at *
  clear hs hc hk
  go_enter Try.func40, Try.ntmps40
  go_upto_region 1 with fail
  rw [← HCS.out] at *
  generalize w.heap.size + 1 = y at *
  generalize w.heap.size = x at *
  generalize World.alloc (World.alloc _ _) _ = w1 at *
  have cs0 : w1.cell? ⟨x, 0, none⟩ = some (.slice s.sz.A s.sz.n s.sz.c) := (H.out.blk 0 rfl).cell 0
  have HAG : Hid (w1.rangeAt y 2 c.ag.cs.toList) := fun j v hv => by
    have := (H.out.blk 1 rfl).range (j + 2) v (by rw [cl_ag]; exact hv)
    rw [show 0 + (j + 2) = 2 + j by omega] at this
    exact this
  have c1 : w1.cell? ⟨y, 1, none⟩ = some (.int .i64 c.ch) := (H.out.blk 1 rfl).cell 1
  have cm : w1.cell? ⟨x, 1, none⟩ = some (.int .i64 s.ms) := (H.out.blk 0 rfl).cell 1
  cases hl : (d == (s.sz.n : Int) - 1) with
  | true =>
    have hl2 : d = (s.sz.n : Int) - 1 := by simpa using hl
    have hA : mayAg s.ms c.ag = true := by have := hK.out; rw [if_pos hl2] at this; simp at this; exact this.2
    have hR2 : Hid (R = agPut s.ms.toNat c.ag) := by show _ = _; rw [hR.out, if_pos hl2]
    have HM2 := Lib.hid (fun w' => HM.out w' hA)
    
    
    clear hR hA hl2 hK HM 
    go_wp2_with ((with_reducible show wpList _ _ _ (⟨some 16, _, _, _, _, _⟩ :: _) _ _); refine wpList_load_row_at rfl rowAg (.tmp 15) rfl y 2 rfl c.ag.cs rfl HAG.out ?_)
    refine (HM2.out _).mono ?_; rintro e w3 ⟨rfl, hb3⟩
    replace H := Lib.hid (H.out.bel hb3); (try simp only [List.set_cons_zero, List.set_cons_succ, List.cons_append, List.nil_append, List.eraseIdx_cons_zero, List.eraseIdx_cons_succ, List.setIfInBounds_toArray, World.size_alloc, selR, List.getD_cons_zero, List.getD_cons_succ] at H)
    go_wp2_with fail
    go_ret
    rw [hR2.out]
    exact ⟨rfl, H.out.to⟩
  | false =>
    have hR2 : Hid (R = nput c.ch.toNat) := by show _ = _; rw [hR.out, if_neg (by simpa using hl)]
    clear hR hK HM HAG cm
    go_wp2_with fail
    refine (HN.out _).mono ?_; rintro e w3 ⟨rfl, hb3⟩
    replace H := Lib.hid (H.out.bel hb3); (try simp only [List.set_cons_zero, List.set_cons_succ, List.cons_append, List.nil_append, List.eraseIdx_cons_zero, List.eraseIdx_cons_succ, List.setIfInBounds_toArray, World.size_alloc, selR, List.getD_cons_zero, List.getD_cons_succ] at H)
    go_wp2_with fail
    go_ret
    rw [hR2.out]
    exact ⟨rfl, H.out.to⟩

end Go.Proofs.Ytlclllkjnhgbjaa

namespace Go.Proofs.Ytlclllkjnhgbjaa
open Go.RowKit
set_option linter.unusedVariables false
set_option linter.unusedSimpArgs false


theorem wpQuiet_cat {P : Program} {ops : Array Oper} {w : World} {Q : Act → Prop} {a : Act} {o : Oper} {rest : List Oper} (hw : Region.wanted o (yielded ops a.tmps) = true) (t t2 : TypeId) (x y : Operand) (ho : o.op = .binOp .add t x y t2) {l m : List UInt8} (hx : a.eval x = .string ⟨l.toArray⟩) (hy : a.eval y = .string ⟨m.toArray⟩) (hl : l.length + m.length ≤ 1000000000)
    (h : wpQuiet P ops (fun w' => ∃ u : Over w, w' = u.wd) Q rest (a.put o.dst (.string ⟨(l ++ m).toArray⟩))) : wpQuiet P ops (fun w' => ∃ u : Over w, w' = u.wd) Q (o :: rest) a := by
  refine wpQuiet_run hw (.string ⟨(l ++ m).toArray⟩) (fun u => ?_) h
  have h1 : ¬ (9223372036854775807 < l.length + m.length) := by omega
  have h2 : (⟨l.toArray⟩ : ByteArray).size = l.length := rfl
  have h3 : (⟨m.toArray⟩ : ByteArray).size = m.length := rfl
  unfold execOp
  simp only [ho, hx, hy]
  simp [go_sem, h2, h3, h1, str_append]

set_option maxRecDepth 100000 in
set_option maxHeartbeats 4000000 in
theorem cput_any (s : Shp) (n : Nd) (w : World) (hs : s.rd w) (hn : n.rd w) (hE : nodeErr s.con s.ms n.con = 0) (hb : (bodyPut s.sz.n s.ms n.con).length ≤ 1000000) :
    Calls Try.prog 12 #[.agg s.cs, .agg n.cs] w fun e w' => e = .returned (.tuple #[.string ⟨(nodePut s.sz.n s.ms n.con).toArray⟩, .int .i64 0]) ∧ Bel w w' := by
  have hxn : s.con.length = s.sz.n := by rw [List.length_map]; exact hs.sz.len
  have hcl := nodeErr_cells hE
  have hin := nodeErr_inv hE
  rw [hxn] at hcl hin
  have HC := Lib.hid (fun w' (hb : Bel w w') => ncheck_any s n w' (hs.mono hb) (hn.mono hb))
  rw [hE] at HC
  have HOK := Lib.hid (nd_cells hn)
  have HCO := Lib.hid (fun (c : Cl) w' (hb : Bel w w') (hc : c ∈ eachN n.con) => celput_any s n.dim c w' (hs.mono hb) hn.dim (HOK.out c hc) (hcl.2 c hc))
  have HRI : Hid (∀ (k : Nat) (v : Row Cl), n.ls.l[k]? = some v → ∃ z : Int, z ≤ 9223372036854775807 ∧ RiseC z (-1) v.l) := fun k v hk => by
    obtain ⟨_, sz, hsz, _, _, h4, _⟩ := hin
    obtain ⟨z, hzz, hz⟩ := h4 k v.l (by show (n.ls.l.map Row.l)[k]? = _; rw [List.getElem?_map, hk]; rfl)
    have e1 : (s.sz.l.map Row.l)[n.dim.toNat]? = some sz := hsz
    rw [List.getElem?_map] at e1
    cases e2 : s.sz.l[n.dim.toNat]? with
    | none => rw [e2] at e1; cases e1
    | some row =>
      rw [e2] at e1
      injection e1 with e1
      have e3 : I64 z := (hs.sz.all row (List.mem_of_getElem? e2)).all z (by rw [show row.l = sz from e1]; exact List.mem_of_getElem? hzz)
      exact ⟨z, e3.2, (listErr_rise hz).1⟩
  have HMEM : Hid (∀ (k j : Nat) (v : Row Cl) (q : Cl), n.ls.l[k]? = some v → v.l[j]? = some q → q ∈ eachN n.con) := fun k j v q hk hj => List.mem_append_left _ (List.mem_flatten.2 ⟨v.l, List.mem_map.2 ⟨v, List.mem_of_getElem? hk, rfl⟩, List.mem_of_getElem? hj⟩)
  have HLS := Lib.hid (fun w' (hb : Bel w w') => hn.ls.mono hb)
  have hll : Hid (n.ls.l.length = n.ls.n) := hn.ls.len
  have n63 := hn.ls.n63
  have d0 := hn.dim
  unfold I64 at d0
  have hdim : 0 ≤ n.dim := hcl.1.1
  have H := Lib.hid (((SL.start No w).alloc s.cs 24).alloc n.cs 34)
  (try simp only [List.set_cons_zero, List.set_cons_succ, List.cons_append, List.nil_append, List.eraseIdx_cons_zero, List.eraseIdx_cons_succ, List.setIfInBounds_toArray, World.size_alloc, selR, List.getD_cons_zero, List.getD_cons_succ] at H)
  obtain ⟨T, hT⟩ : ∃ T, T = bodyPut s.sz.n s.ms n.con := ⟨_, rfl⟩
  have hV : nodePut s.sz.n s.ms n.con = ptext T := by rw [hT]; rfl
  rw [hV]
  rw [← hT] at hb
  have HT : Hid (T = nput n.dim.toNat ++ ((n.ls.l.drop 0).flatMap (fun v => listPut (s.sz.n) s.ms n.dim v.l) ++ cellPut (s.sz.n) s.ms n.dim n.all)) := by
    show _ = _
    rw [hT]
    show _ ++ ((n.ls.l.map Row.l).flatMap (listPut (s.sz.n) s.ms n.dim) ++ _) = _
    rw [List.flatMap_map]
    rfl
  have hcs : s.cs = #[.slice s.sz.A s.sz.n s.sz.c, .int .i64 s.ms] := rfl
  have HCS := Lib.hid hcs
  clear hcs hs hn hE hxn hcl hin hV hT
  go_enter Try.func12, Try.ntmps12
  go_upto_region 1 with fail
  (try rw [← HCS.out] at *)
  generalize w.heap.size + 1 = y at *
  generalize w.heap.size = x at *
  generalize World.alloc (World.alloc _ _) _ = w1 at *
  go_wp2_with (first | ((with_reducible show wpList _ _ _ (⟨some 13, _, _, _, _, _⟩ :: _) _ _); (refine wpList_load_blk rfl rowShp2 (.tmp 2) rfl _ rfl (H.out.blk 0 rfl) rfl ?_)) | ((with_reducible show wpList _ _ _ (⟨some 14, _, _, _, _, _⟩ :: _) _ _); (refine wpList_load_blk rfl rowNd (.tmp 3) rfl _ rfl (H.out.blk 1 rfl) rfl ?_)))
  refine (HC.out _ H.out.to).mono ?_; rintro e w2 ⟨rfl, hb2⟩
  replace H := Lib.hid (H.out.bel hb2); (try simp only [List.set_cons_zero, List.set_cons_succ, List.cons_append, List.nil_append, List.eraseIdx_cons_zero, List.eraseIdx_cons_succ, List.setIfInBounds_toArray, World.size_alloc, selR, List.getD_cons_zero, List.getD_cons_succ] at H)
  clear hb2 HC
  have cd : w2.cell? ⟨y, 0, none⟩ = some (.int .i64 n.dim) := (H.out.blk 1 rfl).cell 0
  go_wp2_with fail
  refine (putNum_any n.dim _ d0.1 d0.2).mono ?_; rintro e w3 ⟨rfl, hb3⟩
  replace H := Lib.hid (H.out.bel hb3); (try simp only [List.set_cons_zero, List.set_cons_succ, List.cons_append, List.nil_append, List.eraseIdx_cons_zero, List.eraseIdx_cons_succ, List.setIfInBounds_toArray, World.size_alloc, selR, List.getD_cons_zero, List.getD_cons_succ] at H)
  clear hb3 cd
  have cl : w3.cell? ⟨y, 1, none⟩ = some (.slice n.ls.A n.ls.n n.ls.c) := (H.out.blk 1 rfl).cell 1
  go_upto_region 6 with fail
  clear cl
  go_loopg [7, 25] n.ls.n (fun gg so si wr => ∃ (k : Nat) (l : List UInt8), gg = n.ls.n - k ∧ k ≤ n.ls.n ∧ si = .int .i64 k ∧ so = .string ⟨l.toArray⟩ ∧ Hid (SL No w wr [rBlk x 24 s.cs, rBlk y 34 n.cs]) ∧ Hid (T = l ++ ((n.ls.l.drop k).flatMap (fun v => listPut (s.sz.n) s.ms n.dim v.l) ++ cellPut (s.sz.n) s.ms n.dim n.all)))
  case atStart => exact ⟨0, _, rfl, by omega, rfl, rfl, H, HT⟩
  case round =>
    clear H HT
    obtain ⟨k, l, hgk, hk, rfl, rfl, H, HT⟩ := hrel
    obtain ⟨W0, hW0⟩ : ∃ W0, W0 = wr := ⟨_, rfl⟩
    subst hW0
    have Hgk := Lib.hid hgk
    clear hgk
    by_cases hlt : k < n.ls.n
    · obtain ⟨bl, ol, v, hAl, hvk, hvok, hvc⟩ := (HLS.out _ H.out.to).clsAt (k := k) hlt
      have HAL := Lib.hid hAl
      obtain ⟨z, hz63, hz⟩ := HRI.out k v hvk
      have HVM := Lib.hid (fun (j : Nat) (q : Cl) hj => HMEM.out k j v q hvk hj)
      have hvn := rdCls hvok
      have HV := Lib.hid (fun w' (hb : Bel W0 w') => (Row.ok.rds hvok).mono hb)
      have hvl : Hid (v.l.length = v.n) := (Row.ok.rds hvok).len
      have HT2 : Hid (T = (l ++ nput v.n) ++ (cellsPut (s.sz.n) s.ms n.dim (-1) (v.l.drop 0) ++ ((n.ls.l.drop (k + 1)).flatMap (fun v => listPut (s.sz.n) s.ms n.dim v.l) ++ cellPut (s.sz.n) s.ms n.dim n.all))) := by
        show _ = _
        rw [HT.out, drop_consL hvk, List.flatMap_cons, List.drop_zero]
        unfold listPut
        rw [hvl.out]
        simp only [List.append_assoc]
      have HZ : Hid (RiseC z (-1) (v.l.drop 0)) := hz
      have hlb : l.length + (nput v.n).length ≤ 1000000 := by have := congrArg List.length HT2.out; simp only [List.length_append] at this; omega
      have k0 : (0 : Int) ≤ k := by omega
      have k1 : (k : Int) < n.ls.n := by omega
      rw [hAl]
      clear hvk hvok hz HT
      go_wp2_with fail
      refine (putNum_any (v.n : Int) _ (by omega) (by omega)).mono ?_; rintro e w4 ⟨rfl, hb4⟩
      rw [Int.toNat_natCast]
      replace H := Lib.hid (H.out.bel hb4); (try simp only [List.set_cons_zero, List.set_cons_succ, List.cons_append, List.nil_append, List.eraseIdx_cons_zero, List.eraseIdx_cons_succ, List.setIfInBounds_toArray, World.size_alloc, selR, List.getD_cons_zero, List.getD_cons_succ] at H)
      replace HV := Lib.hid (fun w' (hb : Bel w4 w') => HV.out w' (hb4.trans hb))
      clear hb4 hvc
      go_upto_region 11 with fail
      (try rw [str_append])
      go_loopg [7, 10, 36] v.n (fun gg so sw si wx => ∃ (j : Nat) (l1 : List UInt8) (was : Int), gg = v.n - j ∧ j ≤ v.n ∧ si = .int .i64 j ∧ so = .string ⟨l1.toArray⟩ ∧ sw = .int .i64 was ∧ -1 ≤ was ∧ was ≤ 9223372036854775807 ∧ Hid (SL No w wx [rBlk x 24 s.cs, rBlk y 34 n.cs]) ∧ Hid (Bel w4 wx) ∧ Hid (T = l1 ++ (cellsPut (s.sz.n) s.ms n.dim was (v.l.drop j) ++ ((n.ls.l.drop (k + 1)).flatMap (fun v => listPut (s.sz.n) s.ms n.dim v.l) ++ cellPut (s.sz.n) s.ms n.dim n.all))) ∧ Hid (RiseC z was (v.l.drop j)))
      case atStart => exact ⟨0, _, -1, rfl, by omega, rfl, rfl, rfl, by omega, by omega, H, Bel.refl _, HT2, HZ⟩
      case round =>
        clear H HT2 HZ
        obtain ⟨j, l1, was, hgj, hj, rfl, rfl, rfl, hw0, hw1, H, HB, HT2, HZ⟩ := hrel
        obtain ⟨W1, hW1⟩ : ∃ W1, W1 = wr := ⟨_, rfl⟩
        subst hW1
        have Hgj := Lib.hid hgj
        clear hgj
        by_cases hjlt : j < v.n
        · obtain ⟨bb, oo, q, hA, hbb, hq, hqok, hqr⟩ := (HV.out _ HB.out).clAt (k := j) hjlt
          have hkey := hqok.key
          unfold I64 at hkey
          have hz := HZ.out
          rw [drop_consL hq] at hz
          obtain ⟨r1, r2, r3⟩ := hz
          have HZ2 : Hid (RiseC z q.key (v.l.drop (j + 1))) := r3
          have HT3 : Hid (T = (l1 ++ (nput (q.key - was - 1).toNat ++ cellPut (s.sz.n) s.ms n.dim q)) ++ (cellsPut (s.sz.n) s.ms n.dim q.key (v.l.drop (j + 1)) ++ ((n.ls.l.drop (k + 1)).flatMap (fun v => listPut (s.sz.n) s.ms n.dim v.l) ++ cellPut (s.sz.n) s.ms n.dim n.all))) := by
            show _ = _
            rw [HT2.out, drop_consL hq, cellsPut]
            simp only [List.append_assoc]
          have HNM : Hid (∀ (g : Int), g = q.key - was - 1 → ∀ w', Calls Try.prog 35 #[.int .i64 g] w' fun e w'' => e = .returned (.string ⟨(nput (q.key - was - 1).toNat).toArray⟩) ∧ Bel w' w'') := fun g hg w' => by subst hg; exact putNum_any (q.key - was - 1) w' (by omega) (by omega)
          generalize nput (q.key - was - 1).toNat = G at HT3 HNM
          have hlb2 : l1.length + (G.length + (cellPut (s.sz.n) s.ms n.dim q).length) ≤ 1000000 := by have := congrArg List.length HT3.out; simp only [List.length_append] at this; omega
          have hlb3 : G.length + (cellPut (s.sz.n) s.ms n.dim q).length ≤ 1000000 := by omega
          have hlb4 : l1.length + G.length ≤ 1000000 := by omega
          have hlb5 : l1.length + G.length + (cellPut (s.sz.n) s.ms n.dim q).length ≤ 1000000 := by omega
          have hlb6 : (l1 ++ G).length + (cellPut (s.sz.n) s.ms n.dim q).length ≤ 1000000 := by rw [List.length_append]; omega
          have hlb7 : l1.length + (G ++ cellPut (s.sz.n) s.ms n.dim q).length ≤ 1000000 := by rw [List.length_append]; omega
          have HQC := Lib.hid (fun w' (hb : Bel w w') => HCO.out q w' hb (HVM.out j q hq))
          have HR := Lib.hid hqr
          have HAv := Lib.hid hA
          have j0 : (0 : Int) ≤ j := by omega
          have j1 : (j : Int) < v.n := by omega
          have s1 : IntKind.i64.wrap (q.key - was) = q.key - was := IntWalk.i64_in _ (by omega)
          have s2 : IntKind.i64.wrap (q.key - was - 1) = q.key - was - 1 := IntWalk.i64_in _ (by omega)
          rw [hA]
          clear hq hqok hqr HZ HT2 hbb
          go_upto_region 13 with (first | ((with_reducible show wpList _ _ _ (⟨some 39, _, _, _, _, _⟩ :: _) _ _); (refine wpList_load_row_at rfl rowCl (.tmp 38) rfl bb (oo + j * 12) rfl q.cs rfl HR.out ?_)) | ((with_reducible show wpList _ _ _ (⟨_, .store _ (.tmp 12) _, _, _, _, _⟩ :: _) _ _); (refine wpList_store_new rfl rowCl (.tmp 12) (.tmp 39) rfl rfl rfl (q.cs) rfl rfl (cl_one q) ?_; replace H := Lib.hid (H.out.alloc (q.cs) 32); (try simp only [List.set_cons_zero, List.set_cons_succ, List.cons_append, List.nil_append, List.eraseIdx_cons_zero, List.eraseIdx_cons_succ, List.setIfInBounds_toArray, World.size_alloc, selR, List.getD_cons_zero, List.getD_cons_succ] at H))))
          (try simp only [Act.put, List.setIfInBounds_toArray, List.set_cons_zero, List.set_cons_succ])
          have HB2 := Lib.hid (HB.out.alloc (.cells q.cs 32))
          clear HR
          generalize W1.heap.size = g at *
          generalize World.alloc W1 _ = w5 at *
          have cd := (H.out.blk 1 rfl).cell 0; simp only [List.getElem?_toArray, List.getElem?_cons_zero, List.getElem?_cons_succ] at cd
          have ck := (H.out.blk 2 rfl).cell 0; simp only [List.getElem?_toArray, List.getElem?_cons_zero, List.getElem?_cons_succ] at ck
          have f_cd := fun u : Over w5 => Over.cell cd u
          have f_ck := fun u : Over w5 => Over.cell ck u
          refine wp_region_over (by kernel_rfl) (by kernel_rfl) ?_
          (try simp only [Act.put, List.setIfInBounds_toArray, List.set_cons_zero, List.set_cons_succ])
          repeat (first
            | ((with_reducible show wpQuiet _ _ _ _ (⟨some 47, _, _, _, _, _⟩ :: _) _); refine wpQuiet_load_row (by first | rfl | go_simp) rowShp2 (.tmp 2) rfl _ (0) rfl s.cs rfl (H.out.blk 0 rfl).lt (H.out.blk 0 rfl).range ?_; simp only [Act.put, List.setIfInBounds_toArray, List.set_cons_zero, List.set_cons_succ])
            | ((with_reducible show wpQuiet _ _ _ _ (⟨some 50, _, _, _, _, _⟩ :: _) _); refine wpQuiet_load_row (by first | rfl | go_simp) rowCl (.tmp 12) rfl _ (0) rfl q.cs rfl (H.out.blk 2 rfl).lt (H.out.blk 2 rfl).range ?_; simp only [Act.put, List.setIfInBounds_toArray, List.set_cons_zero, List.set_cons_succ])
            | ((with_reducible show wpQuiet _ _ _ _ (⟨some 52, _, _, _, _, _⟩ :: _) _); refine wpQuiet_cat (by first | rfl | go_simp) 9 9 (.tmp 46) (.tmp 51) rfl (l := G) (m := cellPut (s.sz.n) s.ms n.dim q) rfl rfl (by (try simp only [List.length_append]); omega) ?_; simp only [Act.put, List.setIfInBounds_toArray, List.set_cons_zero, List.set_cons_succ])
            | ((with_reducible show wpQuiet _ _ _ _ (⟨some 53, _, _, _, _, _⟩ :: _) _); refine wpQuiet_cat (by first | rfl | go_simp) 9 9 (.tmp 40) (.tmp 52) rfl (l := l1) (m := (G) ++ cellPut (s.sz.n) s.ms n.dim q) rfl rfl (by (try simp only [List.length_append]); omega) ?_; simp only [Act.put, List.setIfInBounds_toArray, List.set_cons_zero, List.set_cons_succ])
            | go_big_quiet_step ((first | (go_at_call 35; rename_i u; exact calls_over (HNM.out _ rfl _)) | (go_at_call 36; rename_i u; exact calls_over (HQC.out _ (H.out.to.trans u.bel))))))
          refine wpQuiet_nil ?_
          rintro w6 ⟨⟨_, hw6⟩, rfl⟩
          (try dsimp only)
          replace H := Lib.hid (H.out.bel hw6); (try simp only [List.set_cons_zero, List.set_cons_succ, List.cons_append, List.nil_append, List.eraseIdx_cons_zero, List.eraseIdx_cons_succ, List.setIfInBounds_toArray, World.size_alloc, selR, List.getD_cons_zero, List.getD_cons_succ] at H)
          clear f_cd f_ck cd ck
          replace HB := Lib.hid (HB2.out.trans hw6)
          have ck := (H.out.blk 2 rfl).cell 0; simp only [List.getElem?_toArray, List.getElem?_cons_zero, List.getElem?_cons_succ] at ck
          replace H := Lib.hid (H.out.sel [0, 1] (by decide) (by simp)); (try simp only [List.set_cons_zero, List.set_cons_succ, List.cons_append, List.nil_append, List.eraseIdx_cons_zero, List.eraseIdx_cons_succ, List.setIfInBounds_toArray, World.size_alloc, selR, List.getD_cons_zero, List.getD_cons_succ] at H)
          clear s1 s2 HB2 hw6 HNM HQC
          go_wp2_with fail
          rw [← HAv.out]
          go_roundg (v.n - (j + 1))
          case rel => exact ⟨j + 1, l1 ++ (G ++ cellPut (s.sz.n) s.ms n.dim q), q.key, rfl, by omega, by go_num, by simp only [str_append], rfl, by omega, by omega, H, HB, HT3, HZ2⟩
          case measure => rw [Hgj.out]; omega
        · have HT3 : Hid (T = l1 ++ ((n.ls.l.drop (k + 1)).flatMap (fun v => listPut (s.sz.n) s.ms n.dim v.l) ++ cellPut (s.sz.n) s.ms n.dim n.all)) := by
            show _ = _
            rw [HT2.out, List.drop_eq_nil_of_le (by rw [hvl.out]; omega), cellsPut, List.nil_append]
          clear HT2 HZ
          go_wp2_with fail
          rw [← HAL.out]
          go_roundg (n.ls.n - (k + 1))
          case rel => exact ⟨k + 1, l1, rfl, by omega, by go_num, rfl, H, HT3⟩
          case measure => rw [Hgk.out]; omega
    · have HT3 : Hid (T = l ++ cellPut (s.sz.n) s.ms n.dim n.all) := by
        show _ = _
        rw [HT.out, List.drop_eq_nil_of_le (by rw [hll.out]; omega), List.flatMap_nil, List.nil_append]
      have hlb : l.length + (cellPut (s.sz.n) s.ms n.dim n.all).length ≤ 1000000 := by have := congrArg List.length HT3.out; simp only [List.length_append] at this; omega
      have HAL : Hid (W0.rangeAt y 2 n.all.cs.toList) := fun j v hv => by
        have := (H.out.blk 1 rfl).range (j + 2) v (by rw [nd_all]; exact hv)
        rw [show 0 + (j + 2) = 2 + j by omega] at this
        exact this
      have cd : W0.cell? ⟨y, 0, none⟩ = some (.int .i64 n.dim) := (H.out.blk 1 rfl).cell 0
      clear HT
      go_wp2_with (first | ((with_reducible show wpList _ _ _ (⟨some 59, _, _, _, _, _⟩ :: _) _ _); (refine wpList_load_blk rfl rowShp2 (.tmp 2) rfl _ rfl (H.out.blk 0 rfl) rfl ?_)) | ((with_reducible show wpList _ _ _ (⟨some 63, _, _, _, _, _⟩ :: _) _ _); (refine wpList_load_row_at rfl rowCl (.tmp 62) rfl y (2) rfl n.all.cs rfl HAL.out ?_)))
      refine (HCO.out n.all _ H.out.to (List.mem_append_right _ (List.mem_singleton.2 rfl))).mono ?_; rintro e w4 ⟨rfl, hb4⟩
      replace H := Lib.hid (H.out.bel hb4); (try simp only [List.set_cons_zero, List.set_cons_succ, List.cons_append, List.nil_append, List.eraseIdx_cons_zero, List.eraseIdx_cons_succ, List.setIfInBounds_toArray, World.size_alloc, selR, List.getD_cons_zero, List.getD_cons_succ] at H)
      clear hb4 cd HAL
      go_wp2_with fail
      rw [str_append, ← HT3.out]
      refine (putText_any T _ (by omega)).mono ?_; rintro e w5 ⟨rfl, hb5⟩
      replace H := Lib.hid (H.out.bel hb5); (try simp only [List.set_cons_zero, List.set_cons_succ, List.cons_append, List.nil_append, List.eraseIdx_cons_zero, List.eraseIdx_cons_succ, List.setIfInBounds_toArray, World.size_alloc, selR, List.getD_cons_zero, List.getD_cons_succ] at H)
      go_wp2_with fail
      go_ret2
      exact ⟨rfl, H.out.to⟩

set_option maxRecDepth 100000 in
set_option maxHeartbeats 4000000 in
theorem rcput_any (s : Shp) (n : Nd) (w : World) (hs : s.rd w) (hn : n.rd w) (hE : nodeErr s.con s.ms n.con = 0) (hb : (bodyPut s.sz.n s.ms n.con).length ≤ 1000000) :
    Calls Try.prog 14 #[.agg s.cs, .agg n.cs] w fun e w' => e = .returned (.string ⟨(nodePut s.sz.n s.ms n.con).toArray⟩) ∧ Bel w w' := by
  have hxn : s.con.length = s.sz.n := by rw [List.length_map]; exact hs.sz.len
  have hcl := nodeErr_cells hE
  have hin := nodeErr_inv hE
  rw [hxn] at hcl hin
  have HC := Lib.hid (fun w' (hb : Bel w w') => ncheck_any s n w' (hs.mono hb) (hn.mono hb))
  rw [hE] at HC
  have HOK := Lib.hid (nd_cells hn)
  have HCO := Lib.hid (fun (c : Cl) w' (hb : Bel w w') (hc : c ∈ eachN n.con) => one_any s n.dim c w' (hs.mono hb) hn.dim (HOK.out c hc) (hcl.2 c hc))
  have HRI : Hid (∀ (k : Nat) (v : Row Cl), n.ls.l[k]? = some v → ∃ z : Int, z ≤ 9223372036854775807 ∧ RiseC z (-1) v.l) := fun k v hk => by
    obtain ⟨_, sz, hsz, _, _, h4, _⟩ := hin
    obtain ⟨z, hzz, hz⟩ := h4 k v.l (by show (n.ls.l.map Row.l)[k]? = _; rw [List.getElem?_map, hk]; rfl)
    have e1 : (s.sz.l.map Row.l)[n.dim.toNat]? = some sz := hsz
    rw [List.getElem?_map] at e1
    cases e2 : s.sz.l[n.dim.toNat]? with
    | none => rw [e2] at e1; cases e1
    | some row =>
      rw [e2] at e1
      injection e1 with e1
      have e3 : I64 z := (hs.sz.all row (List.mem_of_getElem? e2)).all z (by rw [show row.l = sz from e1]; exact List.mem_of_getElem? hzz)
      exact ⟨z, e3.2, (listErr_rise hz).1⟩
  have HMEM : Hid (∀ (k j : Nat) (v : Row Cl) (q : Cl), n.ls.l[k]? = some v → v.l[j]? = some q → q ∈ eachN n.con) := fun k j v q hk hj => List.mem_append_left _ (List.mem_flatten.2 ⟨v.l, List.mem_map.2 ⟨v, List.mem_of_getElem? hk, rfl⟩, List.mem_of_getElem? hj⟩)
  have HLS := Lib.hid (fun w' (hb : Bel w w') => hn.ls.mono hb)
  have hll : Hid (n.ls.l.length = n.ls.n) := hn.ls.len
  have n63 := hn.ls.n63
  have d0 := hn.dim
  unfold I64 at d0
  have hdim : 0 ≤ n.dim := hcl.1.1
  have H := Lib.hid (((SL.start No w).alloc s.cs 24).alloc n.cs 34)
  (try simp only [List.set_cons_zero, List.set_cons_succ, List.cons_append, List.nil_append, List.eraseIdx_cons_zero, List.eraseIdx_cons_succ, List.setIfInBounds_toArray, World.size_alloc, selR, List.getD_cons_zero, List.getD_cons_succ] at H)
  obtain ⟨T, hT⟩ : ∃ T, T = bodyPut s.sz.n s.ms n.con := ⟨_, rfl⟩
  have hV : nodePut s.sz.n s.ms n.con = ptext T := by rw [hT]; rfl
  rw [hV]
  rw [← hT] at hb
  have HT : Hid (T = nput n.dim.toNat ++ ((n.ls.l.drop 0).flatMap (fun v => listPut (s.sz.n) s.ms n.dim v.l) ++ cellPut (s.sz.n) s.ms n.dim n.all)) := by
    show _ = _
    rw [hT]
    show _ ++ ((n.ls.l.map Row.l).flatMap (listPut (s.sz.n) s.ms n.dim) ++ _) = _
    rw [List.flatMap_map]
    rfl
  have hcs : s.cs = #[.slice s.sz.A s.sz.n s.sz.c, .int .i64 s.ms] := rfl
  have HCS := Lib.hid hcs
  clear hcs hs hn hE hxn hcl hin hV hT
  go_enter Try.func14, Try.ntmps14
  go_upto_region 1 with fail
  (try rw [← HCS.out] at *)
  generalize w.heap.size + 1 = y at *
  generalize w.heap.size = x at *
  generalize World.alloc (World.alloc _ _) _ = w1 at *
  obtain ⟨w2, hw2⟩ : ∃ w2, w2 = w1 := ⟨_, rfl⟩
  subst hw2
  have cd : w2.cell? ⟨y, 0, none⟩ = some (.int .i64 n.dim) := (H.out.blk 1 rfl).cell 0
  go_wp2_with fail
  refine (rputNum_any n.dim _ d0.1 d0.2).mono ?_; rintro e w3 ⟨rfl, hb3⟩
  replace H := Lib.hid (H.out.bel hb3); (try simp only [List.set_cons_zero, List.set_cons_succ, List.cons_append, List.nil_append, List.eraseIdx_cons_zero, List.eraseIdx_cons_succ, List.setIfInBounds_toArray, World.size_alloc, selR, List.getD_cons_zero, List.getD_cons_succ] at H)
  clear hb3 cd
  have cl : w3.cell? ⟨y, 1, none⟩ = some (.slice n.ls.A n.ls.n n.ls.c) := (H.out.blk 1 rfl).cell 1
  go_upto_region 3 with fail
  clear cl
  go_loopg [5, 16] n.ls.n (fun gg so si wr => ∃ (k : Nat) (l : List UInt8), gg = n.ls.n - k ∧ k ≤ n.ls.n ∧ si = .int .i64 k ∧ so = .string ⟨l.toArray⟩ ∧ Hid (SL No w wr [rBlk x 24 s.cs, rBlk y 34 n.cs]) ∧ Hid (T = l ++ ((n.ls.l.drop k).flatMap (fun v => listPut (s.sz.n) s.ms n.dim v.l) ++ cellPut (s.sz.n) s.ms n.dim n.all)))
  case atStart => exact ⟨0, _, rfl, by omega, rfl, rfl, H, HT⟩
  case round =>
    clear H HT
    obtain ⟨k, l, hgk, hk, rfl, rfl, H, HT⟩ := hrel
    obtain ⟨W0, hW0⟩ : ∃ W0, W0 = wr := ⟨_, rfl⟩
    subst hW0
    have Hgk := Lib.hid hgk
    clear hgk
    by_cases hlt : k < n.ls.n
    · obtain ⟨bl, ol, v, hAl, hvk, hvok, hvc⟩ := (HLS.out _ H.out.to).clsAt (k := k) hlt
      have HAL := Lib.hid hAl
      obtain ⟨z, hz63, hz⟩ := HRI.out k v hvk
      have HVM := Lib.hid (fun (j : Nat) (q : Cl) hj => HMEM.out k j v q hvk hj)
      have hvn := rdCls hvok
      have HV := Lib.hid (fun w' (hb : Bel W0 w') => (Row.ok.rds hvok).mono hb)
      have hvl : Hid (v.l.length = v.n) := (Row.ok.rds hvok).len
      have HT2 : Hid (T = (l ++ nput v.n) ++ (cellsPut (s.sz.n) s.ms n.dim (-1) (v.l.drop 0) ++ ((n.ls.l.drop (k + 1)).flatMap (fun v => listPut (s.sz.n) s.ms n.dim v.l) ++ cellPut (s.sz.n) s.ms n.dim n.all))) := by
        show _ = _
        rw [HT.out, drop_consL hvk, List.flatMap_cons, List.drop_zero]
        unfold listPut
        rw [hvl.out]
        simp only [List.append_assoc]
      have HZ : Hid (RiseC z (-1) (v.l.drop 0)) := hz
      have hlb : l.length + (nput v.n).length ≤ 1000000 := by have := congrArg List.length HT2.out; simp only [List.length_append] at this; omega
      have k0 : (0 : Int) ≤ k := by omega
      have k1 : (k : Int) < n.ls.n := by omega
      rw [hAl]
      clear hvk hvok hz HT
      go_wp2_with fail
      refine (rputNum_any (v.n : Int) _ (by omega) (by omega)).mono ?_; rintro e w4 ⟨rfl, hb4⟩
      rw [Int.toNat_natCast]
      replace H := Lib.hid (H.out.bel hb4); (try simp only [List.set_cons_zero, List.set_cons_succ, List.cons_append, List.nil_append, List.eraseIdx_cons_zero, List.eraseIdx_cons_succ, List.setIfInBounds_toArray, World.size_alloc, selR, List.getD_cons_zero, List.getD_cons_succ] at H)
      replace HV := Lib.hid (fun w' (hb : Bel w4 w') => HV.out w' (hb4.trans hb))
      clear hb4 hvc
      go_upto_region 7 with fail
      (try rw [str_append])
      go_loopg [5, 27] v.n (fun gg so si wx => ∃ (j : Nat) (l1 : List UInt8) (was : Int), gg = v.n - j ∧ j ≤ v.n ∧ si = .int .i64 j ∧ so = .string ⟨l1.toArray⟩ ∧ -1 ≤ was ∧ was ≤ 9223372036854775807 ∧ Hid (SL No w wx [rBlk x 24 s.cs, rBlk y 34 n.cs]) ∧ Hid (Bel w4 wx) ∧ Hid (T = l1 ++ (cellsPut (s.sz.n) s.ms n.dim was (v.l.drop j) ++ ((n.ls.l.drop (k + 1)).flatMap (fun v => listPut (s.sz.n) s.ms n.dim v.l) ++ cellPut (s.sz.n) s.ms n.dim n.all))) ∧ Hid (RiseC z was (v.l.drop j)) ∧ Hid (if j = 0 then was = -1 else ∃ p : Cl, v.l[j - 1]? = some p ∧ was = p.key))
      case atStart => exact ⟨0, _, -1, rfl, by omega, rfl, rfl, by omega, by omega, H, Bel.refl _, HT2, HZ, by show (if (0 : Nat) = 0 then _ else _); rw [if_pos rfl]⟩
      case round =>
        clear H HT2 HZ
        obtain ⟨j, l1, was, hgj, hj, rfl, rfl, hw0, hw1, H, HB, HT2, HZ, HP⟩ := hrel
        obtain ⟨W1, hW1⟩ : ∃ W1, W1 = wr := ⟨_, rfl⟩
        subst hW1
        have Hgj := Lib.hid hgj
        clear hgj
        by_cases hjlt : j < v.n
        · obtain ⟨bb, oo, q, hA, hbb, hq, hqok, hqr⟩ := (HV.out _ HB.out).clAt (k := j) hjlt
          have hkey := hqok.key
          unfold I64 at hkey
          have hz := HZ.out
          rw [drop_consL hq] at hz
          obtain ⟨r1, r2, r3⟩ := hz
          have HZ2 : Hid (RiseC z q.key (v.l.drop (j + 1))) := r3
          have HT3 : Hid (T = (l1 ++ (nput (q.key - was - 1).toNat ++ cellPut (s.sz.n) s.ms n.dim q)) ++ (cellsPut (s.sz.n) s.ms n.dim q.key (v.l.drop (j + 1)) ++ ((n.ls.l.drop (k + 1)).flatMap (fun v => listPut (s.sz.n) s.ms n.dim v.l) ++ cellPut (s.sz.n) s.ms n.dim n.all))) := by
            show _ = _
            rw [HT2.out, drop_consL hq, cellsPut]
            simp only [List.append_assoc]
          have HNM : Hid (∀ (g : Int), g = q.key - was - 1 → ∀ w', Calls Try.prog 39 #[.int .i64 g] w' fun e w'' => e = .returned (.string ⟨(nput (q.key - was - 1).toNat).toArray⟩) ∧ Bel w' w'') := fun g hg w' => by subst hg; exact rputNum_any (q.key - was - 1) w' (by omega) (by omega)
          generalize nput (q.key - was - 1).toNat = G at HT3 HNM
          have hlb2 : l1.length + (G.length + (cellPut (s.sz.n) s.ms n.dim q).length) ≤ 1000000 := by have := congrArg List.length HT3.out; simp only [List.length_append] at this; omega
          have hlb3 : G.length + (cellPut (s.sz.n) s.ms n.dim q).length ≤ 1000000 := by omega
          have hlb4 : l1.length + G.length ≤ 1000000 := by omega
          have hlb5 : l1.length + G.length + (cellPut (s.sz.n) s.ms n.dim q).length ≤ 1000000 := by omega
          have hlb6 : (l1 ++ G).length + (cellPut (s.sz.n) s.ms n.dim q).length ≤ 1000000 := by rw [List.length_append]; omega
          have hlb7 : l1.length + (G ++ cellPut (s.sz.n) s.ms n.dim q).length ≤ 1000000 := by rw [List.length_append]; omega
          have HQC := Lib.hid (fun w' (hb : Bel w w') => HCO.out q w' hb (HVM.out j q hq))
          have HR := Lib.hid hqr
          have HAv := Lib.hid hA
          have j0 : (0 : Int) ≤ j := by omega
          have j1 : (j : Int) < v.n := by omega
          have s1 : IntKind.i64.wrap (q.key - was) = q.key - was := IntWalk.i64_in _ (by omega)
          have s2 : IntKind.i64.wrap (q.key - was - 1) = q.key - was - 1 := IntWalk.i64_in _ (by omega)
          rw [hA]
          have ck : W1.cell? ⟨bb, oo + j * 12, none⟩ = some (.int .i64 q.key) := by have := hqr 0 _ rfl; simpa using this
          have HVL := Lib.hid (HV.out _ HB.out)
          have HP2 : Hid (if j + 1 = 0 then q.key = -1 else ∃ p : Cl, v.l[j + 1 - 1]? = some p ∧ q.key = p.key) := by
            show (if j + 1 = 0 then _ else _)
            rw [if_neg (by omega)]
            exact ⟨q, hq, rfl⟩
          clear hq hqok hqr HZ HT2 HV
          by_cases hj0 : j = 0
          · have hw : was = -1 := by have := HP.out; rw [if_pos hj0] at this; exact this
            have s8 : decide ((0 : Int) < (j : Int)) = false := by simp; omega
            have s9 : decide (0 < j) = false := by simp; omega
            have HG : Hid (q.key = q.key - was - 1) := by show _ = _; omega
            clear HP HVL hj0 hw
            have cd := (H.out.blk 1 rfl).cell 0; simp only [List.getElem?_toArray, List.getElem?_cons_zero, List.getElem?_cons_succ] at cd
            go_upto_region 12 with fail
            have f_cd := fun u : Over W1 => Over.cell cd u
            refine wp_region_over (by kernel_rfl) (by kernel_rfl) ?_
            (try simp only [Act.put, List.setIfInBounds_toArray, List.set_cons_zero, List.set_cons_succ])
            repeat (first
              | ((with_reducible show wpQuiet _ _ _ _ (⟨some 54, _, _, _, _, _⟩ :: _) _); refine wpQuiet_load_row (by first | rfl | go_simp) rowShp2 (.tmp 2) rfl x (0) rfl s.cs rfl (H.out.blk 0 rfl).lt (H.out.blk 0 rfl).range ?_; simp only [Act.put, List.setIfInBounds_toArray, List.set_cons_zero, List.set_cons_succ])
              | ((with_reducible show wpQuiet _ _ _ _ (⟨some 60, _, _, _, _, _⟩ :: _) _); refine wpQuiet_load_row (by first | rfl | go_simp) rowCl (.tmp 59) rfl bb ((oo + j * 12)) rfl q.cs rfl hbb HR.out ?_; simp only [Act.put, List.setIfInBounds_toArray, List.set_cons_zero, List.set_cons_succ])
              | ((with_reducible show wpQuiet _ _ _ _ (⟨some 53, _, _, _, _, _⟩ :: _) _); refine wpQuiet_cat (by first | rfl | go_simp) 9 9 (.tmp 50) (.tmp 52) rfl (l := l1) (m := G) rfl rfl (by (try simp only [List.length_append]); omega) ?_; simp only [Act.put, List.setIfInBounds_toArray, List.set_cons_zero, List.set_cons_succ])
              | ((with_reducible show wpQuiet _ _ _ _ (⟨some 62, _, _, _, _, _⟩ :: _) _); refine wpQuiet_cat (by first | rfl | go_simp) 9 9 (.tmp 53) (.tmp 61) rfl (l := l1 ++ (G)) (m := cellPut (s.sz.n) s.ms n.dim q) rfl rfl (by (try simp only [List.length_append]); omega) ?_; simp only [Act.put, List.setIfInBounds_toArray, List.set_cons_zero, List.set_cons_succ])
              | go_big_quiet_step ((first | (go_at_call 39; rename_i u; exact calls_over (HNM.out _ HG.out _)) | (go_at_call 40; rename_i u; exact calls_over (HQC.out _ (H.out.to.trans u.bel))))))
            refine wpQuiet_nil ?_
            rintro w6 ⟨⟨_, hw6⟩, rfl⟩
            (try dsimp only)
            replace H := Lib.hid (H.out.bel hw6); (try simp only [List.set_cons_zero, List.set_cons_succ, List.cons_append, List.nil_append, List.eraseIdx_cons_zero, List.eraseIdx_cons_succ, List.setIfInBounds_toArray, World.size_alloc, selR, List.getD_cons_zero, List.getD_cons_succ] at H)
            clear f_cd cd
            replace HB := Lib.hid (HB.out.trans hw6)
            clear hw6 HNM HQC
            go_wp2_with fail
            rw [← HAv.out]
            go_roundg (v.n - (j + 1))
            case rel => exact ⟨j + 1, l1 ++ (G ++ cellPut (s.sz.n) s.ms n.dim q), q.key, rfl, by omega, by go_num, by (try simp only [str_append]); (try simp only [List.append_assoc]), by omega, by omega, H, HB, HT3, HZ2, HP2⟩
            case measure => rw [Hgj.out]; omega
          · obtain ⟨p, hp, hwp⟩ : ∃ p : Cl, v.l[j - 1]? = some p ∧ was = p.key := by have := HP.out; rw [if_neg hj0] at this; exact this
            obtain ⟨b2, o2, p2, hA2, _, hp2, _, hr2⟩ := HVL.out.clAt (k := j - 1) (by omega)
            rw [hp] at hp2
            injection hp2 with hp2
            subst hp2
            rw [hA] at hA2
            injection hA2 with hA2
            injection hA2 with e1 e2 e3
            subst e1
            subst e2
            have cp : W1.cell? ⟨bb, oo + (j - 1) * 12, none⟩ = some (.int .i64 was) := by have := hr2 0 _ rfl; rw [hwp]; simpa using this
            have s4 : IntKind.i64.wrap ((j : Int) - 1) = (j : Int) - 1 := IntWalk.i64_in _ (by omega)
            have s5 : (0 : Int) ≤ (j : Int) - 1 := by omega
            have s6 : (j : Int) - 1 < v.n := by omega
            have s7 : ((j : Int) - 1).toNat = j - 1 := by omega
            have s8 : decide ((0 : Int) < (j : Int)) = true := by simp; omega
            have s9 : decide (0 < j) = true := by simp; omega
            have HG : Hid (q.key - was - 1 = q.key - was - 1) := rfl
            clear HP HVL hr2 hp hwp hj0
            go_upto_region 11 with fail
            go_quiet (fail)
            rename_i nq
            replace H := Lib.hid (H.out.drewN nq); (try simp only [List.set_cons_zero, List.set_cons_succ, List.cons_append, List.nil_append, List.eraseIdx_cons_zero, List.eraseIdx_cons_succ, List.setIfInBounds_toArray, World.size_alloc, selR, List.getD_cons_zero, List.getD_cons_succ] at H)
            replace HB := Lib.hid (HB.out.drewN nq)
            have HR2 := Lib.hid ((Bel.refl W1).drewN nq)
            have HR : Hid (World.rangeAt _ bb (oo + j * 12) q.cs.toList) := rangeAt_bel hbb HR.out HR2.out
            have hbb2 : bb < (World.drewN W1 nq).heap.size := hbb
            clear s1 s2 s4 s5 s6 s7 s8 s9
            generalize World.drewN W1 nq = W2 at *
            have cd := (H.out.blk 1 rfl).cell 0; simp only [List.getElem?_toArray, List.getElem?_cons_zero, List.getElem?_cons_succ] at cd
            go_upto_region 12 with fail
            have f_cd := fun u : Over W2 => Over.cell cd u
            refine wp_region_over (by kernel_rfl) (by kernel_rfl) ?_
            (try simp only [Act.put, List.setIfInBounds_toArray, List.set_cons_zero, List.set_cons_succ])
            repeat (first
              | ((with_reducible show wpQuiet _ _ _ _ (⟨some 54, _, _, _, _, _⟩ :: _) _); refine wpQuiet_load_row (by first | rfl | go_simp) rowShp2 (.tmp 2) rfl x (0) rfl s.cs rfl (H.out.blk 0 rfl).lt (H.out.blk 0 rfl).range ?_; simp only [Act.put, List.setIfInBounds_toArray, List.set_cons_zero, List.set_cons_succ])
              | ((with_reducible show wpQuiet _ _ _ _ (⟨some 60, _, _, _, _, _⟩ :: _) _); refine wpQuiet_load_row (by first | rfl | go_simp) rowCl (.tmp 59) rfl bb ((oo + j * 12)) rfl q.cs rfl hbb2 HR.out ?_; simp only [Act.put, List.setIfInBounds_toArray, List.set_cons_zero, List.set_cons_succ])
              | go_big_quiet_step ((first | (go_at_call 39; rename_i u; exact calls_over (HNM.out _ HG.out _)) | (go_at_call 40; rename_i u; exact calls_over (HQC.out _ (H.out.to.trans u.bel))))))
            refine wpQuiet_nil ?_
            rintro w6 ⟨⟨_, hw6⟩, rfl⟩
            (try dsimp only)
            replace H := Lib.hid (H.out.bel hw6); (try simp only [List.set_cons_zero, List.set_cons_succ, List.cons_append, List.nil_append, List.eraseIdx_cons_zero, List.eraseIdx_cons_succ, List.setIfInBounds_toArray, World.size_alloc, selR, List.getD_cons_zero, List.getD_cons_succ] at H)
            clear f_cd cd
            replace HB := Lib.hid (HB.out.trans hw6)
            clear hw6 HNM HQC
            go_wp2_with fail
            rw [← HAv.out]
            go_roundg (v.n - (j + 1))
            case rel => exact ⟨j + 1, l1 ++ (G ++ cellPut (s.sz.n) s.ms n.dim q), q.key, rfl, by omega, by go_num, by (try simp only [str_append]); (try simp only [List.append_assoc]), by omega, by omega, H, HB, HT3, HZ2, HP2⟩
            case measure => rw [Hgj.out]; omega
        · have HT3 : Hid (T = l1 ++ ((n.ls.l.drop (k + 1)).flatMap (fun v => listPut (s.sz.n) s.ms n.dim v.l) ++ cellPut (s.sz.n) s.ms n.dim n.all)) := by
            show _ = _
            rw [HT2.out, List.drop_eq_nil_of_le (by rw [hvl.out]; omega), cellsPut, List.nil_append]
          clear HT2 HZ
          go_wp2_with fail
          rw [← HAL.out]
          go_roundg (n.ls.n - (k + 1))
          case rel => exact ⟨k + 1, l1, rfl, by omega, by go_num, rfl, H, HT3⟩
          case measure => rw [Hgk.out]; omega
    · have HT3 : Hid (T = l ++ cellPut (s.sz.n) s.ms n.dim n.all) := by
        show _ = _
        rw [HT.out, List.drop_eq_nil_of_le (by rw [hll.out]; omega), List.flatMap_nil, List.nil_append]
      have hlb : l.length + (cellPut (s.sz.n) s.ms n.dim n.all).length ≤ 1000000 := by have := congrArg List.length HT3.out; simp only [List.length_append] at this; omega
      have HAL : Hid (W0.rangeAt y 2 n.all.cs.toList) := fun j v hv => by
        have := (H.out.blk 1 rfl).range (j + 2) v (by rw [nd_all]; exact hv)
        rw [show 0 + (j + 2) = 2 + j by omega] at this
        exact this
      have cd : W0.cell? ⟨y, 0, none⟩ = some (.int .i64 n.dim) := (H.out.blk 1 rfl).cell 0
      clear HT
      go_wp2_with (first | ((with_reducible show wpList _ _ _ (⟨some 66, _, _, _, _, _⟩ :: _) _ _); (refine wpList_load_blk rfl rowShp2 (.tmp 2) rfl _ rfl (H.out.blk 0 rfl) rfl ?_)) | ((with_reducible show wpList _ _ _ (⟨some 70, _, _, _, _, _⟩ :: _) _ _); (refine wpList_load_row_at rfl rowCl (.tmp 69) rfl y (2) rfl n.all.cs rfl HAL.out ?_)))
      refine (HCO.out n.all _ H.out.to (List.mem_append_right _ (List.mem_singleton.2 rfl))).mono ?_; rintro e w4 ⟨rfl, hb4⟩
      replace H := Lib.hid (H.out.bel hb4); (try simp only [List.set_cons_zero, List.set_cons_succ, List.cons_append, List.nil_append, List.eraseIdx_cons_zero, List.eraseIdx_cons_succ, List.setIfInBounds_toArray, World.size_alloc, selR, List.getD_cons_zero, List.getD_cons_succ] at H)
      clear hb4 cd HAL
      go_wp2_with fail
      rw [str_append, ← HT3.out]
      refine (rputText_any T _ (by omega)).mono ?_; rintro e w5 ⟨rfl, hb5⟩
      replace H := Lib.hid (H.out.bel hb5); (try simp only [List.set_cons_zero, List.set_cons_succ, List.cons_append, List.nil_append, List.eraseIdx_cons_zero, List.eraseIdx_cons_succ, List.setIfInBounds_toArray, World.size_alloc, selR, List.getD_cons_zero, List.getD_cons_succ] at H)
      go_wp2_with fail
      go_ret
      exact ⟨rfl, H.out.to⟩

end Go.Proofs.Ytlclllkjnhgbjaa

namespace Go.Proofs.Ytlclllkjnhgbjaa
open Go.RowKit
set_option linter.unusedVariables false
set_option linter.unusedSimpArgs false


def szN (o : Option Nat) : Int := ((o.getD 0 : Nat) : Int)
def szOk (o : Option Nat) : Bool := o.isSome
def szErr (o : Option Nat) : Int := if o.isSome then 0 else 15
theorem pcell_ok {nd : Nat} {ms dim key : Int} {l r : List UInt8} {c : Cl} (h : pcell nd ms dim key l = .ok (c, r)) (hk : I64 key) : c.ok ∧ r.length ≤ l.length ∧ c.key = key := by
  unfold pcell at h
  split at h
  · cases hp : pag ms l with
    | error e => rw [hp] at h; cases h
    | ok q =>
      obtain ⟨a, r2⟩ := q
      rw [hp, pbind2_ok] at h
      injection h with h
      injection h with h1 h2
      subst h1
      subst h2
      obtain ⟨e1, _, e3⟩ := pag_back hp
      exact ⟨⟨hk, z_i64, e3⟩, by rw [e1, List.length_append]; omega, rfl⟩
  · cases hp : pnum 1048576 l with
    | error e => rw [hp] at h; cases h
    | ok q =>
      obtain ⟨a, r2⟩ := q
      rw [hp, pbind2_ok] at h
      injection h with h
      injection h with h1 h2
      subst h1
      subst h2
      have := pnum_ok hp
      exact ⟨⟨hk, by unfold I64; show _ ≤ (a : Int) ∧ (a : Int) ≤ _; omega, ag_zero_ok⟩, by omega, rfl⟩
theorem pcell_err {nd : Nat} {ms dim key k : Int} {l : List UInt8} (h : pcell nd ms dim key l = .error k) : k = 3 ∨ k = 5 := by
  unfold pcell at h
  split at h
  · cases hp : pag ms l with
    | error e => rw [hp] at h; injection h with h; subst h; exact .inl (pag_err hp)
    | ok q => rw [hp] at h; cases h
  · cases hp : pnum 1048576 l with
    | error e => rw [hp] at h; injection h with h; subst h; exact pnum_err hp
    | ok q => rw [hp] at h; cases h

set_option maxRecDepth 100000 in
set_option maxHeartbeats 1000000 in
theorem csize_any (l : List UInt8) (w : World) (hl : l.length ≤ 1000001) :
    Calls Try.prog 18 #[.string ⟨l.toArray⟩] w fun e w' => e = .returned (.tuple #[.int .i64 (szN (nodeSize l)), .int .i64 (szErr (nodeSize l))]) ∧ Bel w w' := by
  obtain ⟨n, z, ok, hn⟩ : ∃ n z ok, ntake l = (n, z, ok) := ⟨_, _, _, rfl⟩
  have hz := (ntake_size l).2.1
  have hlt := ntake_lt l
  rw [hn] at hz hlt
  simp only at hz hlt
  have HT := Lib.hid (fun w' => take_val hn w' hl)
  obtain ⟨R, hR⟩ : ∃ R, R = nodeSize l := ⟨_, rfl⟩
  have HR : Hid (R = if ok = true ∧ n ≤ 1048576 then some (n + z) else none) := by show _ = _; rw [hR]; unfold nodeSize; rw [hn]
  rw [← hR]
  clear hR hn
  go_enter Try.func18, Try.ntmps18
  go_wp2_with fail
  refine (HT.out _).mono ?_; rintro e w1 ⟨rfl, hb1⟩
  have HB := Lib.hid hb1
  clear hb1 HT
  cases ok with
  | false =>
    have HR2 : Hid (R = none) := by show _ = _; rw [HR.out, if_neg (by simp)]
    clear HR
    go_wp2_with fail
    go_ret2
    rw [HR2.out]
    exact ⟨rfl, HB.out⟩
  | true =>
    by_cases h : n ≤ 1048576
    · have HR2 : Hid (R = some (n + z)) := by show _ = _; rw [HR.out, if_pos ⟨rfl, h⟩]
      have d1 : decide ((1048576 : Int) < (n : Int)) = false := by simp; omega
      have d2 : decide (1048576 < n) = false := by simp; omega
      have i0 : (0 : Int) ≤ n := by omega
      have i1 : (n : Int) ≤ 1048576 := by omega
      have i2 : (z : Int) ≤ 9 := by omega
      clear HR h hlt hz
      go_wp2_with fail
      go_ret2
      rw [HR2.out]
      exact ⟨rfl, HB.out⟩
    · have HR2 : Hid (R = none) := by show _ = _; rw [HR.out, if_neg (by omega)]
      have d1 : decide ((1048576 : Int) < (n : Int)) = true := by simp; omega
      have d2 : decide (1048576 < n) = true := by simp; omega
      clear HR h hz
      go_wp2_with fail
      go_ret2
      rw [HR2.out]
      exact ⟨rfl, HB.out⟩

set_option maxRecDepth 100000 in
set_option maxHeartbeats 1000000 in
theorem rcsize_any (l : List UInt8) (w : World) (hl : l.length ≤ 1000001) :
    Calls Try.prog 19 #[.string ⟨l.toArray⟩] w fun e w' => e = .returned (.tuple #[.int .i64 (szN (nodeSize l)), .bool (szOk (nodeSize l))]) ∧ Bel w w' := by
  obtain ⟨n, z, ok, hn⟩ : ∃ n z ok, ntake l = (n, z, ok) := ⟨_, _, _, rfl⟩
  have hz := (ntake_size l).2.1
  have hlt := ntake_lt l
  rw [hn] at hz hlt
  simp only at hz hlt
  have HT := Lib.hid (fun w' => rtake_val hn w' hl)
  obtain ⟨R, hR⟩ : ∃ R, R = nodeSize l := ⟨_, rfl⟩
  have HR : Hid (R = if ok = true ∧ n ≤ 1048576 then some (n + z) else none) := by show _ = _; rw [hR]; unfold nodeSize; rw [hn]
  rw [← hR]
  clear hR hn
  go_enter Try.func19, Try.ntmps19
  go_wp2_with fail
  refine (HT.out _).mono ?_; rintro e w1 ⟨rfl, hb1⟩
  have HB := Lib.hid hb1
  clear hb1 HT
  cases ok with
  | false =>
    have HR2 : Hid (R = none) := by show _ = _; rw [HR.out, if_neg (by simp)]
    clear HR
    go_wp2_with fail
    go_ret2
    rw [HR2.out]
    exact ⟨rfl, HB.out⟩
  | true =>
    by_cases h : n ≤ 1048576
    · have HR2 : Hid (R = some (n + z)) := by show _ = _; rw [HR.out, if_pos ⟨rfl, h⟩]
      have d1 : decide ((1048576 : Int) < (n : Int)) = false := by simp; omega
      have d2 : decide (1048576 < n) = false := by simp; omega
      have i0 : (0 : Int) ≤ n := by omega
      have i1 : (n : Int) ≤ 1048576 := by omega
      have i2 : (z : Int) ≤ 9 := by omega
      clear HR h hlt hz
      go_wp2_with fail
      go_ret2
      rw [HR2.out]
      exact ⟨rfl, HB.out⟩
    · have HR2 : Hid (R = none) := by show _ = _; rw [HR.out, if_neg (by omega)]
      have d1 : decide ((1048576 : Int) < (n : Int)) = true := by simp; omega
      have d2 : decide (1048576 < n) = true := by simp; omega
      clear HR h hz
      go_wp2_with fail
      go_ret2
      rw [HR2.out]
      exact ⟨rfl, HB.out⟩

set_option maxRecDepth 100000 in
set_option maxHeartbeats 2000000 in
theorem cread_any (b : Nat) (s l : List UInt8) (sh : Shp) (d key : Int) (w : World) (hR : Rdr w b s l) (hs : ∀ w', w.grownBy w' (some b) → sh.rd w') (hd : I64 d) (hk : I64 key) :
    Calls Try.prog 81 #[.pointer (some ⟨b, 0, none⟩), .agg sh.cs, .int .i64 d, .int .i64 key] w (RPost b s (pcell sh.sz.n sh.ms d key l) (fun c => .agg c.cs) w) := by
  have HL := Lib.hid (fun w' (hb : w.grownBy w' (some b)) => last_any sh d w' (hs w' hb) hd)
  have hms := (hs w (grown_of_bel (Bel.refl w) _)).ms
  have hbw := hR.lt
  have H := Lib.hid (((SL.rdr1 w hR).alloc sh.cs 24).alloc #[.int .i64 0, .int .i64 0, .int .i64 0, .int .i64 0, .int .i64 0, .int .i64 0, .int .i64 0, .int .i64 0, .int .i64 0, .int .i64 0, .int .i64 0, .int .i64 0] 32)
  (try simp only [List.set_cons_zero, List.set_cons_succ, List.cons_append, List.nil_append, List.eraseIdx_cons_zero, List.eraseIdx_cons_succ, List.setIfInBounds_toArray, World.size_alloc, selR, List.getD_cons_zero, List.getD_cons_succ] at H)
  have hcs : sh.cs = #[.slice sh.sz.A sh.sz.n sh.sz.c, .int .i64 sh.ms] := rfl
  have HCS := Lib.hid hcs
  obtain ⟨R, hRR⟩ : ∃ R, R = pcell sh.sz.n sh.ms d key l := ⟨_, rfl⟩
  have HRR : Hid (R = if d = (sh.sz.n : Int) - 1 then pbind2 (pag sh.ms l) (fun a => ⟨key, 0, a⟩) else pbind2 (pnum 1048576 l) (fun n => ⟨key, (n : Int), .zero⟩)) := hRR
  rw [← hRR]
  clear hRR hcs hR hs
  go_enter Try.func81, Try.ntmps81
  go_upto_region 1 with fail
  rw [← HCS.out] at *
  generalize w.heap.size + 1 = y at *
  generalize w.heap.size = x at *
  generalize World.alloc (World.alloc _ _) _ = w1 at *
  go_wp2_with ((with_reducible show wpList _ _ _ (⟨some 9, _, _, _, _, _⟩ :: _) _ _); (refine wpList_load_blk rfl rowShp2 (.tmp 5) rfl _ rfl (H.out.blk 1 rfl) rfl ?_))
  refine (HL.out _ H.out.fr.grown).mono ?_; rintro e w2 ⟨rfl, hb2⟩
  replace H := Lib.hid (H.out.bel hb2); (try simp only [List.set_cons_zero, List.set_cons_succ, List.cons_append, List.nil_append, List.eraseIdx_cons_zero, List.eraseIdx_cons_succ, List.setIfInBounds_toArray, World.size_alloc, selR, List.getD_cons_zero, List.getD_cons_succ] at H)
  clear hb2 HL
  cases hl : (d == (sh.sz.n : Int) - 1) with
  | true =>
    have hR2 : Hid (R = pbind2 (pag sh.ms l) (fun a => ⟨key, 0, a⟩)) := by show _ = _; rw [HRR.out, if_pos (by simpa using hl)]
    have HT := Lib.hid (fun w (hr : Rdr w b s l) => aread_any b s l sh.ms w hr hms)
    have cm : w2.cell? ⟨x, 1, none⟩ = some (.int .i64 sh.ms) := (H.out.blk 1 rfl).cell 1
    clear HRR
    go_wp2_with fail
    clear cm
    cases hx : pag sh.ms l with
    | error e1 =>
      have HE : Hid (R = .error e1) := by show _ = _; rw [hR2.out, hx]; rfl
      rw [hx] at HT
      clear hx
      refine (HT.out _ (H.out.rdr 0 rfl)).mono ?_; rintro e w3 ⟨rfl, hg, l3, hr⟩
      replace H := Lib.hid (H.out.setRdr 0 rfl hg hr); (try simp only [List.set_cons_zero, List.set_cons_succ, List.cons_append, List.nil_append, List.eraseIdx_cons_zero, List.eraseIdx_cons_succ, List.setIfInBounds_toArray, World.size_alloc, selR, List.getD_cons_zero, List.getD_cons_succ] at H)
      clear hg hr
      go_wp2_with fail
      refine ⟨rfl, ?_⟩
      rw [HE.out]
      exact ⟨rfl, H.out.fr.grown, l3, H.out.rdr 0 rfl⟩
    | ok q =>
      obtain ⟨a, r⟩ := q
      have HN : Hid (R = .ok (⟨key, 0, a⟩, r)) := by show _ = _; rw [hR2.out, hx]; rfl
      rw [hx] at HT
      clear hx
      refine (HT.out _ (H.out.rdr 0 rfl)).mono ?_; rintro e w3 ⟨rfl, hg, hr⟩
      replace H := Lib.hid (H.out.setRdr 0 rfl hg hr); (try simp only [List.set_cons_zero, List.set_cons_succ, List.cons_append, List.nil_append, List.eraseIdx_cons_zero, List.eraseIdx_cons_succ, List.setIfInBounds_toArray, World.size_alloc, selR, List.getD_cons_zero, List.getD_cons_succ] at H)
      clear hg hr HT
      have hbd : ∀ w : World, (Instr.build 32 #[(0, .int .i64 key), (2, .agg a.cs)]).run Try.prog w = .ok (.agg (Cl.mk key 0 a).cs) w := fun _ => by kernel_rfl
      go_wp2_with (first | ((with_reducible show wpList _ _ _ (⟨some 17, _, _, _, _, _⟩ :: _) _ _); refine wpList_build2N rfl (.tmp 12) (.tmp 16) rfl rfl rfl hbd ?_) | ((with_reducible show wpList _ _ _ (⟨_, .store _ (.tmp 8) _, _, _, _, _⟩ :: _) _ _); (refine wpList_store_blk rfl rowCl (.tmp 8) (.tmp 17) rfl _ rfl (H.out.blk 2 rfl) rfl ((Cl.mk key 0 a).cs) rfl rfl (cl_one _) ?_; intro wq bq hgq; replace H := Lib.hid (H.out.setBlk 2 rfl hgq bq); (try simp only [List.set_cons_zero, List.set_cons_succ, List.cons_append, List.nil_append, List.eraseIdx_cons_zero, List.eraseIdx_cons_succ, List.setIfInBounds_toArray, World.size_alloc, selR, List.getD_cons_zero, List.getD_cons_succ] at H); clear hgq bq)))
      refine bodyPost_ret (results_blk1 rfl rowCl rfl (H.out.blk 2 rfl) rfl) rfl ?_
      rw [HN.out]
      exact ⟨rfl, H.out.fr.grown, H.out.rdr 0 rfl⟩
  | false =>
    have hR2 : Hid (R = pbind2 (pnum 1048576 l) (fun n => ⟨key, (n : Int), .zero⟩)) := by show _ = _; rw [HRR.out, if_neg (by simpa using hl)]
    have HT := Lib.hid (fun w (hr : Rdr w b s l) => num_any b s l 1048576 w hr (by omega) (by omega))
    clear HRR
    go_wp2_with fail
    cases hx : pnum 1048576 l with
    | error e1 =>
      have HE : Hid (R = .error e1) := by show _ = _; rw [hR2.out, hx]; rfl
      rw [hx] at HT
      clear hx
      refine (HT.out _ (H.out.rdr 0 rfl)).mono ?_; rintro e w3 ⟨rfl, hg, l3, hr⟩
      replace H := Lib.hid (H.out.setRdr 0 rfl hg hr); (try simp only [List.set_cons_zero, List.set_cons_succ, List.cons_append, List.nil_append, List.eraseIdx_cons_zero, List.eraseIdx_cons_succ, List.setIfInBounds_toArray, World.size_alloc, selR, List.getD_cons_zero, List.getD_cons_succ] at H)
      clear hg hr
      go_wp2_with fail
      refine ⟨rfl, ?_⟩
      rw [HE.out]
      exact ⟨rfl, H.out.fr.grown, l3, H.out.rdr 0 rfl⟩
    | ok q =>
      obtain ⟨a, r⟩ := q
      have HN : Hid (R = .ok (⟨key, (a : Int), .zero⟩, r)) := by show _ = _; rw [hR2.out, hx]; rfl
      rw [hx] at HT
      clear hx
      refine (HT.out _ (H.out.rdr 0 rfl)).mono ?_; rintro e w3 ⟨rfl, hg, hr⟩
      replace H := Lib.hid (H.out.setRdr 0 rfl hg hr); (try simp only [List.set_cons_zero, List.set_cons_succ, List.cons_append, List.nil_append, List.eraseIdx_cons_zero, List.eraseIdx_cons_succ, List.setIfInBounds_toArray, World.size_alloc, selR, List.getD_cons_zero, List.getD_cons_succ] at H)
      clear hg hr HT
      have hbd : ∀ w : World, (Instr.build 32 #[(0, .int .i64 key), (1, .int .i64 (a : Nat))]).run Try.prog w = .ok (.agg (Cl.mk key (a : Nat) .zero).cs) w := fun _ => by kernel_rfl
      go_wp2_with (first | ((with_reducible show wpList _ _ _ (⟨some 21, _, _, _, _, _⟩ :: _) _ _); refine wpList_build2N rfl (.tmp 18) (.tmp 20) rfl rfl rfl hbd ?_) | ((with_reducible show wpList _ _ _ (⟨_, .store _ (.tmp 8) _, _, _, _, _⟩ :: _) _ _); (refine wpList_store_blk rfl rowCl (.tmp 8) (.tmp 21) rfl _ rfl (H.out.blk 2 rfl) rfl ((Cl.mk key (a : Nat) .zero).cs) rfl rfl (cl_one _) ?_; intro wq bq hgq; replace H := Lib.hid (H.out.setBlk 2 rfl hgq bq); (try simp only [List.set_cons_zero, List.set_cons_succ, List.cons_append, List.nil_append, List.eraseIdx_cons_zero, List.eraseIdx_cons_succ, List.setIfInBounds_toArray, World.size_alloc, selR, List.getD_cons_zero, List.getD_cons_succ] at H); clear hgq bq)))
      refine bodyPost_ret (results_blk1 rfl rowCl rfl (H.out.blk 2 rfl) rfl) rfl ?_
      rw [HN.out]
      exact ⟨rfl, H.out.fr.grown, H.out.rdr 0 rfl⟩

end Go.Proofs.Ytlclllkjnhgbjaa

namespace Go.Proofs.Ytlclllkjnhgbjaa
open Go.RowKit
set_option linter.unusedVariables false
set_option linter.unusedSimpArgs false


theorem grown_trans1 {a w w' : World} {row : Option Nat} (h : a.grownBy w row) (k : w.grownBy w' row) : a.grownBy w' row :=
  ⟨k.os.trans h.os, k.tape.trans h.tape, k.output.trans h.output, Nat.le_trans h.size k.size, fun i hi hn => (k.block i (Nat.lt_of_lt_of_le hi h.size) hn).trans (h.block i hi hn)⟩
theorem wpList_build1N {ops : Array Oper} {rest : List Oper} {o : Oper} {a : Act} {w : World} {Q : Exit → Act → World → Prop} (hgd : o.guard = none) {t : TypeId} (x : Operand) {i : Nat} (ho : o.op = .build t #[(i, x)])
    {vx v : Value} (hx : a.eval x = vx) (hr : ∀ w : World, (Instr.build t #[(i, vx)]).run Try.prog w = .ok v w)
    (h : wpList Try.prog ops Q rest (a.put o.dst v) w) : wpList Try.prog ops Q (o :: rest) a w := by
  refine wpList_plain hgd fun K hK => ?_
  unfold Oper.wp execOp
  simp only [ho, List.map_toArray, List.map_cons, List.map_nil, hx, Sem.run_bind, hr, Result.andThen_ok, Sem.run_pure]
  exact hK _ _ h
theorem cl1_one (c : Cl) : ∀ u ∈ (c.cs.toList : List Value), u.oneCell' = true := fun u hu => Array.all_eq_true_iff_forall_mem.1 (cl_one c) u (by simpa using hu)
/-- How cellcode.body ends. -/
def NdPost (b : Nat) (s : List UInt8) (o : PR NC) (w : World) (e : Ending) (w' : World) : Prop :=
  match o with
  | .error k => RErr b s k w e w'
  | .ok (d, l) => ∃ D : Nd, e = .returned (.agg D.cs) ∧ D.con = d ∧ w.grownBy w' (some b) ∧ Rdr w' b s l ∧ NewR w w' (rNd D)
theorem plists_drop {nd : Nat} {ms d : Int} {zz : List Int} {k : Nat} {z : Int} {acc : List (List Cl)} {r : List UInt8} (h : zz[k]? = some z) :
    plists nd ms d (zz.drop k) acc r = pbind (pbind (pnum z r) fun n r => pcells nd ms d z n (-1) [] r) fun l r => plists nd ms d (zz.drop (k + 1)) (acc ++ [l]) r := by
  obtain ⟨hk, rfl⟩ := List.getElem?_eq_some_iff.1 h
  rw [List.drop_eq_getElem_cons hk]
  rfl
theorem plists_done {nd : Nat} {ms d : Int} {zz : List Int} {acc : List (List Cl)} {r : List UInt8} {k : Nat} (h : zz.length = k) : plists nd ms d (zz.drop k) acc r = .ok (acc, r) := by
  rw [List.drop_eq_nil_of_le (by omega)]
  rfl
theorem pcells_step {nd n k : Nat} {ms d z : Int} (h : k < n) (was : Int) (acc : List Cl) (r : List UInt8) :
    pcells nd ms d z (n - k) was acc r = pbind (pnum z r) fun g r => pbind (pcell nd ms d (keyAt was g) r) fun c r => pcells nd ms d z (n - (k + 1)) (keyAt was g) (acc ++ [c]) r := by
  obtain ⟨m, hm⟩ : ∃ m, n - k = m + 1 := ⟨n - k - 1, by omega⟩
  rw [hm, show n - (k + 1) = m by omega]
  rfl
theorem setAll_ndA (n : Nd) (c : Cl) : setAll n.cs 2 c.cs.toList = (Nd.mk n.dim n.ls c).cs := by
  simp [setAll]
theorem i64_wrap (x : Int) : I64 (wrap64 x) := by
  unfold I64 wrap64
  have h1 := Int.emod_nonneg (x + 9223372036854775808) (show (18446744073709551616 : Int) ≠ 0 by omega)
  have h2 := Int.emod_lt_of_pos (x + 9223372036854775808) (show (0 : Int) < 18446744073709551616 by omega)
  omega

set_option maxRecDepth 100000 in
set_option maxHeartbeats 4000000 in
theorem cbody_any (b : Nat) (s l : List UInt8) (sh : Shp) (w : World) (hR : Rdr w b s l) (hs : ∀ w', w.grownBy w' (some b) → sh.rd w') (h1 : 1 ≤ sh.sz.n) (hsm : SmallS sh) :
    Calls Try.prog 45 #[.pointer (some ⟨b, 0, none⟩), .agg sh.cs] w (NdPost b s (pbody sh.con sh.ms l) w) := by
  have HSH := Lib.hid hs
  have hlen := hR.len
  have hxl : sh.con.length = sh.sz.n := by show (sh.sz.l.map Row.l).length = _; rw [List.length_map]; exact (hs w (grown_of_bel (Bel.refl w) _)).sz.len
  have HXS : Hid (∀ (k : Nat) (z : Row Int), sh.sz.l[k]? = some z → sh.con[k]? = some z.l) := fun k z h => by show (sh.sz.l.map Row.l)[k]? = _; rw [List.getElem?_map, h]; rfl
  have HZ10 : Hid (∀ y ∈ sh.sz.l, y.n ≤ 10) := hsm.2
  have h20 := hsm.1
  have hbw := hR.lt
  have H := Lib.hid (((SL.rdr1 w hR).alloc sh.cs 24).alloc #[.int .i64 0, .slice none 0 0, .int .i64 0, .int .i64 0, .int .i64 0, .int .i64 0, .int .i64 0, .int .i64 0, .int .i64 0, .int .i64 0, .int .i64 0, .int .i64 0, .int .i64 0, .int .i64 0] 34)
  (try simp only [List.set_cons_zero, List.set_cons_succ, List.cons_append, List.nil_append, List.eraseIdx_cons_zero, List.eraseIdx_cons_succ, List.setIfInBounds_toArray, World.size_alloc, selR, List.getD_cons_zero, List.getD_cons_succ] at H)
  obtain ⟨R, hRR⟩ : ∃ R, R = pbody sh.con sh.ms l := ⟨_, rfl⟩
  have HP0 : Hid (R = pbind (pnum ((sh.sz.n : Int) - 1) l) fun d r => pafter sh.sz.n sh.ms (d : Nat) (plists sh.sz.n sh.ms (d : Nat) ((sh.con[d]?).getD []) [] r)) := by show _ = _; rw [hRR]; unfold pbody; rw [hxl]
  rw [← hRR]
  clear hRR hR hs hsm hxl
  have hcs : sh.cs = #[.slice sh.sz.A sh.sz.n sh.sz.c, .int .i64 sh.ms] := rfl
  have HCS := Lib.hid hcs
  clear hcs
  go_enter Try.func45, Try.ntmps45
  go_upto_region 1 with fail
  (try rw [← HCS.out] at *)
  generalize w.heap.size + 1 = y at *
  generalize w.heap.size = x at *
  generalize World.alloc (World.alloc _ _) _ = w1 at *
  have cs0 : w1.cell? ⟨x, 0, none⟩ = some (.slice sh.sz.A sh.sz.n sh.sz.c) := (H.out.blk 1 rfl).cell 0
  have wz : IntKind.i64.wrap ((sh.sz.n : Int) - 1) = (sh.sz.n : Int) - 1 := IntWalk.i64_in _ (by omega)
  have HT := Lib.hid (fun w (hr : Rdr w b s l) => num_any b s l ((sh.sz.n : Int) - 1) w hr (by omega) (by omega))
  go_wp2_with fail
  clear cs0 wz
  cases hx : pnum ((sh.sz.n : Int) - 1) l with
  | error e1 =>
    have HE : Hid (R = .error e1) := by show _ = _; rw [HP0.out, hx]; rfl
    rw [hx] at HT
    clear hx
    refine (HT.out _ (H.out.rdr 0 rfl)).mono ?_; rintro e w3 ⟨rfl, hg, l3, hr⟩
    replace H := Lib.hid (H.out.setRdr 0 rfl hg hr); (try simp only [List.set_cons_zero, List.set_cons_succ, List.cons_append, List.nil_append, List.eraseIdx_cons_zero, List.eraseIdx_cons_succ, List.setIfInBounds_toArray, World.size_alloc, selR, List.getD_cons_zero, List.getD_cons_succ] at H)
    clear hg hr
    go_wp2_with fail
    refine ⟨rfl, ?_⟩
    rw [HE.out]
    exact ⟨rfl, H.out.fr.grown, l3, H.out.rdr 0 rfl⟩
  | ok q =>
    obtain ⟨d, l0⟩ := q
    have hdn := (pnum_ok hx).2.1
    have hl0 := pnum_lt hx
    have HP1 : Hid (R = pafter sh.sz.n sh.ms (d : Nat) (plists sh.sz.n sh.ms (d : Nat) ((sh.con[d]?).getD []) [] l0)) := by show _ = _; rw [HP0.out, hx]; rfl
    rw [hx] at HT
    clear hx HP0
    refine (HT.out _ (H.out.rdr 0 rfl)).mono ?_; rintro e w2 ⟨rfl, hg, hr⟩
    replace H := Lib.hid (H.out.setRdr 0 rfl hg hr); (try simp only [List.set_cons_zero, List.set_cons_succ, List.cons_append, List.nil_append, List.eraseIdx_cons_zero, List.eraseIdx_cons_succ, List.setIfInBounds_toArray, World.size_alloc, selR, List.getD_cons_zero, List.getD_cons_succ] at H)
    clear hg hr HT
    have hdlt : d < sh.sz.n := by omega
    obtain ⟨bz, oz, Z, hZA, hZk, hZok, hZc⟩ := (HSH.out w2 H.out.fr.grown).sz.slAt (k := d) hdlt
    have hZ10 := HZ10.out Z (List.mem_of_getElem? hZk)
    have HZL : Hid (Z.l.length = Z.n) := hZok.len
    have HP2 : Hid (R = pafter sh.sz.n sh.ms (d : Nat) (plists sh.sz.n sh.ms (d : Nat) (Z.l.drop 0) (([] : List (Row Cl)).map Row.l) l0)) := by show _ = _; rw [HP1.out, HXS.out d Z hZk]; rfl
    have HZR : Hid (∀ w', w.grownBy w' (some b) → Z.rd w') := fun w' hw => by
      have := (HSH.out w' hw).sz.all Z (List.mem_of_getElem? hZk)
      exact Row.ok.rds this
    clear HP1 hZok
    have dz0 : (0 : Int) ≤ d := by omega
    have dz1 : (d : Int) < sh.sz.n := by omega
    have HD64 : I64 ((d : Nat) : Int) := by unfold I64; omega
    have hbd : ∀ w : World, (Instr.build 34 #[(0, .int .i64 (d : Nat))]).run Try.prog w = .ok (.agg (Nd.mk (d : Nat) ⟨none, 0, 0, []⟩ .nil).cs) w := fun _ => by kernel_rfl
    go_upto_region 2 with (first | ((with_reducible show wpList _ _ _ (⟨some 17, _, _, _, _, _⟩ :: _) _ _); refine wpList_build1N rfl (.tmp 16) rfl rfl hbd ?_) | ((with_reducible show wpList _ _ _ (⟨_, .store _ (.tmp 5) _, _, _, _, _⟩ :: _) _ _); (refine wpList_store_new rfl rowNd (.tmp 5) (.tmp 17) rfl rfl rfl ((Nd.mk (d : Nat) ⟨none, 0, 0, []⟩ .nil).cs) rfl rfl (nd_one _) ?_; replace H := Lib.hid (H.out.alloc ((Nd.mk (d : Nat) ⟨none, 0, 0, []⟩ .nil).cs) 34); (try simp only [List.set_cons_zero, List.set_cons_succ, List.cons_append, List.nil_append, List.eraseIdx_cons_zero, List.eraseIdx_cons_succ, List.setIfInBounds_toArray, World.size_alloc, selR, List.getD_cons_zero, List.getD_cons_succ] at H))))
    (try simp only [Act.put, List.setIfInBounds_toArray, List.set_cons_zero, List.set_cons_succ])
    have hbel := (Bel.refl w2).alloc (.cells (Nd.mk (d : Nat) ⟨none, 0, 0, []⟩ .nil).cs 34)
    have cz := (hbel.cell (p := ⟨bz, oz + d, none⟩) (World.block_lt_of_cell? _ _ hZc)).trans hZc
    generalize w2.heap.size = g at *
    generalize World.alloc w2 _ = w3 at *
    clear hbel hZc hbd
    replace H := Lib.hid (H.out.addNil 44 1); (try simp only [List.set_cons_zero, List.set_cons_succ, List.cons_append, List.nil_append, List.eraseIdx_cons_zero, List.eraseIdx_cons_succ, List.setIfInBounds_toArray, World.size_alloc, selR, List.getD_cons_zero, List.getD_cons_succ] at H)
    replace H := Lib.hid (H.out.add (Bel.refl _) (rListD rCs []) (holds_listD_nil _ _) listD_nil_D); (try simp only [List.set_cons_zero, List.set_cons_succ, List.cons_append, List.nil_append, List.eraseIdx_cons_zero, List.eraseIdx_cons_succ, List.setIfInBounds_toArray, World.size_alloc, selR, List.getD_cons_zero, List.getD_cons_succ] at H)
    have cs0 : w3.cell? ⟨x, 0, none⟩ = some (.slice sh.sz.A sh.sz.n sh.sz.c) := (H.out.blk 1 rfl).cell 0
    have cd : w3.cell? ⟨g, 0, none⟩ = some (.int .i64 (d : Nat)) := (H.out.blk 3 rfl).cell 0
    have HZA := Lib.hid hZA
    rw [hZA] at cs0
    clear hZA hZk
    go_wp2_with fail
    clear cs0 cd cz
    have HLB : Hid (∀ y ∈ ([] : List (Row Cl)), y.n ≤ 1000000 ∧ ∀ c ∈ y.l, c.ok) := fun y hy => by cases hy
    have hl0' : l0.length ≤ 1000000 := by omega
    have hd20 : d ≤ 20 := by omega
    clear hdn hl0 hlen
    clear dz0 dz1
    generalize ((d : Nat) : Int) = dz at H HP2 HD64 ⊢
    go_loopg [25] Z.n (fun gg s25 wr => ∃ (k : Nat) (L : List (Row Cl)) (B : Option Addr) (e : Nat) (l' : List UInt8), gg = Z.n - k ∧ k ≤ Z.n ∧ s25 = .int .i64 k ∧ Hid (L.length = k) ∧ l'.length ≤ 1000000 ∧ Hid (∀ y ∈ L, y.n ≤ 1000000 ∧ ∀ c ∈ y.l, c.ok) ∧ Hid (SL (One b) w wr [rRdr b s l', rBlk x 24 sh.cs, rBlk y 34 Nd.nil.cs, rBlk g 34 (Nd.mk dz ⟨B, k, e, L⟩ .nil).cs, rRow 44 1 (.slice B k e) k (L.map Row.v), rListD rCs L]) ∧ Hid (R = pafter sh.sz.n sh.ms dz (plists sh.sz.n sh.ms dz (Z.l.drop k) (L.map Row.l) l')))
    case atStart => exact ⟨0, [], none, 0, l0, rfl, by omega, rfl, rfl, hl0', HLB, H, HP2⟩
    case round =>
      clear H HP2 HLB hl0'
      obtain ⟨k, L, B, e, l', hgk, hk, rfl, HLk, hl', HLB, H, HP⟩ := hrel
      have Hgk := Lib.hid hgk
      clear hgk
      by_cases hlt : k < Z.n
      · obtain ⟨bq, oq, z, hAl, hzk, hz64, hzc⟩ := (HZR.out _ H.out.fr.grown).intAt (k := k) hlt
        have HPZ := Lib.hid (HP.out.trans (congrArg _ (plists_drop hzk)))
        have HT := Lib.hid (fun w (hr : Rdr w b s l') => num_any b s l' z w hr hz64.1 hz64.2)
        have HAL := Lib.hid hAl
        have k0 : (0 : Int) ≤ k := by omega
        have k1 : (k : Int) < Z.n := by omega
        rw [hAl]
        clear HP hzk hAl
        go_wp2_with fail
        clear hzc
        cases hx : pnum z l' with
        | error e1 =>
          have HE : Hid (R = .error e1) := by show _ = _; rw [HPZ.out, hx]; rfl
          rw [hx] at HT
          clear hx
          refine (HT.out _ (H.out.rdr 0 rfl)).mono ?_; rintro e w3 ⟨rfl, hg, l3, hr⟩
          replace H := Lib.hid (H.out.setRdr 0 rfl hg hr); (try simp only [List.set_cons_zero, List.set_cons_succ, List.cons_append, List.nil_append, List.eraseIdx_cons_zero, List.eraseIdx_cons_succ, List.setIfInBounds_toArray, World.size_alloc, selR, List.getD_cons_zero, List.getD_cons_succ] at H)
          clear hg hr
          go_wp2_with fail
          refine ⟨rfl, ?_⟩
          rw [HE.out]
          exact ⟨rfl, H.out.fr.grown, l3, H.out.rdr 0 rfl⟩
        | ok q =>
          obtain ⟨m, l2⟩ := q
          have hl2 := pnum_lt hx
          have hm1 := (pnum_ok hx).2.1
          have HP : Hid (R = pafter sh.sz.n sh.ms dz (pbind (pcells sh.sz.n sh.ms dz z (m - 0) (-1) [] l2) fun l r => plists sh.sz.n sh.ms dz (Z.l.drop (k + 1)) (L.map Row.l ++ [l]) r)) := by show _ = _; rw [HPZ.out, hx]; rfl
          rw [hx] at HT
          clear hx HPZ
          refine (HT.out _ (H.out.rdr 0 rfl)).mono ?_; rintro e' w2 ⟨rfl, hg, hr⟩
          replace H := Lib.hid (H.out.setRdr 0 rfl hg hr); (try simp only [List.set_cons_zero, List.set_cons_succ, List.cons_append, List.nil_append, List.eraseIdx_cons_zero, List.eraseIdx_cons_succ, List.setIfInBounds_toArray, World.size_alloc, selR, List.getD_cons_zero, List.getD_cons_succ] at H)
          clear hg hr HT
          replace H := Lib.hid (H.out.addNil 32 12); (try simp only [List.set_cons_zero, List.set_cons_succ, List.cons_append, List.nil_append, List.eraseIdx_cons_zero, List.eraseIdx_cons_succ, List.setIfInBounds_toArray, World.size_alloc, selR, List.getD_cons_zero, List.getD_cons_succ] at H)
          go_wp2_with fail
          have HO : Hid (∀ c ∈ ([] : List Cl), c.ok) := fun c hc => by cases hc
          have hw1 : I64 (-1) := by unfold I64; omega
          have hl2' : 0 + l2.length ≤ 1000000 := by omega
          obtain ⟨W0, hW0⟩ : ∃ W0, W0 = wr := ⟨_, rfl⟩
          subst hW0
          go_loopg [8, 9, 32] m (fun gg s8 s9 s32 wr => ∃ (j : Nat) (was : Int) (acc : List Cl) (A : Option Addr) (c : Nat) (lc : List UInt8), gg = m - j ∧ j ≤ m ∧ s8 = .slice A j c ∧ s9 = .int .i64 was ∧ s32 = .int .i64 j ∧ Hid (acc.length = j) ∧ j + lc.length ≤ 1000000 ∧ I64 was ∧ Hid (∀ c ∈ acc, c.ok) ∧ Hid (SL (One b) w wr [rRdr b s lc, rBlk x 24 sh.cs, rBlk y 34 Nd.nil.cs, rBlk g 34 (Nd.mk dz ⟨B, k, e, L⟩ .nil).cs, rRow 44 1 (.slice B k e) k (L.map Row.v), rListD rCs L, rRow 32 12 (.slice A j c) j (acc.flatMap Cel.cells)]) ∧ Hid (R = pafter sh.sz.n sh.ms dz (pbind (pcells sh.sz.n sh.ms dz z (m - j) was acc lc) fun l r => plists sh.sz.n sh.ms dz (Z.l.drop (k + 1)) (L.map Row.l ++ [l]) r)))
          case atStart => exact ⟨0, -1, [], none, 0, l2, rfl, by omega, rfl, rfl, rfl, rfl, hl2', hw1, HO, H, HP⟩
          case round =>
            clear H HP HO hw1 hl2' hl2
            obtain ⟨j, was, acc, A, c, lc, hgj, hj, rfl, rfl, rfl, HAC, hjl, hwas, HO, H, HP⟩ := hrel
            have Hgj := Lib.hid hgj
            clear hgj
            by_cases hjm : j < m
            · have HP2 := Lib.hid (HP.out.trans (congrArg (fun o => pafter sh.sz.n sh.ms dz (pbind o fun l r => plists sh.sz.n sh.ms dz (Z.l.drop (k + 1)) (L.map Row.l ++ [l]) r)) (pcells_step hjm was acc lc)))
              have HT := Lib.hid (fun w (hr : Rdr w b s lc) => num_any b s lc z w hr hz64.1 hz64.2)
              clear HP
              obtain ⟨u, hu⟩ : ∃ u, u = IntKind.i64.wrap (was + 1) := ⟨_, rfl⟩
              have wu : IntKind.i64.wrap (was + 1) = u := hu.symm
              replace hu := Lib.hid hu
              go_wp2_with fail
              cases hx : pnum z lc with
              | error e1 =>
                have HE : Hid (R = .error e1) := by show _ = _; rw [HP2.out, hx]; rfl
                rw [hx] at HT
                clear hx
                refine (HT.out _ (H.out.rdr 0 rfl)).mono ?_; rintro e w3 ⟨rfl, hg, l3, hr⟩
                replace H := Lib.hid (H.out.setRdr 0 rfl hg hr); (try simp only [List.set_cons_zero, List.set_cons_succ, List.cons_append, List.nil_append, List.eraseIdx_cons_zero, List.eraseIdx_cons_succ, List.setIfInBounds_toArray, World.size_alloc, selR, List.getD_cons_zero, List.getD_cons_succ] at H)
                clear hg hr
                go_wp2_with fail
                refine ⟨rfl, ?_⟩
                rw [HE.out]
                exact ⟨rfl, H.out.fr.grown, l3, H.out.rdr 0 rfl⟩
              | ok q =>
                obtain ⟨gp, lg⟩ := q
                rw [hx] at HT
                refine (HT.out _ (H.out.rdr 0 rfl)).mono ?_; rintro e' w4 ⟨rfl, hg, hr⟩
                replace H := Lib.hid (H.out.setRdr 0 rfl hg hr); (try simp only [List.set_cons_zero, List.set_cons_succ, List.cons_append, List.nil_append, List.eraseIdx_cons_zero, List.eraseIdx_cons_succ, List.setIfInBounds_toArray, World.size_alloc, selR, List.getD_cons_zero, List.getD_cons_succ] at H)
                clear hg hr HT
                obtain ⟨key, hkey⟩ : ∃ key, key = keyAt was ((gp : Nat) : Int) := ⟨_, rfl⟩
                have HK64 : I64 key := by rw [hkey]; exact i64_wrap _
                have wk2 : IntKind.i64.wrap (u + ((gp : Nat) : Int)) = key := by rw [hkey, hu.out]; unfold keyAt; rw [IntWalk.i64_left, IntWalk.i64_left]
                have HP3 : Hid (R = pafter sh.sz.n sh.ms dz (pbind (pbind (pcell sh.sz.n sh.ms dz key lg) fun c r => pcells sh.sz.n sh.ms dz z (m - (j + 1)) key (acc ++ [c]) r) fun l r => plists sh.sz.n sh.ms dz (Z.l.drop (k + 1)) (L.map Row.l ++ [l]) r)) := by show _ = _; rw [HP2.out, hx, hkey]; rfl
                have hlg := pnum_lt hx
                have HC := Lib.hid (fun w1 (hg : w.grownBy w1 (some b)) (hr : Rdr w1 b s lg) => cread_any b s lg sh dz key w1 hr (fun w' hg' => HSH.out w' (grown_trans1 hg hg')) HD64 HK64)
                clear hx HP2 hkey
                go_upto_region 10 with fail
                clear wk2 wu hu
                have cd : w4.cell? ⟨g, 0, none⟩ = some (.int .i64 dz) := (H.out.blk 3 rfl).cell 0
                go_wp2_with ((with_reducible show wpList _ _ _ (⟨some 42, _, _, _, _, _⟩ :: _) _ _); (refine wpList_load_blk rfl rowShp2 (.tmp 3) rfl _ rfl (H.out.blk 1 rfl) rfl ?_))
                clear cd
                cases hx : pcell sh.sz.n sh.ms dz key lg with
                | error e1 =>
                  have HE : Hid (R = .error e1) := by show _ = _; rw [HP3.out, hx]; rfl
                  rw [hx] at HC
                  clear hx
                  refine (HC.out _ H.out.fr.grown (H.out.rdr 0 rfl)).mono ?_; rintro e w3 ⟨rfl, hg, l3, hr⟩
                  replace H := Lib.hid (H.out.setRdr 0 rfl hg hr); (try simp only [List.set_cons_zero, List.set_cons_succ, List.cons_append, List.nil_append, List.eraseIdx_cons_zero, List.eraseIdx_cons_succ, List.setIfInBounds_toArray, World.size_alloc, selR, List.getD_cons_zero, List.getD_cons_succ] at H)
                  clear hg hr
                  go_wp2_with fail
                  refine ⟨rfl, ?_⟩
                  rw [HE.out]
                  exact ⟨rfl, H.out.fr.grown, l3, H.out.rdr 0 rfl⟩
                | ok q =>
                  obtain ⟨cc, lr⟩ := q
                  obtain ⟨co, clen, ckey⟩ := pcell_ok hx HK64
                  have HP4 : Hid (R = pafter sh.sz.n sh.ms dz (pbind (pcells sh.sz.n sh.ms dz z (m - (j + 1)) key (acc ++ [cc]) lr) fun l r => plists sh.sz.n sh.ms dz (Z.l.drop (k + 1)) (L.map Row.l ++ [l]) r)) := by show _ = _; rw [HP3.out, hx]; rfl
                  rw [hx] at HC
                  clear hx HP3 ckey
                  refine (HC.out _ H.out.fr.grown (H.out.rdr 0 rfl)).mono ?_; rintro e' w5 ⟨rfl, hg, hr⟩
                  replace H := Lib.hid (H.out.setRdr 0 rfl hg hr); (try simp only [List.set_cons_zero, List.set_cons_succ, List.cons_append, List.nil_append, List.eraseIdx_cons_zero, List.eraseIdx_cons_succ, List.setIfInBounds_toArray, World.size_alloc, selR, List.getD_cons_zero, List.getD_cons_succ] at H)
                  clear hg hr HC
                  have HO2 : Hid (∀ c ∈ acc ++ [cc], c.ok) := fun c hc => by
                    rcases List.mem_append.1 hc with h | h
                    · exact HO.out c h
                    · rw [List.mem_singleton] at h; subst h; exact co
                  clear HO co
                  go_wp2_with (first | ((with_reducible show wpList _ _ _ (⟨some 47, _, _, _, _, _⟩ :: _) _ _); (refine wpList_buildSlice1 rfl E_cl (.tmp 46) rfl (cc.cs) rfl rfl (by omega) ?_; replace H := Lib.hid (H.out.addRow ((Bel.refl _).alloc _) (own_made _ 32 (cc.cs) _ rfl)); (try simp only [List.set_cons_zero, List.set_cons_succ, List.cons_append, List.nil_append, List.eraseIdx_cons_zero, List.eraseIdx_cons_succ, List.setIfInBounds_toArray, World.size_alloc, selR, List.getD_cons_zero, List.getD_cons_succ] at H))) | ((with_reducible show wpList _ _ _ (⟨some 48, _, _, _, _, _⟩ :: _) _ _); (refine wpList_append0 rfl (.tmp 40) (.tmp 47) _ rfl E_cl 0 (Nat.zero_le _) _ j _ rfl (H.out.row 6 rfl) _ 1 1 _ rfl (Rd.of_own (H.out.row 7 rfl)) (cl1_one cc) (by unfold maxLen; omega) (by omega) ?_; intro vq wq howq hgq hatq; replace H := Lib.hid (H.out.setRow 6 rfl hgq howq hatq); (try simp only [List.set_cons_zero, List.set_cons_succ, List.cons_append, List.nil_append, List.eraseIdx_cons_zero, List.eraseIdx_cons_succ, List.setIfInBounds_toArray, World.size_alloc, selR, List.getD_cons_zero, List.getD_cons_succ] at H); clear howq hgq hatq; obtain ⟨A2, c2, rfl, _⟩ := own_slice (H.out.row 6 rfl))))
                  replace H := Lib.hid (H.out.sel [0, 1, 2, 3, 4, 5, 6] (by decide) (by simp)); (try simp only [List.set_cons_zero, List.set_cons_succ, List.cons_append, List.nil_append, List.eraseIdx_cons_zero, List.eraseIdx_cons_succ, List.setIfInBounds_toArray, World.size_alloc, selR, List.getD_cons_zero, List.getD_cons_succ] at H)
                  go_wp2_with fail
                  go_roundg (m - (j + 1))
                  case rel => exact ⟨j + 1, key, acc ++ [cc], A2, c2, lr, rfl, by omega, rfl, rfl, by go_num, by show _ = _; rw [List.length_append, HAC.out]; rfl, by omega, HK64, HO2, by rw [List.flatMap_append, List.flatMap_cons, List.flatMap_nil, List.append_nil]; exact H, HP4⟩
                  case measure => rw [Hgj.out]; omega
            · obtain rfl : j = m := by omega
              have HP5 : Hid (R = pafter sh.sz.n sh.ms dz (plists sh.sz.n sh.ms dz (Z.l.drop (k + 1)) (L.map Row.l ++ [acc]) lc)) := by show _ = _; rw [HP.out, Nat.sub_self]; rfl
              clear HP
              have c1 := (H.out.blk 3 rfl).cell 1; simp only [List.getElem?_toArray, List.getElem?_cons_zero, List.getElem?_cons_succ] at c1
              go_wp2_with ((with_reducible show wpList _ _ _ (⟨some 55, _, _, _, _, _⟩ :: _) _ _); (replace H := Lib.hid (H.out.alloc #[.slice A j c] 44); (try simp only [List.set_cons_zero, List.set_cons_succ, List.cons_append, List.nil_append, List.eraseIdx_cons_zero, List.eraseIdx_cons_succ, List.setIfInBounds_toArray, World.size_alloc, selR, List.getD_cons_zero, List.getD_cons_succ] at H); refine wpList_append0 rfl (.tmp 52) (.tmp 54) _ rfl E_cls 0 (Nat.zero_le _) _ k _ rfl (H.out.row 4 rfl) _ 1 1 [.slice A j c] rfl (reads_of_block (H.out.blk 7 rfl) rfl) (by simp [Value.oneCell']) (by unfold maxLen; omega) (by omega) ?_; intro vq wq howq hgq hatq; replace H := Lib.hid (H.out.setRow 4 rfl hgq howq hatq); (try simp only [List.set_cons_zero, List.set_cons_succ, List.cons_append, List.nil_append, List.eraseIdx_cons_zero, List.eraseIdx_cons_succ, List.setIfInBounds_toArray, World.size_alloc, selR, List.getD_cons_zero, List.getD_cons_succ] at H); clear howq hgq hatq; obtain ⟨B2, e2, rfl, _⟩ := own_slice (H.out.row 4 rfl); clear c1; have c1 := (H.out.blk 3 rfl).cell 1; simp only [List.getElem?_toArray, List.getElem?_cons_zero, List.getElem?_cons_succ] at c1; have f1 := (H.out.blk 3 rfl).frozen 1))
              replace H := Lib.hid (H.out.setCell 3 rfl 1 (.slice B2 (k + 1) e2)); (try simp only [List.set_cons_zero, List.set_cons_succ, List.cons_append, List.nil_append, List.eraseIdx_cons_zero, List.eraseIdx_cons_succ, List.setIfInBounds_toArray, World.size_alloc, selR, List.getD_cons_zero, List.getD_cons_succ] at H)
              clear c1 f1
              replace H := Lib.hid (H.out.snocD 5 6 (a := ⟨A, j, c, acc⟩) (by omega) rfl rfl); (try simp only [List.set_cons_zero, List.set_cons_succ, List.cons_append, List.nil_append, List.eraseIdx_cons_zero, List.eraseIdx_cons_succ, List.setIfInBounds_toArray, World.size_alloc, selR, List.getD_cons_zero, List.getD_cons_succ] at H)
              replace H := Lib.hid (H.out.sel [0, 1, 2, 3, 4, 5] (by decide) (by simp)); (try simp only [List.set_cons_zero, List.set_cons_succ, List.cons_append, List.nil_append, List.eraseIdx_cons_zero, List.eraseIdx_cons_succ, List.setIfInBounds_toArray, World.size_alloc, selR, List.getD_cons_zero, List.getD_cons_succ] at H)
              have HLB2 : Hid (∀ y ∈ L ++ [Row.mk A j c acc], y.n ≤ 1000000 ∧ ∀ c ∈ y.l, c.ok) := fun y hy => by
                rcases List.mem_append.1 hy with h | h
                · exact HLB.out y h
                · rw [List.mem_singleton] at h; subst h; exact ⟨by show j ≤ _; omega, HO.out⟩
              clear HO HLB
              rw [← HAL.out]
              go_roundg (Z.n - (k + 1))
              case rel => exact ⟨k + 1, L ++ [Row.mk A j c acc], B2, e2, lc, rfl, by omega, by go_num, by show _ = _; rw [List.length_append, HLk.out]; rfl, by omega, HLB2, by rw [List.map_append]; exact H, by rw [List.map_append]; exact HP5⟩
              case measure => rw [Hgk.out]; omega
      · obtain rfl : k = Z.n := by omega
        have HP2 : Hid (R = pbind2 (pcell sh.sz.n sh.ms dz 0 l') fun c => ⟨dz, L.map Row.l, c⟩) := by show _ = _; rw [HP.out, plists_done HZL.out]; rfl
        clear HP
        have HT := Lib.hid (fun w1 (hg : w.grownBy w1 (some b)) (hr : Rdr w1 b s l') => cread_any b s l' sh dz 0 w1 hr (fun w' hg' => HSH.out w' (grown_trans1 hg hg')) HD64 z_i64)
        have cd : wr.cell? ⟨g, 0, none⟩ = some (.int .i64 dz) := (H.out.blk 3 rfl).cell 0
        go_wp2_with ((with_reducible show wpList _ _ _ (⟨some 59, _, _, _, _, _⟩ :: _) _ _); (refine wpList_load_blk rfl rowShp2 (.tmp 3) rfl _ rfl (H.out.blk 1 rfl) rfl ?_))
        clear cd
        cases hx : pcell sh.sz.n sh.ms dz 0 l' with
        | error e1 =>
          have HE : Hid (R = .error e1) := by show _ = _; rw [HP2.out, hx]; rfl
          rw [hx] at HT
          clear hx
          refine (HT.out _ H.out.fr.grown (H.out.rdr 0 rfl)).mono ?_; rintro e w3 ⟨rfl, hg, l3, hr⟩
          replace H := Lib.hid (H.out.setRdr 0 rfl hg hr); (try simp only [List.set_cons_zero, List.set_cons_succ, List.cons_append, List.nil_append, List.eraseIdx_cons_zero, List.eraseIdx_cons_succ, List.setIfInBounds_toArray, World.size_alloc, selR, List.getD_cons_zero, List.getD_cons_succ] at H)
          clear hg hr
          go_wp2_with fail
          refine ⟨rfl, ?_⟩
          rw [HE.out]
          exact ⟨rfl, H.out.fr.grown, l3, H.out.rdr 0 rfl⟩
        | ok q =>
          obtain ⟨cc, lr⟩ := q
          obtain ⟨co, _, _⟩ := pcell_ok hx z_i64
          have HN : Hid (R = .ok (⟨dz, L.map Row.l, cc⟩, lr)) := by show _ = _; rw [HP2.out, hx]; rfl
          rw [hx] at HT
          clear hx HP2
          refine (HT.out _ H.out.fr.grown (H.out.rdr 0 rfl)).mono ?_; rintro e' w5 ⟨rfl, hg, hr⟩
          replace H := Lib.hid (H.out.setRdr 0 rfl hg hr); (try simp only [List.set_cons_zero, List.set_cons_succ, List.cons_append, List.nil_append, List.eraseIdx_cons_zero, List.eraseIdx_cons_succ, List.setIfInBounds_toArray, World.size_alloc, selR, List.getD_cons_zero, List.getD_cons_succ] at H)
          clear hg hr HT
          go_upto_region 16 with ((with_reducible show wpList _ _ _ (⟨_, .store _ (.tmp 63) _, _, _, _, _⟩ :: _) _ _); refine wpList_store_at rfl rowCl (.tmp 63) (.tmp 62) rfl g 2 rfl (H.out.blk 3 rfl) cc.cs rfl (by simp) rfl (cl_one cc) ?_; intro wq bq hgq; replace bq : Blk wq g 34 (Nd.mk dz ⟨B, Z.n, e, L⟩ cc).cs := (by rw [← setAll_ndA (Nd.mk dz ⟨B, Z.n, e, L⟩ .nil) cc]; exact bq); replace H := Lib.hid (H.out.setBlk 3 rfl hgq bq); (try simp only [List.set_cons_zero, List.set_cons_succ, List.cons_append, List.nil_append, List.eraseIdx_cons_zero, List.eraseIdx_cons_succ, List.setIfInBounds_toArray, World.size_alloc, selR, List.getD_cons_zero, List.getD_cons_succ] at H); clear hgq bq)
          obtain ⟨D, hD⟩ : ∃ D : Nd, D = (Nd.mk dz ⟨B, Z.n, e, L⟩ cc) := ⟨_, rfl⟩
          replace H := Lib.hid (H.out.mkNd 4 5 (n := (Nd.mk dz ⟨B, Z.n, e, L⟩ cc)) (by omega) rfl rfl ⟨HD64, co⟩ HLB.out (by show Z.n ≤ _; omega)); (try simp only [List.set_cons_zero, List.set_cons_succ, List.cons_append, List.nil_append, List.eraseIdx_cons_zero, List.eraseIdx_cons_succ, List.setIfInBounds_toArray, World.size_alloc, selR, List.getD_cons_zero, List.getD_cons_succ] at H)
          rw [← hD] at H
          have HN2 : Hid (R = .ok (D.con, lr)) := by show _ = _; rw [HN.out, hD]
          clear hD HN
          go_wp2_with (first | ((with_reducible show wpList _ _ _ (⟨some 64, _, _, _, _, _⟩ :: _) _ _); (refine wpList_load_blk rfl rowNd (.tmp 5) rfl _ rfl (H.out.blk 3 rfl) rfl ?_)) | ((with_reducible show wpList _ _ _ (⟨_, .store _ (.tmp 4) _, _, _, _, _⟩ :: _) _ _); (refine wpList_store_blk rfl rowNd (.tmp 4) (.tmp 64) rfl _ rfl (H.out.blk 2 rfl) rfl (D.cs) rfl rfl (nd_one D) ?_; intro wq bq hgq; replace H := Lib.hid (H.out.setBlk 2 rfl hgq bq); (try simp only [List.set_cons_zero, List.set_cons_succ, List.cons_append, List.nil_append, List.eraseIdx_cons_zero, List.eraseIdx_cons_succ, List.setIfInBounds_toArray, World.size_alloc, selR, List.getD_cons_zero, List.getD_cons_succ] at H); clear hgq bq)))
          refine bodyPost_ret (results_blk1 rfl rowNd rfl (H.out.blk 2 rfl) rfl) rfl ?_
          rw [HN2.out]
          exact ⟨D, rfl, rfl, H.out.fr.grown, H.out.rdr 0 rfl, H.out.get 4 rfl, H.out.new1 4 0 (by omega) rfl rfl rfl⟩

end Go.Proofs.Ytlclllkjnhgbjaa

namespace Go.Proofs.Ytlclllkjnhgbjaa
open Go.RowKit
set_option linter.unusedVariables false
set_option linter.unusedSimpArgs false


theorem wpList_build0N {ops : Array Oper} {rest : List Oper} {o : Oper} {a : Act} {w : World} {Q : Exit → Act → World → Prop} (hgd : o.guard = none) {t : TypeId} (ho : o.op = .build t #[])
    {v : Value} (hr : ∀ w : World, (Instr.build t #[]).run Try.prog w = .ok v w)
    (h : wpList Try.prog ops Q rest (a.put o.dst v) w) : wpList Try.prog ops Q (o :: rest) a w := by
  refine wpList_plain hgd fun K hK => ?_
  unfold Oper.wp execOp
  simp only [ho, List.map_toArray, List.map_nil, Sem.run_bind, hr, Result.andThen_ok, Sem.run_pure]
  exact hK _ _ h
theorem holds_ndnil (w : World) : (rNd .nil).holds w := by
  have h1 := holds_row (World.ownsRow_nil w 0 44 1)
  have h2 := holds_listD_nil rCs w
  refine ⟨fun g hg => hg.elim (h1.1 g) (h2.1 g), fun w' hs hk => ⟨⟨h1.keep hs fun g hg => hk g (.inl hg), h2.keep hs fun g hg => hk g (.inr hg)⟩, ⟨z_i64, ⟨z_i64, z_i64, ag_zero_ok⟩⟩, fun y hy => by (simp at hy), by show (0 : Nat) ≤ _; omega⟩⟩
theorem ndnil_new {m : Nat} : ∀ g, (rNd .nil).D g → m ≤ g := by
  rintro g (h | ⟨T, hT, _⟩)
  · simp [Value.ownBlock] at h
  · cases hT
/-- The node read, and the reader. -/
def Rcel (w0 : World) (s : List UInt8) (B g z y : Nat) (sh : Shp) (o : PR NC) (k : Int) (w' : World) : Prop :=
  k = endErr o ∧ ∃ (D : Nd) (q : List UInt8), SL No w0 w' (rAll B s q [rBlk g 34 D.cs, rNd D, rBlk z 24 sh.cs, rBlk y 34 Nd.nil.cs]) ∧ ∀ d r, o = .ok (d, r) → D.con = d
set_option maxRecDepth 100000 in
set_option maxHeartbeats 2000000 in
theorem celtake1_any (w0 : World) (B g z y : Nat) (s : List UInt8) (sh : Shp) (w : World) (hs : sh.rd w0) (h1 : 1 ≤ sh.sz.n) (hsm : SmallS sh)
    (h : SL No w0 w (rAll B s s [rBlk g 34 Nd.nil.cs, rNd .nil, rBlk z 24 sh.cs, rBlk y 34 Nd.nil.cs])) :
    Calls Try.prog 44 #[.pointer (some ⟨B + 1, 0, none⟩), .pointer (some ⟨z, 0, none⟩), .pointer (some ⟨g, 0, none⟩)] w (AllPost B s (Rcel w0 s B g z y sh (pbody sh.con sh.ms s))) := by
  have hB : w0.heap.size ≤ B + 1 := (h.own 0 _ rfl (B + 1) rfl).elim (fun h => h) (fun h => h.elim)
  have HT := Lib.hid (cbody_any (B + 1) s s sh w (h.rdr 0 rfl) (fun w' hg => hs.mono ⟨hg.os.trans h.fr.os, hg.tape.trans h.fr.tape, hg.output.trans h.fr.output, Nat.le_trans h.fr.size hg.size, fun g hgl => (hg.block g (Nat.lt_of_lt_of_le hgl h.fr.size) (by intro e; injection e with e; omega)).trans (h.fr.block g hgl (fun h => h))⟩) h1 hsm)
  have H : Hid (SL No w0 w [rRdr (B + 1) s s, rBlk B 39 #[.int .i64 0], rBlk (B + 2) 88 #[.pointer (some ⟨B + 1, 0, none⟩)], rBlk g 34 Nd.nil.cs, rNd .nil, rBlk z 24 sh.cs, rBlk y 34 Nd.nil.cs]) := h
  clear h hs hB
  go_enter Try.func44, Try.ntmps44
  go_wp2_with ((with_reducible show wpList _ _ _ (⟨some 5, _, _, _, _, _⟩ :: _) _ _); (refine wpList_load_blk rfl rowShp2 (.tmp 1) rfl _ rfl (H.out.blk 5 rfl) rfl ?_))
  cases ho : pbody sh.con sh.ms s with
  | error k =>
    have Ho := Lib.hid ho
    rw [ho] at HT
    refine HT.out.mono ?_; rintro e w1 ⟨rfl, hg, l1, hr⟩
    replace H := Lib.hid (H.out.setRdr 0 rfl hg hr); (try simp only [List.set_cons_zero, List.set_cons_succ, List.cons_append, List.nil_append, List.eraseIdx_cons_zero, List.eraseIdx_cons_succ, List.setIfInBounds_toArray, World.size_alloc, selR, List.getD_cons_zero, List.getD_cons_succ] at H)
    clear ho hg hr
    go_wp2_with fail
    refine ⟨rfl, ?_⟩
    have H1 : SL No w0 w1 (rAll B s l1 [rBlk g 34 Nd.nil.cs, rNd .nil, rBlk z 24 sh.cs, rBlk y 34 Nd.nil.cs]) := H.out
    exact SL.err H1 ⟨rfl, .nil, l1, H1, fun _ _ h => by cases h⟩
  | ok q =>
    obtain ⟨d, l1⟩ := q
    have Ho := Lib.hid ho
    rw [ho] at HT
    refine HT.out.mono ?_; rintro e w1 ⟨D, rfl, hDc, hg, hr, hnew⟩
    have HDc := Lib.hid hDc
    replace H := Lib.hid (H.out.setRdrAdd 0 rfl hg hr (rNd D) hnew.1 hnew.2); (try simp only [List.set_cons_zero, List.set_cons_succ, List.cons_append, List.nil_append, List.eraseIdx_cons_zero, List.eraseIdx_cons_succ, List.setIfInBounds_toArray, World.size_alloc, selR, List.getD_cons_zero, List.getD_cons_succ] at H)
    clear ho hg hr hDc hnew HT
    go_wp2_with ((with_reducible show wpList _ _ _ (⟨_, .store _ (.tmp 2) _, _, _, _, _⟩ :: _) _ _); (refine wpList_store_blk rfl rowNd (.tmp 2) (.tmp 6) rfl _ rfl (H.out.blk 3 rfl) rfl (D.cs) rfl rfl (nd_one D) ?_; intro wq bq hgq; replace H := Lib.hid (H.out.setBlk 3 rfl hgq bq); (try simp only [List.set_cons_zero, List.set_cons_succ, List.cons_append, List.nil_append, List.eraseIdx_cons_zero, List.eraseIdx_cons_succ, List.setIfInBounds_toArray, World.size_alloc, selR, List.getD_cons_zero, List.getD_cons_succ] at H); clear hgq bq))
    go_end0
    replace H := Lib.hid (H.out.sel [0, 1, 2, 3, 7, 5, 6] (by decide) (by simp)); (try simp only [List.set_cons_zero, List.set_cons_succ, List.cons_append, List.nil_append, List.eraseIdx_cons_zero, List.eraseIdx_cons_succ, List.setIfInBounds_toArray, World.size_alloc, selR, List.getD_cons_zero, List.getD_cons_succ] at H)
    have H1 : SL No w0 _ (rAll B s l1 [rBlk g 34 D.cs, rNd D, rBlk z 24 sh.cs, rBlk y 34 Nd.nil.cs]) := H.out
    exact SL.ok H1 ⟨by rw [Ho.out]; rfl, D, l1, H1, fun d' r' h => by rw [Ho.out] at h; injection h with h; injection h with h _; exact HDc.out.trans h⟩

/-- What Take answers. -/
def Tkcel (o : Option (NC × Nat)) (w : World) (e : Ending) (w' : World) : Prop := ∃ D : Nd, e = .returned (.tuple #[.agg D.cs, .int .i64 (szN (o.map Prod.snd)), .int .i64 (szErr (o.map Prod.snd))]) ∧ D.con = ((o.map Prod.fst).getD .nil) ∧ Bel w w' ∧ NewR w w' (rNd D)

theorem pcells_err {nd : Nat} {ms d z : Int} : ∀ (n : Nat) (was : Int) (acc : List Cl) (r : List UInt8) (k : Int), pcells nd ms d z n was acc r = .error k → k ≠ 0
  | 0, was, acc, r, k, h => by cases h
  | n + 1, was, acc, r, k, h => by
    rw [pcells] at h
    cases h1 : pnum z r with
    | error e => rw [h1, pbind_err] at h; injection h with h; have := pnum_err h1; omega
    | ok q =>
      obtain ⟨g, r1⟩ := q
      rw [h1, pbind_ok] at h
      cases h2 : pcell nd ms d (keyAt was g) r1 with
      | error e => rw [h2, pbind_err] at h; injection h with h; have := pcell_err h2; omega
      | ok q =>
        obtain ⟨c, r2⟩ := q
        rw [h2, pbind_ok] at h
        exact pcells_err n _ _ _ k h
theorem plists_err {nd : Nat} {ms d : Int} : ∀ (zs : List Int) (acc : List (List Cl)) (r : List UInt8) (k : Int), plists nd ms d zs acc r = .error k → k ≠ 0
  | [], acc, r, k, h => by cases h
  | z :: zs, acc, r, k, h => by
    rw [plists] at h
    cases h1 : plist nd ms d z r with
    | error e =>
      rw [h1, pbind_err] at h
      injection h with h
      subst h
      unfold plist at h1
      cases h2 : pnum z r with
      | error e => rw [h2, pbind_err] at h1; injection h1 with h1; have := pnum_err h2; omega
      | ok q =>
        obtain ⟨n, r2⟩ := q
        rw [h2, pbind_ok] at h1
        exact pcells_err n _ _ _ _ h1
    | ok q =>
      obtain ⟨l, r2⟩ := q
      rw [h1, pbind_ok] at h
      exact plists_err zs _ _ k h
theorem pbody_err {xs : List (List Int)} {ms k : Int} {s : List UInt8} (h : pbody xs ms s = .error k) : k ≠ 0 := by
  unfold pbody at h
  cases h1 : pnum ((xs.length : Int) - 1) s with
  | error e => rw [h1, pbind_err] at h; injection h with h; have := pnum_err h1; omega
  | ok q =>
    obtain ⟨d, r⟩ := q
    rw [h1, pbind_ok] at h
    unfold pafter at h
    cases h2 : plists xs.length ms (d : Nat) ((xs[d]?).getD []) [] r with
    | error e => rw [h2, pbind_err] at h; injection h with h; subst h; exact plists_err _ _ _ _ h2
    | ok q =>
      obtain ⟨ls, r2⟩ := q
      rw [h2, pbind_ok] at h
      cases h3 : pcell xs.length ms (d : Nat) 0 r2 with
      | error e => rw [h3, pbind2_err] at h; injection h with h; have := pcell_err h3; omega
      | ok q =>
        obtain ⟨c, r3⟩ := q
        rw [h3, pbind2_ok] at h
        cases h
set_option maxRecDepth 100000 in
set_option maxHeartbeats 4000000 in
theorem celtake_any (sh : Shp) (s : List UInt8) (w : World) (hs : sh.rd w) (hsl : s.length ≤ 1000001) (hsm : SmallS sh) :
    Calls Try.prog 16 #[.agg sh.cs, .string ⟨s.toArray⟩] w (Tkcel (nodeTake sh.con sh.ms s) w) := by
  have hmf : ∀ (fn : Fn) (first cap : Array Value) (w : World), (Instr.makeFunc fn first cap).run Try.prog w = .ok (.func fn first cap) w := fun _ _ _ _ => rfl
  have hb0 : ∀ w : World, (Instr.build 34 #[]).run Try.prog w = .ok (.agg Nd.nil.cs) w := fun _ => by kernel_rfl
  have h20 := hsm.1
  have hxl : sh.con.length = sh.sz.n := by show (sh.sz.l.map Row.l).length = _; rw [List.length_map]; exact hs.sz.len
  have HS1 := Lib.hid hs
  have HCK := Lib.hid (fun (D : Nd) w' (hb : Bel w w') (hD : D.rd w') => ncheck_any sh D w' (hs.mono hb) hD)
  have HSZ := Lib.hid (fun w' => csize_any s w' hsl)
  have H := Lib.hid (((SL.start No w).alloc sh.cs 24).alloc #[.int .i64 0, .slice none 0 0, .int .i64 0, .int .i64 0, .int .i64 0, .int .i64 0, .int .i64 0, .int .i64 0, .int .i64 0, .int .i64 0, .int .i64 0, .int .i64 0, .int .i64 0, .int .i64 0] 34)
  (try simp only [List.set_cons_zero, List.set_cons_succ, List.cons_append, List.nil_append, List.eraseIdx_cons_zero, List.eraseIdx_cons_succ, List.setIfInBounds_toArray, World.size_alloc, selR, List.getD_cons_zero, List.getD_cons_succ] at H)
  obtain ⟨O, hO⟩ : ∃ O, O = nodeTake sh.con sh.ms s := ⟨_, rfl⟩
  have HO := Lib.hid hO
  rw [← hO]
  have hcs : sh.cs = #[.slice sh.sz.A sh.sz.n sh.sz.c, .int .i64 sh.ms] := rfl
  have HCS := Lib.hid hcs
  clear hcs hs hO
  go_enter Try.func16, Try.ntmps16
  go_upto_region 1 with fail
  (try rw [← HCS.out] at *)
  generalize w.heap.size + 1 = y at *
  generalize w.heap.size = x at *
  generalize World.alloc (World.alloc _ _) _ = w1 at *
  go_wp2_with fail
  refine (HSZ.out _).mono ?_; rintro e w2 ⟨rfl, hb2⟩
  replace H := Lib.hid (H.out.bel hb2); (try simp only [List.set_cons_zero, List.set_cons_succ, List.cons_append, List.nil_append, List.eraseIdx_cons_zero, List.eraseIdx_cons_succ, List.setIfInBounds_toArray, World.size_alloc, selR, List.getD_cons_zero, List.getD_cons_succ] at H)
  clear hb2 HSZ
  cases hz : nodeSize s with
  | none =>
    have HV : Hid (O = none) := by show _ = _; rw [HO.out]; unfold nodeTake; rw [hz]
    rw [show szN none = 0 from rfl, show szErr none = 15 from rfl]
    clear hz HO
    go_wp2_with (first | ((with_reducible show wpList _ _ _ (⟨some 32, _, _, _, _, _⟩ :: _) _ _); refine wpList_build0N rfl rfl hb0 ?_) | ((with_reducible show wpList _ _ _ (⟨_, .store _ (.tmp 4) _, _, _, _, _⟩ :: _) _ _); (refine wpList_store_blk rfl rowNd (.tmp 4) (.tmp 32) rfl _ rfl (H.out.blk 1 rfl) rfl (Nd.nil.cs) rfl rfl (nd_one _) ?_; intro wq bq hgq; replace H := Lib.hid (H.out.setBlk 1 rfl hgq bq); (try simp only [List.set_cons_zero, List.set_cons_succ, List.cons_append, List.nil_append, List.eraseIdx_cons_zero, List.eraseIdx_cons_succ, List.setIfInBounds_toArray, World.size_alloc, selR, List.getD_cons_zero, List.getD_cons_succ] at H); clear hgq bq)))
    refine bodyPost_ret (results_blk3 rfl rowNd rfl (H.out.blk 1 rfl) rfl) rfl ?_
    rw [HV.out]
    exact ⟨Nd.nil, rfl, rfl, H.out.to, holds_ndnil _, ndnil_new⟩
  | some z =>
    rw [show szErr (some z) = 0 from rfl, show szN (some z) = (z : Nat) from rfl]
    by_cases hzl : s.length < z
    · have HV : Hid (O = none) := by show _ = _; rw [HO.out]; unfold nodeTake; rw [hz]; simp only; rw [if_pos (.inl hzl)]
      have d1 : decide ((s.length : Int) < (z : Int)) = true := by simpa using hzl
      have d2 : decide (s.length < z) = true := by simpa using hzl
      clear hz HO hzl
      go_wp2_with (first | ((with_reducible show wpList _ _ _ (⟨some 32, _, _, _, _, _⟩ :: _) _ _); refine wpList_build0N rfl rfl hb0 ?_) | ((with_reducible show wpList _ _ _ (⟨_, .store _ (.tmp 4) _, _, _, _, _⟩ :: _) _ _); (refine wpList_store_blk rfl rowNd (.tmp 4) (.tmp 32) rfl _ rfl (H.out.blk 1 rfl) rfl (Nd.nil.cs) rfl rfl (nd_one _) ?_; intro wq bq hgq; replace H := Lib.hid (H.out.setBlk 1 rfl hgq bq); (try simp only [List.set_cons_zero, List.set_cons_succ, List.cons_append, List.nil_append, List.eraseIdx_cons_zero, List.eraseIdx_cons_succ, List.setIfInBounds_toArray, World.size_alloc, selR, List.getD_cons_zero, List.getD_cons_succ] at H); clear hgq bq)))
      refine bodyPost_ret (results_blk3 rfl rowNd rfl (H.out.blk 1 rfl) rfl) rfl ?_
      rw [HV.out]
      exact ⟨Nd.nil, rfl, rfl, H.out.to, holds_ndnil _, ndnil_new⟩
    have d1 : decide ((s.length : Int) < (z : Int)) = false := by simp; omega
    have d2 : decide (s.length < z) = false := by simp; omega
    have cs0 : w2.cell? ⟨x, 0, none⟩ = some (.slice sh.sz.A sh.sz.n sh.sz.c) := (H.out.blk 0 rfl).cell 0
    by_cases hx0 : sh.sz.n = 0
    · have HV : Hid (O = none) := by show _ = _; rw [HO.out]; unfold nodeTake; rw [hz]; simp only; rw [if_pos (.inr (by rw [hxl]; exact hx0))]
      rw [hx0] at cs0
      clear hz HO hxl
      go_wp2_with (first | ((with_reducible show wpList _ _ _ (⟨some 32, _, _, _, _, _⟩ :: _) _ _); refine wpList_build0N rfl rfl hb0 ?_) | ((with_reducible show wpList _ _ _ (⟨_, .store _ (.tmp 4) _, _, _, _, _⟩ :: _) _ _); (refine wpList_store_blk rfl rowNd (.tmp 4) (.tmp 32) rfl _ rfl (H.out.blk 1 rfl) rfl (Nd.nil.cs) rfl rfl (nd_one _) ?_; intro wq bq hgq; replace H := Lib.hid (H.out.setBlk 1 rfl hgq bq); (try simp only [List.set_cons_zero, List.set_cons_succ, List.cons_append, List.nil_append, List.eraseIdx_cons_zero, List.eraseIdx_cons_succ, List.setIfInBounds_toArray, World.size_alloc, selR, List.getD_cons_zero, List.getD_cons_succ] at H); clear hgq bq)))
      refine bodyPost_ret (results_blk3 rfl rowNd rfl (H.out.blk 1 rfl) rfl) rfl ?_
      rw [HV.out]
      exact ⟨Nd.nil, rfl, rfl, H.out.to, holds_ndnil _, ndnil_new⟩
    have d3 : ((sh.sz.n : Int) == 0) = false := by simp; omega
    have d4 : (sh.sz.n == 0) = false := by simp; omega
    obtain ⟨n, k, ok, hn⟩ : ∃ n k ok, ntake s = (n, k, ok) := ⟨_, _, _, rfl⟩
    have hnz : ok = true ∧ n ≤ 1048576 ∧ z = n + k := by
      unfold nodeSize at hz
      rw [hn] at hz
      simp only at hz
      split at hz
      · rename_i h; injection hz with hz; exact ⟨h.1, h.2, hz.symm⟩
      · cases hz
    have hk9 := (ntake_size s).2.1
    rw [hn] at hk9
    simp only at hk9
    have HO2 : Hid (O = match pbody sh.con sh.ms ((s.take z).drop k) with | .error _ => none | .ok (n, r) => if r = [] ∧ nodeErr sh.con sh.ms n = 0 then some (n, z) else none) := by show _ = _; rw [HO.out]; unfold nodeTake; rw [hz]; simp only; rw [if_neg (by rw [hxl]; omega), hn]; (try rfl)
    have HTV := Lib.hid (fun w' => take_val hn w' hsl)
    obtain ⟨rfl, hn1, hn2⟩ := hnz
    clear hz HO hxl
    have k0 : (0 : Int) ≤ k := by omega
    have k1 : (k : Int) ≤ z := by omega
    have k2 : (z : Int) ≤ s.length := by omega
    have hd1 : 1 ≤ sh.sz.n := by omega
    clear hn1 hn2
    go_upto_region 5 with fail
    (try simp only [Act.put, List.setIfInBounds_toArray, List.set_cons_zero, List.set_cons_succ])
    clear cs0 d1 d2 d3 d4
    replace H := Lib.hid (H.out.alloc #[.int .i64 0, .slice none 0 0, .int .i64 0, .int .i64 0, .int .i64 0, .int .i64 0, .int .i64 0, .int .i64 0, .int .i64 0, .int .i64 0, .int .i64 0, .int .i64 0, .int .i64 0, .int .i64 0] 34); (try simp only [List.set_cons_zero, List.set_cons_succ, List.cons_append, List.nil_append, List.eraseIdx_cons_zero, List.eraseIdx_cons_succ, List.setIfInBounds_toArray, World.size_alloc, selR, List.getD_cons_zero, List.getD_cons_succ] at H)
    replace H := Lib.hid (H.out.add (Bel.refl _) (rNd .nil) (holds_ndnil _) ndnil_new); (try simp only [List.set_cons_zero, List.set_cons_succ, List.cons_append, List.nil_append, List.eraseIdx_cons_zero, List.eraseIdx_cons_succ, List.setIfInBounds_toArray, World.size_alloc, selR, List.getD_cons_zero, List.getD_cons_succ] at H)
    replace H := Lib.hid (H.out.sel [2, 3, 0, 1] (by decide) (by simp)); (try simp only [List.set_cons_zero, List.set_cons_succ, List.cons_append, List.nil_append, List.eraseIdx_cons_zero, List.eraseIdx_cons_succ, List.setIfInBounds_toArray, World.size_alloc, selR, List.getD_cons_zero, List.getD_cons_succ] at H)
    generalize w2.heap.size = g at *
    generalize World.alloc w2 _ = w3 at *
    go_wp2_with fail
    refine (HTV.out _).mono ?_; rintro e W ⟨rfl, hb3⟩
    replace H := Lib.hid (H.out.bel hb3); (try simp only [List.set_cons_zero, List.set_cons_succ, List.cons_append, List.nil_append, List.eraseIdx_cons_zero, List.eraseIdx_cons_succ, List.setIfInBounds_toArray, World.size_alloc, selR, List.getD_cons_zero, List.getD_cons_succ] at H)
    clear hb3 HTV
    obtain ⟨q, hq⟩ : ∃ q, q = (s.take z).drop k := ⟨_, rfl⟩
    have hex : (⟨s.toArray⟩ : ByteArray).extract k z = ⟨q.toArray⟩ := by rw [str_extract, hq, List.drop_take]
    have hql : q.length ≤ 1000001 := by rw [hq, List.length_drop, List.length_take]; omega
    rw [← hq] at HO2
    clear hq
    go_wp2_with fail
    clear hex
    refine (all_any 44 #[.pointer (some ⟨x, 0, none⟩), .pointer (some ⟨g, 0, none⟩)] q W hql (Rcel w q W.heap.size g x y sh (pbody sh.con sh.ms q)) (cf_any Try.func44 (by kernel_rfl) (by kernel_rfl)) (fun w4 h1 h2 h3 h4 h5 => celtake1_any w W.heap.size g x y q sh w4 HS1.out hd1 hsm (H.out.begin h1 h3 h4 h5))).mono ?_
    rintro e w5 ⟨ke, w4, rfl, ⟨hke, D, q', hS, hD⟩, hbut, _⟩
    replace H := Lib.hid (hS.ended hbut); (try simp only [List.set_cons_zero, List.set_cons_succ, List.cons_append, List.nil_append, List.eraseIdx_cons_zero, List.eraseIdx_cons_succ, List.setIfInBounds_toArray, World.size_alloc, selR, List.getD_cons_zero, List.getD_cons_succ] at H)
    clear hS hbut
    generalize W.heap.size = B at *
    cases hT : pbody sh.con sh.ms q with
    | error k' =>
      have HV : Hid (O = none) := by show _ = _; rw [HO2.out, hT]
      have hk' := pbody_err hT
      rw [hT] at hke
      have hk2 : ke = k' := hke
      subst hk2
      have dk : (ke == 0) = false := by simpa using hk'
      have dk2 : (ke != 0) = true := by simpa using hk'
      clear hT hke hk' hD HO2
      go_wp2_with (first | ((with_reducible show wpList _ _ _ (⟨some 53, _, _, _, _, _⟩ :: _) _ _); refine wpList_build0N rfl rfl hb0 ?_) | ((with_reducible show wpList _ _ _ (⟨_, .store _ (.tmp 4) _, _, _, _, _⟩ :: _) _ _); (refine wpList_store_blk rfl rowNd (.tmp 4) (.tmp 53) rfl _ rfl (H.out.blk 3 rfl) rfl (Nd.nil.cs) rfl rfl (nd_one _) ?_; intro wq bq hgq; replace H := Lib.hid (H.out.setBlk 3 rfl hgq bq); (try simp only [List.set_cons_zero, List.set_cons_succ, List.cons_append, List.nil_append, List.eraseIdx_cons_zero, List.eraseIdx_cons_succ, List.setIfInBounds_toArray, World.size_alloc, selR, List.getD_cons_zero, List.getD_cons_succ] at H); clear hgq bq)))
      refine bodyPost_ret (results_blk3 rfl rowNd rfl (H.out.blk 3 rfl) rfl) rfl ?_
      rw [HV.out]
      exact ⟨Nd.nil, rfl, rfl, H.out.to, holds_ndnil _, ndnil_new⟩
    | ok r =>
      obtain ⟨nc, r⟩ := r
      rw [hT] at hke
      obtain rfl := hD _ _ hT
      by_cases hr : r = []
      · have hk2 : ke = 0 := by rw [hke]; show (if r = [] then (0 : Int) else 3) = 0; rw [if_pos hr]
        subst hk2
        obtain ⟨E, hE⟩ : ∃ E, E = nodeErr sh.con sh.ms D.con := ⟨_, rfl⟩
        have HV0 : Hid (O = if E = 0 then some (D.con, z) else none) := by show _ = _; rw [HO2.out, hT]; simp only; rw [← hE]; by_cases h : E = 0 <;> simp [h, hr]
        have HC := HCK.out D _ H.out.to (nd_of_own (H.out.get 1 rfl))
        rw [← hE] at HC
        have HC := Lib.hid HC
        clear hT hke hD HO2 hE HCK
        go_wp2_with (first | ((with_reducible show wpList _ _ _ (⟨some 48, _, _, _, _, _⟩ :: _) _ _); refine wpList_load_blkG (by first | rfl | go_simp) rowShp2 (.tmp 2) (by rfl) _ (by rfl) (H.out.blk 2 rfl) rfl ?_) | ((with_reducible show wpList _ _ _ (⟨some 49, _, _, _, _, _⟩ :: _) _ _); refine wpList_load_blkG (by first | rfl | go_simp) rowNd (.tmp 9) (by rfl) _ (by rfl) (H.out.blk 0 rfl) rfl ?_))
        refine HC.out.mono ?_; rintro e w6 ⟨rfl, hb6⟩
        replace H := Lib.hid (H.out.bel hb6); (try simp only [List.set_cons_zero, List.set_cons_succ, List.cons_append, List.nil_append, List.eraseIdx_cons_zero, List.eraseIdx_cons_succ, List.setIfInBounds_toArray, World.size_alloc, selR, List.getD_cons_zero, List.getD_cons_succ] at H)
        clear hb6 HC
        by_cases hE0 : E = 0
        · subst hE0
          have HV : Hid (O = some (D.con, z)) := by show _ = _; rw [HV0.out, if_pos rfl]
          clear HV0
          go_wp2_with (first | ((with_reducible show wpList _ _ _ (⟨some 54, _, _, _, _, _⟩ :: _) _ _); (refine wpList_load_blk rfl rowNd (.tmp 9) rfl _ rfl (H.out.blk 0 rfl) rfl ?_)) | ((with_reducible show wpList _ _ _ (⟨_, .store _ (.tmp 4) _, _, _, _, _⟩ :: _) _ _); (refine wpList_store_blk rfl rowNd (.tmp 4) (.tmp 54) rfl _ rfl (H.out.blk 3 rfl) rfl (D.cs) rfl rfl (nd_one D) ?_; intro wq bq hgq; replace H := Lib.hid (H.out.setBlk 3 rfl hgq bq); (try simp only [List.set_cons_zero, List.set_cons_succ, List.cons_append, List.nil_append, List.eraseIdx_cons_zero, List.eraseIdx_cons_succ, List.setIfInBounds_toArray, World.size_alloc, selR, List.getD_cons_zero, List.getD_cons_succ] at H); clear hgq bq)))
          refine bodyPost_ret (results_blk3 rfl rowNd rfl (H.out.blk 3 rfl) rfl) rfl ?_
          rw [HV.out]
          exact ⟨D, rfl, rfl, H.out.to, H.out.get 1 rfl, H.out.new 1 rfl⟩
        · have HV : Hid (O = none) := by show _ = _; rw [HV0.out, if_neg hE0]
          have dk : (E == 0) = false := by simpa using hE0
          have dk2 : (E != 0) = true := by simpa using hE0
          clear HV0
          go_wp2_with (first | ((with_reducible show wpList _ _ _ (⟨some 53, _, _, _, _, _⟩ :: _) _ _); refine wpList_build0N rfl rfl hb0 ?_) | ((with_reducible show wpList _ _ _ (⟨_, .store _ (.tmp 4) _, _, _, _, _⟩ :: _) _ _); (refine wpList_store_blk rfl rowNd (.tmp 4) (.tmp 53) rfl _ rfl (H.out.blk 3 rfl) rfl (Nd.nil.cs) rfl rfl (nd_one _) ?_; intro wq bq hgq; replace H := Lib.hid (H.out.setBlk 3 rfl hgq bq); (try simp only [List.set_cons_zero, List.set_cons_succ, List.cons_append, List.nil_append, List.eraseIdx_cons_zero, List.eraseIdx_cons_succ, List.setIfInBounds_toArray, World.size_alloc, selR, List.getD_cons_zero, List.getD_cons_succ] at H); clear hgq bq)))
          refine bodyPost_ret (results_blk3 rfl rowNd rfl (H.out.blk 3 rfl) rfl) rfl ?_
          rw [HV.out]
          exact ⟨Nd.nil, rfl, rfl, H.out.to, holds_ndnil _, ndnil_new⟩
      · have HV : Hid (O = none) := by show _ = _; rw [HO2.out, hT]; simp only; rw [if_neg (fun h => hr h.1)]
        have hk2 : ke = 3 := by rw [hke]; show (if r = [] then (0 : Int) else 3) = 3; rw [if_neg hr]
        subst hk2
        clear hT hke hr hD HO2
        go_wp2_with (first | ((with_reducible show wpList _ _ _ (⟨some 53, _, _, _, _, _⟩ :: _) _ _); refine wpList_build0N rfl rfl hb0 ?_) | ((with_reducible show wpList _ _ _ (⟨_, .store _ (.tmp 4) _, _, _, _, _⟩ :: _) _ _); (refine wpList_store_blk rfl rowNd (.tmp 4) (.tmp 53) rfl _ rfl (H.out.blk 3 rfl) rfl (Nd.nil.cs) rfl rfl (nd_one _) ?_; intro wq bq hgq; replace H := Lib.hid (H.out.setBlk 3 rfl hgq bq); (try simp only [List.set_cons_zero, List.set_cons_succ, List.cons_append, List.nil_append, List.eraseIdx_cons_zero, List.eraseIdx_cons_succ, List.setIfInBounds_toArray, World.size_alloc, selR, List.getD_cons_zero, List.getD_cons_succ] at H); clear hgq bq)))
        refine bodyPost_ret (results_blk3 rfl rowNd rfl (H.out.blk 3 rfl) rfl) rfl ?_
        rw [HV.out]
        exact ⟨Nd.nil, rfl, rfl, H.out.to, holds_ndnil _, ndnil_new⟩

end Go.Proofs.Ytlclllkjnhgbjaa

namespace Go.Proofs.Ytlclllkjnhgbjaa
open Go.RowKit
set_option linter.unusedVariables false
set_option linter.unusedSimpArgs false


end Go.Proofs.Ytlclllkjnhgbjaa
