/- Cubes as bytes: plain. -/
import Derived.Test.YtlclllkjnhgbjaaBv
import Derived.Test.YtlclllkjnhgbjaaBu
import Derived.Test.YtlclllkjnhgbjaaRmvP
import Derived.Test.YtlclllkjnhgbjaaStrA
namespace Go.Proofs.Ytlclllkjnhgbjaa
open Go.RowKit
set_option linter.unusedVariables false
set_option linter.unusedSimpArgs false

theorem firstErr_congr {f g : Nat → Int} : ∀ {m j : Nat}, (∀ i, j ≤ i → i < j + m → f i = g i) → firstErr f m j = firstErr g m j
  | 0, j, _ => rfl
  | m + 1, j, h => by
    rw [firstErr, firstErr, h j (Nat.le_refl _) (by omega), firstErr_congr fun i h1 h2 => h i (by omega) (by omega)]
theorem cellOk_mv {nd : Nat} {ms dim : Int} {g : Int → Int} {c : Cl} (hd : dim ≠ (nd : Int) - 1) (h : 0 ≤ c.ch) (h2 : 0 ≤ g c.ch) : cellOk nd ms dim (mvCl g c) = cellOk nd ms dim c := by
  unfold cellOk
  rw [if_neg hd, if_neg hd]
  show (decide (0 ≤ g c.ch) && decide (c.ag = .zero)) = _
  rw [decide_eq_true h, decide_eq_true h2]
theorem cellAt_mv {nd : Nat} {ms dim size : Int} {g : Int → Int} {l : List Cl} (hd : dim ≠ (nd : Int) - 1) (h : ∀ c ∈ l, 0 ≤ c.ch ∧ 0 ≤ g c.ch) (i : Nat) : cellAt nd ms dim size (l.map (mvCl g)) i = cellAt nd ms dim size l i := by
  unfold cellAt
  rw [List.getElem?_map]
  cases hc : l[i]? with
  | none => rfl
  | some c =>
    have hm := h c (List.mem_of_getElem? hc)
    have hp : (((l.map (mvCl g))[i - 1]?).getD .nil).key = ((l[i - 1]?).getD .nil).key := by rw [List.getElem?_map]; cases l[i - 1]? <;> rfl
    simp only [Option.map_some]
    rw [hp, cellOk_mv hd hm.1 hm.2]
    rfl
theorem listErr_mv {nd : Nat} {ms dim size : Int} {g : Int → Int} {l : List Cl} (hd : dim ≠ (nd : Int) - 1) (h : ∀ c ∈ l, 0 ≤ c.ch ∧ 0 ≤ g c.ch) : listErr nd ms dim size (l.map (mvCl g)) = listErr nd ms dim size l := by
  unfold listErr
  rw [List.length_map, firstErr_congr fun i _ _ => cellAt_mv hd h i]
/-- A node that may be, may be when its cells lead elsewhere. -/
theorem nodeErr_mv {xs : List (List Int)} {ms : Int} {n : NC} {g : Int → Int} (h : n.dim ≠ (xs.length : Int) - 1 → ∀ c ∈ eachN n, 0 ≤ c.ch ∧ 0 ≤ g c.ch) : nodeErr xs ms (moveC xs.length g n) = nodeErr xs ms n := by
  obtain ⟨dim, ls, all⟩ := n
  unfold moveC
  simp only at h ⊢
  by_cases hd : dim = (xs.length : Int) - 1
  · rw [if_pos hd]
  rw [if_neg hd]
  have hc := h hd
  have k1 : NC.dim ⟨dim, ls, all⟩ = dim := rfl
  by_cases h1 : dim < 0
  · rw [nodeErr_neg (n := ⟨dim, ls, all⟩) h1, nodeErr_neg (n := ⟨dim, ls.map (List.map (mvCl g)), mvCl g all⟩) h1]
  cases hs : xs[dim.toNat]? with
  | none =>
    have := List.getElem?_eq_none_iff.1 hs
    rw [nodeErr_none (n := ⟨dim, ls, all⟩) h1 this, nodeErr_none (n := ⟨dim, ls.map (List.map (mvCl g)), mvCl g all⟩) h1 this]
  | some sz =>
    rw [nodeErr_some (n := ⟨dim, ls, all⟩) h1 hs, nodeErr_some (n := ⟨dim, ls.map (List.map (mvCl g)), mvCl g all⟩) h1 hs]
    have hl : ∀ i, listAt xs.length ms dim sz (ls.map (List.map (mvCl g))) i = listAt xs.length ms dim sz ls i := fun i => by
      unfold listAt
      rw [List.getElem?_map]
      cases hi : ls[i]? with
      | none => rfl
      | some l =>
        cases hz : sz[i]? with
        | none => rfl
        | some z =>
          have hp : (((ls.map (List.map (mvCl g)))[i - 1]?).getD []).length = ((ls[i - 1]?).getD []).length := by rw [List.getElem?_map]; cases ls[i - 1]? <;> simp
          simp only [Option.map_some]
          rw [hp, listErr_mv hd (fun c hc' => hc c (List.mem_append_left _ (List.mem_flatten.2 ⟨l, List.mem_of_getElem? hi, hc'⟩))), List.length_map]
    have ha := hc all (List.mem_append_right _ (List.mem_singleton.2 rfl))
    simp only [List.length_map]
    rw [firstErr_congr (fun i _ _ => hl i), cellOk_mv hd ha.1 ha.2]
    rfl
theorem eachN_move {nd : Nat} {g : Int → Int} {n : NC} (hd : n.dim ≠ (nd : Int) - 1) : eachN (moveC nd g n) = (eachN n).map (mvCl g) := by
  unfold moveC eachN
  rw [if_neg hd]
  simp
theorem moveC_dim (nd : Nat) (g : Int → Int) (n : NC) : (moveC nd g n).dim = n.dim := by
  unfold moveC
  split <;> rfl
theorem moveC_last {nd : Nat} {g : Int → Int} {n : NC} (hd : n.dim = (nd : Int) - 1) : moveC nd g n = n := by unfold moveC; rw [if_pos hd]
theorem moveC_move {nd : Nat} {f g : Int → Int} {n : NC} (h : n.dim ≠ (nd : Int) - 1 → ∀ c ∈ eachN n, f (g c.ch) = c.ch) : moveC nd f (moveC nd g n) = n := by
  by_cases hd : n.dim = (nd : Int) - 1
  · rw [moveC_last hd, moveC_last hd]
  have hc := h hd
  have h1 : moveC nd g n = ⟨n.dim, n.ls.map (List.map (mvCl g)), mvCl g n.all⟩ := by unfold moveC; rw [if_neg hd]
  rw [h1]
  unfold moveC
  rw [if_neg hd]
  have hm : ∀ c ∈ eachN n, mvCl f (mvCl g c) = c := fun c hc' => by
    show Cl.mk c.key (f (g c.ch)) c.ag = c
    rw [hc c hc']
  have ha := hm n.all (List.mem_append_right _ (List.mem_singleton.2 rfl))
  have hl : (n.ls.map (List.map (mvCl g))).map (List.map (mvCl f)) = n.ls := by
    rw [List.map_map]
    conv => rhs; rw [← List.map_id n.ls]
    refine List.map_congr_left fun l hl => ?_
    show (l.map (mvCl g)).map (mvCl f) = id l
    rw [List.map_map]
    conv => rhs; rw [id, ← List.map_id l]
    exact List.map_congr_left fun c hc' => hm c (List.mem_append_left _ (List.mem_flatten.2 ⟨l, hl, hc'⟩))
  show NC.mk _ _ _ = _
  simp only
  rw [hl, ha]

/-- The place of a number among some. -/
def idxF (c : Int) : List Int → Nat → Option Nat
  | [], _ => none
  | z :: l, k => if z = c then some k else idxF c l (k + 1)
def idxS (st : List Int) (c : Int) : Int := match idxF c st 0 with | some i => (i : Int) | none => 131072
theorem idxF_none {c : Int} : ∀ {l : List Int} {k : Nat}, idxF c l k = none ↔ c ∉ l
  | [], k => by simp [idxF]
  | z :: l, k => by
    rw [idxF]
    by_cases h : z = c
    · rw [if_pos h]; simp [h]
    · rw [if_neg h, idxF_none, List.mem_cons]
      exact ⟨fun h1 h2 => h2.elim (fun e => h e.symm) h1, fun h1 h2 => h1 (.inr h2)⟩
theorem idxF_some {c : Int} : ∀ {l : List Int} {k i : Nat}, idxF c l k = some i → k ≤ i ∧ l[i - k]? = some c
  | [], k, i, h => by cases h
  | z :: l, k, i, h => by
    rw [idxF] at h
    by_cases hz : z = c
    · rw [if_pos hz] at h
      injection h with h
      subst h hz
      exact ⟨Nat.le_refl _, by rw [Nat.sub_self]; rfl⟩
    · rw [if_neg hz] at h
      obtain ⟨h1, h2⟩ := idxF_some h
      refine ⟨by omega, ?_⟩
      rw [show i - k = (i - (k + 1)) + 1 by omega, List.getElem?_cons_succ]
      exact h2
theorem idxF_get {c : Int} : ∀ {l : List Int} {k j : Nat}, l.Pairwise (· < ·) → l[j]? = some c → idxF c l k = some (k + j)
  | [], k, j, _, h => by cases h
  | z :: l, k, 0, _, h => by
    injection h with h
    rw [idxF, if_pos h]
    rfl
  | z :: l, k, j + 1, hp, h => by
    rw [List.getElem?_cons_succ] at h
    have h1 := (List.pairwise_cons.1 hp).1 c (List.mem_of_getElem? h)
    rw [idxF, if_neg (by omega), idxF_get (List.pairwise_cons.1 hp).2 h]
    congr 1
    omega
theorem idxS_nonneg (st : List Int) (c : Int) : 0 ≤ idxS st c := by unfold idxS; split <;> omega
theorem idxS_not {st : List Int} {c : Int} (h : c ∉ st) : idxS st c = 131072 := by unfold idxS; rw [idxF_none.2 h]
theorem plc_idx {st : List Int} {c : Int} (h : c ∈ st) : plc st (idxS st c) = c := by
  unfold idxS
  cases hi : idxF c st 0 with
  | none => exact absurd h (idxF_none.1 hi)
  | some i =>
    have h1 := (idxF_some hi).2
    rw [Nat.sub_zero] at h1
    have h2 := (List.getElem?_eq_some_iff.1 h1).1
    show plc st (i : Int) = c
    unfold plc
    rw [if_pos ⟨by omega, by omega⟩, Int.toNat_natCast, h1]
    rfl
theorem idx_plc {st : List Int} {c : Int} (hp : st.Pairwise (· < ·)) (h0 : 0 ≤ c) (h1 : c < st.length) : idxS st (plc st c) = c := by
  obtain ⟨i, rfl⟩ : ∃ i : Nat, c = i := ⟨c.toNat, by omega⟩
  have hi : i < st.length := by omega
  unfold plc
  rw [if_pos ⟨h0, h1⟩, Int.toNat_natCast, List.getElem?_eq_getElem hi]
  unfold idxS
  rw [idxF_get (k := 0) (j := i) hp (by rw [List.getElem?_eq_getElem hi]; rfl), Nat.zero_add]
theorem plc_mem {st : List Int} {c : Int} (h0 : 0 ≤ c) (h1 : c < st.length) : plc st c ∈ st := by
  obtain ⟨i, rfl⟩ : ∃ i : Nat, c = i := ⟨c.toNat, by omega⟩
  have hi : i < st.length := by omega
  unfold plc
  rw [if_pos ⟨h0, h1⟩, Int.toNat_natCast, List.getElem?_eq_getElem hi]
  exact List.getElem_mem hi

/-- How long a node's bytes are. -/
theorem nput_le2 {n : Nat} (h : n ≤ 200) : (nput n).length ≤ 2 := by
  rw [nput_length]
  exact Nat.le_trans (nsize_mono h) (by decide)
theorem cellsPut_len2 {nd : Nat} {ms dim size : Int} (h : ms ≤ 3) (hz : size ≤ 200) : ∀ (l : List Cl) (was : Int), -1 ≤ was → RiseC size was l → (cellsPut nd ms dim was l).length ≤ 92 * l.length
  | [], _, _, _ => by simp [cellsPut]
  | c :: l, was, hw, hr => by
    obtain ⟨h1, h2, h3⟩ := hr
    rw [cellsPut, List.length_append, List.length_append, List.length_cons]
    have := nput_le2 (n := (c.key - was - 1).toNat) (by omega)
    have := cellPut_len (nd := nd) (dim := dim) (c := c) h
    have := cellsPut_len2 (nd := nd) (dim := dim) h hz l c.key (by omega) h3
    omega
theorem nodePut_len2 {xs : List (List Int)} {ms : Int} {n : NC} (h : nodeErr xs ms n = 0) (hs : shapeOk xs ms = true) : 1 ≤ (nodePut xs.length ms n).length ∧ (nodePut xs.length ms n).length ≤ 73716 := by
  obtain ⟨h0, sz, h1, h2, h3, h4, h5, h6⟩ := nodeErr_inv h
  obtain ⟨t1, t2, t3⟩ := shape_tier hs h1
  have hm := (shape_ms hs).2.2.2
  have hflat : ∀ (ls : List (List Cl)), (∀ l ∈ ls, ∃ z : Int, 1 ≤ z ∧ z ≤ 200 ∧ listErr xs.length ms n.dim z l = 0) → (ls.flatMap (listPut xs.length ms n.dim)).length ≤ 18402 * ls.length := fun ls => by
    induction ls with
    | nil => intro _; simp
    | cons l ls ih =>
      intro hl
      rw [List.flatMap_cons, List.length_append, List.length_cons]
      have := ih fun x hx => hl x (List.mem_cons_of_mem _ hx)
      obtain ⟨z, z1, z2, hz⟩ := hl l (List.mem_cons_self ..)
      have hr := (listErr_rise hz).1
      have hlen := riseC_len l (-1) hr (by omega)
      have h7 := cellsPut_len2 (nd := xs.length) (dim := n.dim) hm z2 l (-1) (by omega) hr
      have h8 := nput_le2 (n := l.length) (by omega)
      have h9 : (listPut xs.length ms n.dim l).length ≤ 18402 := by
        unfold listPut
        rw [List.length_append]
        omega
      omega
  have hf := hflat n.ls fun l hl => by
    obtain ⟨k, hk, hkl⟩ := List.getElem_of_mem hl
    obtain ⟨z, hz, hL⟩ := h4 k l (by rw [List.getElem?_eq_getElem hk, hkl])
    have := t3 k z hz
    exact ⟨z, this.1, this.2, hL⟩
  have hb : (bodyPut xs.length ms n).length ≤ 73707 := by
    unfold bodyPut
    rw [List.length_append, List.length_append]
    have := nput_le9 n.dim.toNat
    have := cellPut_len (nd := xs.length) (dim := n.dim) (c := n.all) hm
    have h10 : 18402 * n.ls.length ≤ 18402 * 4 := Nat.mul_le_mul_left _ (by omega)
    omega
  show 1 ≤ (ptext _).length ∧ (ptext _).length ≤ _
  rw [ptext_length]
  have := nsize_le (bodyPut xs.length ms n).length
  have := nsize_pos (bodyPut xs.length ms n).length
  omega

/-- What is taken, put, is those bytes. -/
theorem pcell_back {nd : Nat} {ms dim key : Int} {l r : List UInt8} {c : Cl} (h : pcell nd ms dim key l = .ok (c, r)) : l = cellPut nd ms dim c ++ r ∧ c.key = key := by
  unfold pcell at h
  unfold cellPut
  by_cases hd : dim = (nd : Int) - 1
  · rw [if_pos hd] at h
    rw [if_pos hd]
    cases hp : pag ms l with
    | error e => rw [hp, pbind2_err] at h; cases h
    | ok q =>
      obtain ⟨a, r'⟩ := q
      rw [hp, pbind2_ok] at h
      injection h with h
      injection h with h1 h2
      subst h1 h2
      exact ⟨(pag_back hp).1, rfl⟩
  · rw [if_neg hd] at h
    rw [if_neg hd]
    cases hp : pnum 1048576 l with
    | error e => rw [hp, pbind2_err] at h; cases h
    | ok q =>
      obtain ⟨a, r'⟩ := q
      rw [hp, pbind2_ok] at h
      injection h with h
      injection h with h1 h2
      subst h1 h2
      refine ⟨?_, rfl⟩
      show _ = nput ((a : Int)).toNat ++ _
      rw [Int.toNat_natCast]
      exact q_pnum_back hp
theorem pcells_back {nd : Nat} {ms dim size : Int} (hz : size ≤ 200) : ∀ (n : Nat) (was : Int) (acc acc' : List Cl) (l r : List UInt8), pcells nd ms dim size n was acc l = .ok (acc', r) →
    ∃ cs, acc' = acc ++ cs ∧ cs.length = n ∧ (-1 ≤ was → was < size → RiseC size was cs → l = cellsPut nd ms dim was cs ++ r)
  | 0, was, acc, acc', l, r, h => by
    injection h with h
    injection h with h1 h2
    subst h1 h2
    exact ⟨[], by simp, rfl, fun _ _ _ => rfl⟩
  | n + 1, was, acc, acc', l, r, h => by
    rw [pcells] at h
    cases h1 : pnum size l with
    | error e => rw [h1, pbind_err] at h; cases h
    | ok q =>
      obtain ⟨g, r1⟩ := q
      rw [h1, pbind_ok] at h
      cases h2 : pcell nd ms dim (keyAt was g) r1 with
      | error e => rw [h2, pbind_err] at h; cases h
      | ok q =>
        obtain ⟨c, r2⟩ := q
        rw [h2, pbind_ok] at h
        obtain ⟨cs, e1, e2, e3⟩ := pcells_back hz n _ _ _ _ _ h
        obtain ⟨b1, b2⟩ := pcell_back h2
        have hg := (pnum_ok h1).2.1
        refine ⟨c :: cs, by rw [e1, List.append_assoc]; rfl, by rw [List.length_cons, e2], fun hw hws hr => ?_⟩
        obtain ⟨r1', r2', r3'⟩ := hr
        have hk : keyAt was g = was + 1 + g := by
          unfold keyAt
          rw [IntWalk.wrap64_in (was + 1) (by omega), IntWalk.wrap64_in _ (by omega)]
        rw [hk] at b2 e3
        have e4 := e3 (by omega) (by omega) (by rw [← b2]; exact r3')
        rw [cellsPut, q_pnum_back h1, b1, e4, b2, show (was + 1 + (g : Int) - was - 1).toNat = g by omega]
        simp only [List.append_assoc]
theorem plist_back {nd : Nat} {ms dim size : Int} {l r : List UInt8} {cs : List Cl} (h : plist nd ms dim size l = .ok (cs, r)) (hz : 1 ≤ size ∧ size ≤ 200) (he : listErr nd ms dim size cs = 0) : l = listPut nd ms dim cs ++ r := by
  unfold plist at h
  cases h1 : pnum size l with
  | error e => rw [h1, pbind_err] at h; cases h
  | ok q =>
    obtain ⟨n, r1⟩ := q
    rw [h1, pbind_ok] at h
    obtain ⟨cs', e1, e2, e3⟩ := pcells_back hz.2 _ _ _ _ _ _ h
    rw [List.nil_append] at e1
    subst e1
    unfold listPut
    rw [q_pnum_back h1, e2, List.append_assoc, ← e3 (by omega) (by omega) (listErr_rise he).1]
theorem plists_back {nd : Nat} {ms dim : Int} : ∀ (zs : List Int) (acc ls : List (List Cl)) (l r : List UInt8), plists nd ms dim zs acc l = .ok (ls, r) →
    ∃ bs, ls = acc ++ bs ∧ bs.length = zs.length ∧ ((∀ (k : Nat) (b : List Cl) (z : Int), bs[k]? = some b → zs[k]? = some z → (1 ≤ z ∧ z ≤ 200) ∧ listErr nd ms dim z b = 0) → l = bs.flatMap (listPut nd ms dim) ++ r)
  | [], acc, ls, l, r, h => by
    injection h with h
    injection h with h1 h2
    subst h1 h2
    exact ⟨[], by simp, rfl, fun _ => rfl⟩
  | z :: zs, acc, ls, l, r, h => by
    rw [plists] at h
    cases h1 : plist nd ms dim z l with
    | error e => rw [h1, pbind_err] at h; cases h
    | ok q =>
      obtain ⟨b, r1⟩ := q
      rw [h1, pbind_ok] at h
      obtain ⟨bs, e1, e2, e3⟩ := plists_back zs _ _ _ _ h
      refine ⟨b :: bs, by rw [e1, List.append_assoc]; rfl, by rw [List.length_cons, e2, List.length_cons], fun hk => ?_⟩
      have hb := hk 0 b z rfl rfl
      rw [plist_back h1 hb.1 hb.2, e3 (fun k b' z' hb' hz' => hk (k + 1) b' z' (by simpa using hb') (by simpa using hz')), List.flatMap_cons, List.append_assoc]
theorem pbody_back {xs : List (List Int)} {ms : Int} {s r : List UInt8} {n : NC} (h : pbody xs ms s = .ok (n, r)) (he : nodeErr xs ms n = 0) (hs : shapeOk xs ms = true) : s = bodyPut xs.length ms n ++ r := by
  unfold pbody at h
  cases h1 : pnum ((xs.length : Int) - 1) s with
  | error e => rw [h1, pbind_err] at h; cases h
  | ok q =>
    obtain ⟨d, r1⟩ := q
    rw [h1, pbind_ok] at h
    unfold pafter at h
    cases h2 : plists xs.length ms (d : Nat) ((xs[d]?).getD []) [] r1 with
    | error e => rw [h2, pbind_err] at h; cases h
    | ok q =>
      obtain ⟨ls, r2⟩ := q
      rw [h2, pbind_ok] at h
      cases h3 : pcell xs.length ms (d : Nat) 0 r2 with
      | error e => rw [h3, pbind2_err] at h; cases h
      | ok q =>
        obtain ⟨c, r3⟩ := q
        rw [h3, pbind2_ok] at h
        injection h with h
        injection h with e1 e2
        subst e1 e2
        obtain ⟨g0, sz, g1, g2, g3, g4, g5, g6⟩ := nodeErr_inv he
        simp only [Int.toNat_natCast] at g1 g4
        have ht := (shape_tier hs g1).2.2
        rw [g1] at h2
        obtain ⟨bs, e1, e2, e3⟩ := plists_back _ _ _ _ _ h2
        rw [List.nil_append] at e1
        subst e1
        have e4 := e3 fun k b z hb hz => by
          obtain ⟨z', hz', hL⟩ := g4 k b hb
          have hzz : z' = z := by
            have hz2 : sz[k]? = some z := hz
            rw [hz'] at hz2
            injection hz2
          subst hzz
          exact ⟨ht k z' hz', hL⟩
        unfold bodyPut
        simp only [Int.toNat_natCast]
        rw [q_pnum_back h1, e4, (pcell_back h3).1]
        simp only [List.append_assoc]
theorem nodeTake_inv {xs : List (List Int)} {ms : Int} {s : List UInt8} {n : NC} {z : Nat} (h : nodeTake xs ms s = some (n, z)) : 1 ≤ z ∧ z ≤ s.length ∧ nodeErr xs ms n = 0 ∧ pbody xs ms ((s.take z).drop (ntake s).2.1) = .ok (n, []) ∧ (ntake s).2.2 = true ∧ z = (ntake s).1 + (ntake s).2.1 ∧ (ntake s).1 ≤ 1048576 := by
  unfold nodeTake at h
  cases hz : nodeSize s with
  | none => rw [hz] at h; cases h
  | some z' =>
    rw [hz] at h
    simp only at h
    have h1 := (nodeSize_pos hz).1
    split at h
    · cases h
    · rename_i hl
      cases hb : pbody xs ms ((s.take z').drop (ntake s).2.1) with
      | error e => rw [hb] at h; cases h
      | ok q =>
        obtain ⟨n', r⟩ := q
        rw [hb] at h
        simp only at h
        split at h
        · rename_i hr
          injection h with h
          injection h with e1 e2
          subst e1 e2
          obtain ⟨rfl, hr2⟩ := hr
          unfold nodeSize at hz
          split at hz
          · rename_i hc
            injection hz with hz
            exact ⟨h1, by omega, hr2, hb, hc.1, hz.symm, hc.2⟩
          · cases hz
        · cases h
theorem nodeTake_back {xs : List (List Int)} {ms : Int} {s : List UInt8} {n : NC} {z : Nat} (h : nodeTake xs ms s = some (n, z)) (hs : shapeOk xs ms = true) : nodePut xs.length ms n = s.take z := by
  obtain ⟨h1, h2, h3, h4, h5, h6, h7⟩ := nodeTake_inv h
  have hb := pbody_back h4 h3 hs
  rw [List.append_nil] at hb
  have ht := (ntake_true h5).1
  show nput (bodyPut xs.length ms n).length ++ bodyPut xs.length ms n = _
  rw [← hb]
  have hl : ((s.take z).drop (ntake s).2.1).length = (ntake s).1 := by rw [List.length_drop, List.length_take]; omega
  rw [hl, ← ht]
  have h8 : s.take (ntake s).2.1 = (s.take z).take (ntake s).2.1 := by rw [List.take_take, Nat.min_eq_left (by omega)]
  rw [h8, List.take_append_drop]

/-- Nodes written one behind the other. -/
def wsteps (nd : Nat) (ms : Int) : List NC → List Int → List UInt8 → List Int × List UInt8
  | [], st, out => (st, out)
  | n :: l, st, out => wsteps nd ms l (st ++ [(out.length : Int)]) (out ++ nodePut nd ms (moveC nd (plc st) n))
def pwrite (nd : Nat) (ms : Int) (l : List NC) : List Int × List UInt8 := wsteps nd ms l [] []
def wtop (st : List Int) : Int := (st.getLast?).getD 0
theorem wtop_snoc (st : List Int) (z : Int) : wtop (st ++ [z]) = z := by unfold wtop; rw [List.getLast?_append]; rfl
theorem wsteps_drop {nd : Nat} {ms : Int} {l : List NC} {k : Nat} {n : NC} (h : l[k]? = some n) (st : List Int) (out : List UInt8) : wsteps nd ms (l.drop k) st out = wsteps nd ms (l.drop (k + 1)) (st ++ [(out.length : Int)]) (out ++ nodePut nd ms (moveC nd (plc st) n)) := by
  rw [drop_cons' h, wsteps]
theorem wsteps_len (nd : Nat) (ms : Int) : ∀ (l : List NC) (st : List Int) (out : List UInt8), out.length ≤ (wsteps nd ms l st out).2.length
  | [], st, out => Nat.le_refl _
  | n :: l, st, out => by
    rw [wsteps]
    have := wsteps_len nd ms l (st ++ [(out.length : Int)]) (out ++ nodePut nd ms (moveC nd (plc st) n))
    rw [List.length_append] at this
    omega
structure StOk (st : List Int) (m : Nat) : Prop where
  up : st.Pairwise (· < ·)
  lt : ∀ z ∈ st, 0 ≤ z ∧ z < m
theorem StOk.nil : StOk [] 0 := ⟨List.Pairwise.nil, fun z hz => by cases hz⟩
theorem StOk.snoc {st : List Int} {m m' : Nat} (h : StOk st m) (hm : m < m') : StOk (st ++ [(m : Int)]) m' := by
  refine ⟨List.pairwise_append.2 ⟨h.up, List.pairwise_singleton _ _, fun a ha b hb => ?_⟩, fun z hz => ?_⟩
  · rw [List.mem_singleton] at hb
    subst hb
    exact (h.lt a ha).2
  · rcases List.mem_append.1 hz with hz | hz
    · have := h.lt z hz; omega
    · rw [List.mem_singleton] at hz
      subst hz
      omega
/-- Nodes read one behind the other. -/
def rstepF (xs : List (List Int)) (ms : Int) : Nat → Int → List UInt8 → List Int → List NC → Option (List Int × List NC)
  | 0, _, r, st, l => if r = [] then some (st, l) else none
  | f + 1, p, r, st, l => if r = [] then some (st, l) else match nodeTake xs ms r with
    | none => none
    | some (n, z) => if addErr xs ms 131072 l (moveC xs.length (idxS st) n) ≠ 0 then none else rstepF xs ms f (p + z) (r.drop z) (st ++ [p]) (l ++ [moveC xs.length (idxS st) n])
def rstep (xs : List (List Int)) (ms : Int) (p : Int) (r : List UInt8) (st : List Int) (l : List NC) : Option (List Int × List NC) := rstepF xs ms r.length p r st l
theorem rstepF_more {xs : List (List Int)} {ms : Int} : ∀ (f g : Nat) (p : Int) (r : List UInt8) (st : List Int) (l : List NC), r.length ≤ f → r.length ≤ g → rstepF xs ms f p r st l = rstepF xs ms g p r st l
  | 0, g, p, r, st, l, h, _ => by
    have : r = [] := List.length_eq_zero_iff.1 (by omega)
    subst this
    cases g <;> simp [rstepF]
  | f + 1, 0, p, r, st, l, _, h => by
    have : r = [] := List.length_eq_zero_iff.1 (by omega)
    subst this
    simp [rstepF]
  | f + 1, g + 1, p, r, st, l, h, k => by
    rw [rstepF, rstepF]
    by_cases h0 : r = []
    · rw [if_pos h0, if_pos h0]
    rw [if_neg h0, if_neg h0]
    cases hz : nodeTake xs ms r with
    | none => rfl
    | some q =>
      obtain ⟨n, z⟩ := q
      have := nodeTake_inv hz
      show (if _ then _ else _) = (if _ then _ else _)
      rw [rstepF_more f g (p + z) (r.drop z) _ _ (by rw [List.length_drop]; omega) (by rw [List.length_drop]; omega)]
theorem rst_nil {xs : List (List Int)} {ms p : Int} {st : List Int} {l : List NC} : rstep xs ms p [] st l = some (st, l) := rfl
theorem rst_none {xs : List (List Int)} {ms p : Int} {r : List UInt8} {st : List Int} {l : List NC} (h : r ≠ []) (hz : nodeTake xs ms r = none) : rstep xs ms p r st l = none := by
  unfold rstep
  cases hs : r.length with
  | zero => exact absurd (List.length_eq_zero_iff.1 hs) h
  | succ f => rw [rstepF, if_neg h, hz]
theorem rst_bad {xs : List (List Int)} {ms p : Int} {r : List UInt8} {st : List Int} {l : List NC} {n : NC} {z : Nat} (h : r ≠ []) (hz : nodeTake xs ms r = some (n, z)) (ha : addErr xs ms 131072 l (moveC xs.length (idxS st) n) ≠ 0) : rstep xs ms p r st l = none := by
  unfold rstep
  cases hs : r.length with
  | zero => exact absurd (List.length_eq_zero_iff.1 hs) h
  | succ f => rw [rstepF, if_neg h, hz]; show (if _ then _ else _) = _; rw [if_pos ha]
theorem rst_step {xs : List (List Int)} {ms p : Int} {r : List UInt8} {st : List Int} {l : List NC} {n : NC} {z : Nat} (h : r ≠ []) (hz : nodeTake xs ms r = some (n, z)) (ha : addErr xs ms 131072 l (moveC xs.length (idxS st) n) = 0) : rstep xs ms p r st l = rstep xs ms (p + z) (r.drop z) (st ++ [p]) (l ++ [moveC xs.length (idxS st) n]) := by
  have := nodeTake_inv hz
  unfold rstep
  cases hs : r.length with
  | zero => exact absurd (List.length_eq_zero_iff.1 hs) h
  | succ f =>
    rw [rstepF, if_neg h, hz]
    show (if _ then _ else _) = _
    rw [if_neg (by omega), rstepF_more f _ _ (r.drop z) _ _ (by rw [List.length_drop]; omega) (Nat.le_refl _)]
/-- The nodes of bytes. -/
def pread (xs : List (List Int)) (ms : Int) (s : List UInt8) : Option (List Int × List NC) := rstep xs ms 0 s [] []
def preadT (xs : List (List Int)) (ms : Int) (s : List UInt8) (top : Int) : Option (List NC) := match pread xs ms s with
  | none => none
  | some (st, l) => if wtop st = top ∧ wholeC xs.length l = true then some l else none

theorem addErr_zero2 {xs : List (List Int)} {ms most : Int} {l : List NC} {n : NC} : addErr xs ms most l n = 0 ↔ nodeErr xs ms n = 0 ∧ leadsN xs.length l n = true ∧ (l.length : Int) < most := by
  unfold addErr
  by_cases h1 : nodeErr xs ms n = 0
  · rw [if_neg (by omega)]
    cases h2 : leadsN xs.length l n with
    | false => simp
    | true =>
      rw [if_neg (by simp)]
      by_cases h3 : most ≤ (l.length : Int)
      · rw [if_pos h3]; simp; omega
      · rw [if_neg h3]; simp [h1]; omega
  · rw [if_pos h1]
    exact ⟨fun h => absurd h h1, fun h => absurd h.1 h1⟩
theorem goodN_chs {xs : List (List Int)} {ms : Int} {l1 l2 : List NC} {n : NC} (h : GoodN xs ms (l1 ++ n :: l2)) (hd : n.dim ≠ (xs.length : Int) - 1) : ∀ c ∈ eachN n, 0 ≤ c.ch ∧ c.ch < l1.length := fun c hc => by
  have := goodN_ch h (k := l1.length) (n := n) (by rw [List.getElem?_append_right (Nat.le_refl _), Nat.sub_self]; rfl) hd c hc
  exact ⟨this.1, this.2.1⟩
theorem goodN_mid {xs : List (List Int)} {ms : Int} {l1 l2 : List NC} {n : NC} (h : GoodN xs ms (l1 ++ n :: l2)) : nodeErr xs ms n = 0 ∧ leadsN xs.length l1 n = true := by
  have := h l1.length n (by rw [List.getElem?_append_right (Nat.le_refl _), Nat.sub_self]; rfl)
  rw [List.take_append_of_le_length (Nat.le_refl _), List.take_length] at this
  exact this
theorem ncOk_move {nd : Nat} {st : List Int} {n : NC} (h : NcOk n) (hs : ∀ z ∈ st, I64 z) : NcOk (moveC nd (plc st) n) := by
  unfold moveC
  split
  · exact h
  · refine ⟨fun l hl c hc => ?_, ⟨h.all.key, i64_plc hs h.all.ch, h.all.ag⟩⟩
    obtain ⟨l0, hl0, rfl⟩ := List.mem_map.1 hl
    obtain ⟨c0, hc0, rfl⟩ := List.mem_map.1 hc
    have h0 := h.ls l0 hl0 c0 hc0
    exact ⟨h0.key, i64_plc hs h0.ch, h0.ag⟩
/-- What is written is read back. -/
theorem write_read {xs : List (List Int)} {ms : Int} (hs : shapeOk xs ms = true) : ∀ (l2 l1 : List NC) (st : List Int) (out : List UInt8), GoodN xs ms (l1 ++ l2) → (∀ n ∈ l2, NcOk n) → st.length = l1.length → StOk st out.length → out.length ≤ 73716 * l1.length → l1.length + l2.length ≤ 15 →
    ∃ tail, (wsteps xs.length ms l2 st out).2 = out ++ tail ∧ rstep xs ms out.length tail st l1 = some ((wsteps xs.length ms l2 st out).1, l1 ++ l2)
  | [], l1, st, out, hg, hok, hl, hst, hb, h15 => ⟨[], by simp [wsteps], by rw [rst_nil, List.append_nil]; rfl⟩
  | n :: l2, l1, st, out, hg, hok, hl, hst, hb, h15 => by
    obtain ⟨hE, hL⟩ := goodN_mid hg
    have hch := fun hd => goodN_chs hg hd
    have hE2 : nodeErr xs ms (moveC xs.length (plc st) n) = 0 := by
      rw [nodeErr_mv fun hd c hc => ?_, hE]
      have h1 := hch hd c hc
      exact ⟨h1.1, (hst.lt _ (plc_mem h1.1 (by omega))).1⟩
    have hlen := nodePut_len2 hE2 hs
    rw [List.length_cons] at h15
    have hz64 : ∀ z ∈ st, I64 z := fun z hz => by have := hst.lt z hz; unfold I64; omega
    obtain ⟨tail, t1, t2⟩ := write_read hs l2 (l1 ++ [n]) (st ++ [(out.length : Int)]) (out ++ nodePut xs.length ms (moveC xs.length (plc st) n)) (by rw [List.append_assoc]; exact hg) (fun m hm => hok m (List.mem_cons_of_mem _ hm)) (by rw [List.length_append, List.length_append, hl]; rfl) (hst.snoc (by rw [List.length_append]; omega)) (by rw [List.length_append, List.length_append]; show _ ≤ 73716 * (l1.length + 1); omega) (by rw [List.length_append]; show l1.length + 1 + _ ≤ _; omega)
    refine ⟨nodePut xs.length ms (moveC xs.length (plc st) n) ++ tail, by rw [wsteps, t1, List.append_assoc], ?_⟩
    have hT := nodeTake_put hE2 hs (ncOk_move (hok n (List.mem_cons_self ..)) hz64) (fun hd c hc => by
      rw [moveC_dim] at hd
      rw [eachN_move hd] at hc
      obtain ⟨c0, hc0, rfl⟩ := List.mem_map.1 hc
      have h1 := hch hd c0 hc0
      have h2 := hst.lt _ (plc_mem h1.1 (by omega : c0.ch < st.length))
      show plc st c0.ch ≤ _
      have : 73716 * l1.length ≤ 73716 * 14 := Nat.mul_le_mul_left _ (by omega)
      omega) tail
    have hback : moveC xs.length (idxS st) (moveC xs.length (plc st) n) = n := moveC_move fun hd c hc => by
      have h1 := hch hd c hc
      exact idx_plc hst.up h1.1 (by omega)
    have hne : nodePut xs.length ms (moveC xs.length (plc st) n) ++ tail ≠ [] := fun e => by
      have := congrArg List.length e
      rw [List.length_append, List.length_nil] at this
      omega
    rw [rst_step hne hT (by rw [hback]; exact addErr_zero2.2 ⟨hE, hL, by omega⟩), hback, List.drop_left]
    rw [List.length_append, Int.natCast_add, List.append_assoc] at t2
    rw [wsteps, t2]
    rfl
/-- What is read, written, is those bytes. -/
theorem read_write {xs : List (List Int)} {ms : Int} (hs : shapeOk xs ms = true) : ∀ (f : Nat) (r : List UInt8) (l1 : List NC) (st : List Int) (out : List UInt8) (stR : List Int) (l : List NC), rstepF xs ms f out.length r st l1 = some (stR, l) → st.length = l1.length → StOk st out.length → GoodN xs ms l1 →
    ∃ l2, l = l1 ++ l2 ∧ wsteps xs.length ms l2 st out = (stR, out ++ r) ∧ GoodN xs ms l ∧ StOk stR (out.length + r.length) ∧ stR.length = l.length
  | 0, r, l1, st, out, stR, l, h, hl, hst, hg => by
    rw [rstepF] at h
    split at h
    · rename_i hr
      injection h with h
      injection h with e1 e2
      subst e1 e2 hr
      exact ⟨[], by simp, by simp [wsteps], hg, by simpa using hst, hl⟩
    · cases h
  | f + 1, r, l1, st, out, stR, l, h, hl, hst, hg => by
    rw [rstepF] at h
    split at h
    · rename_i hr
      injection h with h
      injection h with e1 e2
      subst e1 e2 hr
      exact ⟨[], by simp, by simp [wsteps], hg, by simpa using hst, hl⟩
    · cases hz : nodeTake xs ms r with
      | none => rw [hz] at h; cases h
      | some q =>
        obtain ⟨n, z⟩ := q
        rw [hz] at h
        simp only at h
        split at h
        · cases h
        · rename_i ha
          obtain ⟨a1, a2, a3⟩ := addErr_zero2.1 (Classical.not_not.1 ha)
          obtain ⟨i1, i2, i3, _⟩ := nodeTake_inv hz
          have hp := nodeTake_back hz hs
          have hback : moveC xs.length (plc st) (moveC xs.length (idxS st) n) = n := moveC_move fun hd c hc => by
            refine plc_idx (Classical.byContradiction fun hn => ?_)
            unfold leadsN at a2
            rw [moveC_dim, decide_eq_false hd, Bool.false_or, eachN_move hd, List.all_eq_true] at a2
            have h4 := a2 _ (List.mem_map.2 ⟨c, hc, rfl⟩)
            unfold aheadC at h4
            have h5 : (mvCl (idxS st) c).ch = 131072 := idxS_not hn
            rw [h5, List.getElem?_eq_none (by omega)] at h4
            cases h4
          have hlt : (out ++ r.take z).length = out.length + z := by rw [List.length_append, List.length_take, Nat.min_eq_left i2]
          obtain ⟨l2, b1, b2, b3, b4, b5⟩ := read_write hs f (r.drop z) (l1 ++ [moveC xs.length (idxS st) n]) (st ++ [(out.length : Int)]) (out ++ r.take z) stR l (by rw [hlt, Int.natCast_add]; exact h) (by rw [List.length_append, List.length_append, hl]; rfl) (hst.snoc (by omega)) (goodN_snoc hg a1 a2)
          refine ⟨moveC xs.length (idxS st) n :: l2, by rw [b1, List.append_assoc]; rfl, ?_, b3, ?_, b5⟩
          · rw [wsteps, hback, hp, b2, List.append_assoc, List.take_append_drop]
          · rw [hlt, List.length_drop] at b4
            rw [show out.length + r.length = out.length + z + (r.length - z) by omega]
            exact b4

end Go.Proofs.Ytlclllkjnhgbjaa
