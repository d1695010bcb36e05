/- How a query goes through a cube: plain. -/
import Derived.Test.YtelnhhbefdfeoaaPlanC
import Derived.Test.YtelnhhbefdfeoaaPlanF
import Derived.Test.YtelnhhbefdfeoaaBq
namespace Go.Proofs.Ytelnhhbefdfeoaa
open Go.RowKit
set_option linter.unusedVariables false

def termAt (d : DC) (t key : Int) : List UInt8 := ((d.trs[t.toNat]?).bind (fun t => t.ts[key.toNat]?)).getD []
/-- Does a pick let a member of its filter's tier through? -/
def letsOf (d : DC) (p : PC) (key : Int) : Bool := if p.f = 0 then true else if p.f = 1 then within p.lo p.hi (termAt d p.t key) else (posOf (termAt d p.t key) p.set).isSome
def scanKeys (d : DC) (p : PC) : List Nat := (List.range (sizeAt d.trs (tierOf p).toNat)).filter fun k => letsOf d p (liftOf d.trs (tierOf p) (max p.t (tierOf p)) k)
def scanOf (d : DC) (p : PC) : SnC := if tierOf p < 0 then ⟨-1, [], []⟩ else ⟨tierOf p, (scanKeys d p).map (fun (k : Nat) => (k : Int)), if p.g = true then (scanKeys d p).map (fun (k : Nat) => liftOf d.trs (tierOf p) (max p.by_ (tierOf p)) k) else []⟩
theorem hasT_iff {d : DC} {k : Int} : hasT d k = true ↔ 0 ≤ k ∧ k < d.trs.length := by unfold hasT; simp
/-- Through which tier, and from which to which it is lifted. -/
structure Tiers (d : DC) (p : PC) (T M B : Nat) : Prop where
  t : tierOf p = T
  m : max p.t (tierOf p) = M
  b : max p.by_ (tierOf p) = B
  tm : T ≤ M
  tb : T ≤ B
  ml : M < d.trs.length
  bl : B < d.trs.length
  pm : p.f ≠ 0 → p.t = M
  pb : p.g = true → p.by_ = B
  p0 : 0 ≤ p.t
  f : p.f = 0 ∨ p.f = 1 ∨ p.f = 2
theorem filt_tier {d : DC} {p : PC} (h : filtErr d p = 0) : (p.f = 0 ∧ p.t = 0) ∨ ((p.f = 1 ∨ p.f = 2) ∧ 0 ≤ p.t ∧ p.t < d.trs.length) := by
  unfold filtErr at h
  split at h
  · rename_i h0
    split at h
    · rename_i h1; exact .inl ⟨h0, h1.1⟩
    · cases h
  · split at h
    · rename_i h1
      split at h
      · rename_i h2
        split at h
        · cases h
        · rename_i tr h3
          have := (List.getElem?_eq_some_iff.1 h3).1
          exact .inr ⟨h1, h2, by omega⟩
      · cases h
    · cases h
theorem tier_cases {d : DC} {p : PC} (h : pickErr d p = 0) (hd : 1 ≤ d.trs.length) : (tierOf p = -1 ∧ p.f = 0 ∧ p.g = false) ∨ ∃ T M B : Nat, Tiers d p T M B := by
  unfold pickErr at h
  split at h
  · rename_i h1; exact absurd h h1
  · rename_i h1
    have h1 : filtErr d p = 0 := by omega
    split at h
    · cases h
    · rename_i h2
      have hf := filt_tier h1
      have hg : (p.g = true → 0 ≤ p.by_ ∧ p.by_ < d.trs.length) ∧ (p.g = false → p.by_ = 0) := by
        constructor
        · intro g
          refine hasT_iff.1 ?_
          cases hq : hasT d p.by_ with
          | true => rfl
          | false => exact absurd (Or.inl ⟨g, hq⟩) h2
        · intro g
          by_cases e : p.by_ = 0
          · exact e
          · exact absurd (Or.inr ⟨g, e⟩) h2
      cases g : p.g with
      | false =>
        have b0 := hg.2 g
        rcases hf with ⟨f0, t0⟩ | ⟨f0, t0, t1⟩
        · exact .inl ⟨by unfold tierOf; rw [if_neg (fun h => h.1 f0), if_neg (fun h => h f0), if_neg (by simp [g])], f0, rfl⟩
        · right
          have f1 : p.f ≠ 0 := by omega
          have e : tierOf p = p.t := by unfold tierOf; rw [if_neg (fun h => by simp [g] at h), if_pos f1]
          exact ⟨p.t.toNat, p.t.toNat, p.t.toNat, by omega, by omega, by omega, by omega, by omega, by omega, by omega, fun _ => by omega, (fun h => by rw [g] at h; cases h), by omega, by omega⟩
      | true =>
        have b0 := hg.1 g
        right
        rcases hf with ⟨f0, t0⟩ | ⟨f0, t0, t1⟩
        · have e : tierOf p = p.by_ := by unfold tierOf; rw [if_neg (fun h => h.1 f0), if_neg (fun h => h f0), if_pos g]
          exact ⟨p.by_.toNat, p.by_.toNat, p.by_.toNat, by omega, by omega, by omega, by omega, by omega, by omega, by omega, fun h => absurd f0 h, fun _ => by omega, by omega, by omega⟩
        · have f1 : p.f ≠ 0 := by omega
          have e : tierOf p = min p.t p.by_ := by unfold tierOf; rw [if_pos ⟨f1, g⟩]
          exact ⟨(min p.t p.by_).toNat, p.t.toNat, p.by_.toNat, by omega, by omega, by omega, by omega, by omega, by omega, by omega, fun _ => by omega, fun _ => by omega, by omega, by omega⟩
theorem picks_at {ds : List DC} : ∀ {ps : List PC} {k : Nat} {d : DC} {p : PC}, picksErr ds ps = 0 → ds[k]? = some d → ps[k]? = some p → pickErr d p = 0 := by
  induction ds with
  | nil => intro ps k d p _ h; simp at h
  | cons a ds ih =>
    intro ps k d p h hd hp
    cases ps with
    | nil => simp at hp
    | cons b ps =>
      rw [picksErr] at h
      split at h
      · rename_i h1; exact absurd h h1
      · rename_i h1
        cases k with
        | zero => injection hd with hd; injection hp with hp; subst hd hp; omega
        | succ k => exact ih h (by simpa using hd) (by simpa using hp)
theorem filter_get_lt {f : Nat → Bool} {n j : Nat} {a b : Nat} (h1 : ((List.range n).filter f)[j]? = some a) (h2 : ((List.range n).filter f)[j + 1]? = some b) : a < b := by
  have h := (List.pairwise_lt_range (n := n)).filter f
  obtain ⟨l1, e1⟩ := List.getElem?_eq_some_iff.1 h1
  obtain ⟨l2, e2⟩ := List.getElem?_eq_some_iff.1 h2
  have := List.pairwise_iff_getElem.1 h j (j + 1) l1 l2 (by omega)
  rw [e1, e2] at this
  exact this
theorem sizesOf_get {trs : List TC} {T : Nat} (h : T < trs.length) : (sizesOf trs)[T]? = some (sizeAt trs T : Int) := by
  unfold sizesOf sizeAt
  rw [List.getElem?_map, List.getElem?_eq_getElem h]
  rfl
/-- Such a scan may go through. -/
theorem scanErr_of {d : DC} {p : PC} (hd : AllOk d.trs) (h1 : 1 ≤ d.trs.length) (h : pickErr d p = 0) : scanErr (sizesOf d.trs) (scanOf d p) = 0 := by
  rcases tier_cases h h1 with ⟨e, _, _⟩ | ⟨T, M, B, t⟩
  · unfold scanOf
    rw [if_pos (by omega)]
    unfold scanErr
    simp
  · have hkl : ∀ j a, (scanKeys d p)[j]? = some a → a < sizeAt d.trs T := fun j a ha => by
      have := List.mem_of_getElem? ha
      unfold scanKeys at this
      rw [List.mem_filter, List.mem_range, t.t] at this
      exact this.1
    unfold scanOf
    rw [if_neg (by have := t.t; omega)]
    unfold scanErr
    simp only
    rw [if_neg (by have := t.t; omega), show (tierOf p).toNat = T by have := t.t; omega, sizesOf_get (by have := t.tm; have := t.ml; omega)]
    simp only
    rw [if_neg (by rintro ⟨h1, h2⟩; cases g : p.g <;> simp [g] at h1 h2)]
    refine firstErr_zero fun i _ hi => ?_
    rw [List.length_map, Nat.zero_add] at hi
    unfold keyAt
    rw [List.getElem?_map, List.getElem?_eq_getElem hi]
    simp only [Option.map_some]
    have hlt := hkl i _ (List.getElem?_eq_getElem hi)
    rw [if_neg (by omega), if_neg, if_neg]
    · rintro ⟨_, h2⟩
      cases g : p.g with
      | false => simp [g] at h2
      | true =>
        rw [if_pos g, List.getElem?_map, List.getElem?_eq_getElem hi] at h2
        simp only [Option.map_some, Option.getD_some] at h2
        have := (lift_within hd t.tb t.bl hlt).2.1
        rw [t.b, t.t] at h2
        omega
    · rintro ⟨h0, h2⟩
      have hi2 : i - 1 < (scanKeys d p).length := by omega
      rw [List.getElem?_map, List.getElem?_eq_getElem hi2] at h2
      simp only [Option.map_some, Option.getD_some] at h2
      have := filter_get_lt (n := sizeAt d.trs (tierOf p).toNat) (f := fun k => letsOf d p (liftOf d.trs (tierOf p) (max p.t (tierOf p)) k)) (j := i - 1) (List.getElem?_eq_getElem hi2) (by rw [show i - 1 + 1 = i by omega]; exact List.getElem?_eq_getElem hi)
      omega
theorem planErr_of {ds : List DC} {ps : List PC} (hl : ps.length = ds.length) (hd : ∀ d ∈ ds, dimErr d = 0) (h : picksErr ds ps = 0) : planErr (ds.map fun d => sizesOf d.trs) (List.zipWith scanOf ds ps) = 0 := by
  have hzl : (List.zipWith scanOf ds ps).length = ds.length := by rw [List.length_zipWith]; omega
  unfold planErr
  rw [if_neg (by rw [hzl]; simp)]
  refine firstErr_zero fun i _ hi => ?_
  rw [hzl, Nat.zero_add] at hi
  unfold scanAt
  rw [List.getElem?_zipWith, List.getElem?_map, List.getElem?_eq_getElem hi, List.getElem?_eq_getElem (by omega : i < ps.length)]
  simp only [Option.map_some]
  have hdi := dimErr_zero (hd _ (List.getElem_mem hi))
  exact scanErr_of (dimFrom_ok hdi.2.2.2) hdi.2.1 (picks_at h (List.getElem?_eq_getElem hi) (List.getElem?_eq_getElem (by omega)))

end Go.Proofs.Ytelnhhbefdfeoaa
