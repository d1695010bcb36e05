/- ask.put. -/
import Derived.Test.YtelnhhbefdfeoaaAskM
import Derived.Test.YtelnhhbefdfeoaaAskP
namespace Go.Proofs.Ytelnhhbefdfeoaa
open Go.RowKit
set_option linter.unusedVariables false
set_option linter.unusedSimpArgs false

theorem tputs_le {ts : List (List UInt8)} : ∀ (was : List UInt8), (∀ t ∈ ts, t.length ≤ 16) → (tputs was ts).length ≤ 34 * ts.length := by
  induction ts with
  | nil => intro was _; exact Nat.le_refl 0
  | cons a r ih =>
    intro was h
    have h1 := ih a (fun t ht => h t (List.mem_cons_of_mem _ ht))
    have h2 := h a (List.mem_cons_self ..)
    have h3 := nput_le9 (alike was a)
    have h4 := nput_le9 (a.drop (alike was a)).length
    rw [tputs]
    unfold ptext
    simp only [List.length_append, List.length_cons, List.length_drop] at *
    omega
theorem tput_le {ts : List (List UInt8)} (h : rowErr ts = 0) : (tput ts).length ≤ 9 + 34 * ts.length := by
  have h1 := tputs_le (ts := ts) [] (fun t ht => rowErr_len h ht)
  have h2 := nput_le9 ts.length
  unfold tput
  rw [List.length_append]
  omega
theorem ptext_le {l : List UInt8} {m : Nat} (h : l.length ≤ m) : (ptext l).length ≤ 9 + m := by
  have := nput_le9 l.length
  unfold ptext
  rw [List.length_append]
  omega
/-- What a pick's bytes need. -/
structure PutOk (p : PC) : Prop where
  f : p.f = 0 ∨ (p.f = 1 ∧ p.lo.length ≤ 16 ∧ p.hi.length ≤ 16) ∨ (p.f = 2 ∧ rowErr p.set = 0 ∧ p.set.length ≤ 200)
  b : 0 ≤ p.by_ ∧ p.by_ ≤ 1000000
  t : 0 ≤ p.t ∧ p.t ≤ 1000000
theorem PickOk.put {d : DC} {p : PC} (hd : dimErr d = 0) (h : PickOk d p) : PutOk p := by
  obtain ⟨_, d1, d2, _⟩ := dimErr_zero hd
  refine ⟨?_, ?_, ?_⟩
  · rcases h.f with h | h | h
    · exact .inl h.1
    · exact .inr (.inl ⟨h.1, h.2.2.1, h.2.2.2.1⟩)
    · obtain ⟨h1, _, _, h2, _, tr, h3, h4⟩ := h
      obtain ⟨a, ha⟩ := allOk_mem (dimFrom_ok (dimErr_zero hd).2.2.2) (List.mem_of_getElem? h3)
      have h5 := (tierErr_zero ha).2.2.1
      have h6 := set_len h2 h4
      exact .inr (.inr ⟨h1, h2, by omega⟩)
  · rcases h.b with h | h <;> omega
  · rcases h.f with h | h | h
    · omega
    · omega
    · obtain ⟨h1, _, _, h2, h7, tr, h3, h4⟩ := h
      have := (List.getElem?_eq_some_iff.1 h3).1
      omega
theorem askErr_put {s : SC} {q : List PC} (h : askErr s q = 0) : ∀ p ∈ q, PutOk p := fun p hp => by
  obtain ⟨h1, h2, h3⟩ := askErr_zero h
  obtain ⟨k, hk⟩ := List.getElem?_of_mem hp
  have hk1 := (List.getElem?_eq_some_iff.1 hk).1
  obtain ⟨d, hd⟩ : ∃ d, s.dims[k]? = some d := ⟨_, List.getElem?_eq_getElem (by omega)⟩
  exact (pickErr_zero (picksErr_ok h3 h2 k d p hd hk)).put ((schErr_zero h1).2.2.1 d (List.mem_of_getElem? hd))
theorem pickPut_le {p : PC} (h : PutOk p) : (pickPut p).length ≤ 7000 := by
  have h1 := nput_le9 p.f.toNat
  have h2 := nput_le9 p.t.toNat
  have h3 := nput_le9 (if p.g = true then p.by_.toNat + 1 else 0)
  unfold pickPut
  simp only [List.length_append]
  rcases h.f with h | ⟨h, h4, h5⟩ | ⟨h, h4, h5⟩
  · rw [if_neg (by omega), if_neg (by omega)]
    simp only [List.length_nil]
    omega
  · have h6 := ptext_le h4
    have h7 := ptext_le h5
    rw [if_pos h]
    simp only [List.length_append]
    omega
  · have h6 := tput_le h4
    rw [if_neg (by omega), if_pos h]
    simp only [List.length_append]
    omega

end Go.Proofs.Ytelnhhbefdfeoaa
