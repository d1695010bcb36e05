/- The walk of the law SchemaChecks. -/
import Derived.Test.YtnekknemjhlgdaaSchA
import Derived.Test.YtnekknemjhlgdaaSchT
import Derived.Test.YtnekknemjhlgdaaSchZ
import Derived.Test.YtnekknemjhlgdaaSchY
import Derived.Test.YtnekknemjhlgdaaSchX
namespace Go.Proofs.Ytnekknemjhlgdaa
open Go.RowKit
set_option linter.unusedVariables false
set_option linter.unusedSimpArgs false

theorem FewS.hn {s : Sch} (h : FewS s) : s.dm.n ≤ 1000000 := by have := h.1; omega
theorem FewS.hm {s : Sch} (h : FewS s) : s.ms.n ≤ 1000000 := by have := h.2.1; omega
theorem FewS.hd {s : Sch} (h : FewS s) : ∀ d ∈ s.dm.l, d.tr.n ≤ 1000000 ∧ ∀ t ∈ d.tr.l, t.up.n ≤ 100000 := fun d hd => ⟨by have := (h.2.2 d hd).1; omega, fun t ht => by have := ((h.2.2 d hd).2 t ht).2; omega⟩
theorem schtake_put {d : SC} (h : schErr d = 0) : schtake (schPut d) = (d, 0) := by
  unfold schtake
  have := psch_put h []
  rw [List.append_nil] at this
  rw [this]
  simp
theorem schPut_len {d : SC} (h : schErr d = 0) : (schPut d).length ≤ 900000 := by
  obtain ⟨h1, h2, h3, h4, h5, h6⟩ := schErr_zero h
  have h7 := nput_le9 d.dims.length
  have h8 := nput_le9 d.ms.length
  have h9 : (d.dims.flatMap dimPut).length ≤ 50000 * d.dims.length := flat_len fun x hx => dimPut_len (h3 x hx)
  have h10 : (d.ms.flatMap ptext).length ≤ 30 * d.ms.length := flat_len fun x hx => by
    have := isName_len (h6 x hx)
    have := nput_le9 x.length
    unfold ptext
    rw [List.length_append]
    omega
  unfold schPut
  simp only [List.length_append]
  omega

end Go.Proofs.Ytnekknemjhlgdaa
