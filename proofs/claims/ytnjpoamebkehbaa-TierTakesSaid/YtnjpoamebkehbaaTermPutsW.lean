/- The walk of the law TermPuts. -/
import Derived.Test.YtnjpoamebkehbaaTermQ
import Derived.Test.YtnjpoamebkehbaaTermV
import Derived.Test.YtnjpoamebkehbaaRow
namespace Go.Proofs.Ytnjpoamebkehbaa
open Go.RowKit
set_option linter.unusedVariables false

theorem txok_row {x : Row (List UInt8)} {w : World} (hx : x.ok w) : TxOk x.l := fun t ht => Nat.le_trans (hx.all t ht) (by omega)
theorem tputs_len (ts : List (List UInt8)) : ∀ was, (∀ t ∈ ts, t.length ≤ 16) → (tputs was ts).length ≤ 34 * ts.length := by
  induction ts with
  | nil => intro was h; simp [tputs]
  | cons t r ih =>
    intro was h
    have h1 := ih t (fun u hu => h u (List.mem_cons_of_mem _ hu))
    have h2 := h t (List.mem_cons_self ..)
    have h3 := nput_le9 (alike was t)
    have h4 := nput_le9 (t.drop (alike was t)).length
    rw [tputs]
    unfold ptext
    simp only [List.length_append, List.length_cons] at *
    have h5 : (t.drop (alike was t)).length ≤ 16 := by rw [List.length_drop]; omega
    omega
theorem tput_len {ts : List (List UInt8)} (h : rowErr ts = 0) : (tput ts).length ≤ 9 + 34 * ts.length := by
  unfold tput
  rw [List.length_append]
  have := nput_le9 ts.length
  have := tputs_len ts [] (fun t ht => rowErr_len h ht)
  omega

end Go.Proofs.Ytnjpoamebkehbaa
