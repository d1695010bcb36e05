/- The operations of a region, by their numbers. -/
namespace Go.Proofs.Ytnjpoamebkehbaa
theorem get_o0 {α : Type} {x : α} {l : List α} : (List.toArray (x :: l))[0]? = some x := rfl
theorem get_os {α : Type} {x y : α} {l : List α} {i : Nat} (h : l.toArray[i]? = some x) : (List.toArray (y :: l))[i + 1]? = some x := by simpa using h
theorem get_ot {α : Type} {x y0 y1 y2 y3 y4 y5 y6 y7 y8 y9 : α} {l : List α} {i : Nat} (h : l.toArray[i]? = some x) : (List.toArray (y0 :: y1 :: y2 :: y3 :: y4 :: y5 :: y6 :: y7 :: y8 :: y9 :: l))[i + 10]? = some x := by simpa using h
end Go.Proofs.Ytnjpoamebkehbaa
