/- Shapes of cubes: how they lie in memory; the document's Small. -/
import Derived.Test.YtlclllkjnhgbjaaSep
import Derived.Test.YtlclllkjnhgbjaaBe
namespace Go.Proofs.Ytlclllkjnhgbjaa
open Go.RowKit Go.ChangeShapes Go.WideShapes Go.Deep
set_option linter.unusedVariables false
set_option linter.unusedSimpArgs false

/-- The first test that fails. -/
def firstErr (f : Nat → Int) : Nat → Nat → Int
  | 0, _ => 0
  | m + 1, j => if f j ≠ 0 then f j else firstErr f m (j + 1)
theorem firstErr_hit {f : Nat → Int} {n j : Nat} {e : Int} (h : j < n) (h1 : f j = e) (h2 : e ≠ 0) : firstErr f (n - j) j = e := by
  rw [show n - j = (n - (j + 1)) + 1 by omega, firstErr, h1, if_pos h2]
theorem firstErr_next {f : Nat → Int} {n j : Nat} (h : j < n) (h1 : f j = 0) : firstErr f (n - j) j = firstErr f (n - (j + 1)) (j + 1) := by
  rw [show n - j = (n - (j + 1)) + 1 by omega, firstErr, h1, if_neg (by omega)]
/-- A shape. -/
structure Shp where
  sz : Row (Row Int)
  ms : Int
abbrev Shp.cs (x : Shp) : Array Value := #[.slice x.sz.A x.sz.n x.sz.c, .int .i64 x.ms]
structure Shp.rd (w : World) (x : Shp) : Prop where
  sz : x.sz.rd w
  ms : I64 x.ms
theorem Shp.rd.mono {w w' : World} {x : Shp} (h : x.rd w) (hb : Bel w w') : x.rd w' := ⟨h.sz.mono hb, h.ms⟩
abbrev Shp.con (x : Shp) : List (List Int) := x.sz.l.map Row.l
theorem shp_one (x : Shp) : x.cs.all (·.oneCell') = true := by simp [Value.oneCell']
theorem rowShp2 : RowTy Try.prog 24 2 := ⟨⟨_, Try.underlying24, rfl⟩, by kernel_rfl⟩
theorem Row.rd.slAt {w : World} {x : Row (Row Int)} (h : x.rd w) {k : Nat} (hk : k < x.n) : ∃ b o y, x.A = some ⟨b, o, none⟩ ∧ x.l[k]? = some y ∧ y.ok w ∧ w.cell? ⟨b, o + k, none⟩ = some (.slice y.A y.n y.c) := by
  obtain ⟨b, o, y, e, hy, hc⟩ := rd_cell rfl h.r hk
  exact ⟨b, o, y, e, hy, h.all y (List.mem_of_getElem? hy), hc _ rfl⟩
set_option maxRecDepth 100000 in
theorem c_shp : Try.prog.cellsOf 24 = 2 := by kernel_rfl
set_option maxRecDepth 100000 in
theorem c_intss : Try.prog.cellsOf 22 = 1 := by kernel_rfl
theorem opens_intss : Opens Try.prog 22 (Row (Row Int)) := opens_row Try.underlying22 c_ints (by kernel_rfl) opens_nums
set_option maxRecDepth 100000 in
theorem open_shp {H : Type} {enc : TypeId × Value → H} {w : World} {base b0 : Nat} {spare : Nat → Bool} {held : Bool} {r : Reach} {v : Value} {d : DataW H} {p : List MemPlace}
    (hv : Value.okWide Try.prog w r b0 24 v) (h : DataW.Trod enc Try.prog w base spare held 24 v d p) (hz : Sized Try.prog 24 d) : ∃ x : Shp, v = .agg x.cs ∧ x.rd w := by
  obtain ⟨cs, rfl, _⟩ := okWide_struct Try.underlying24 hv
  obtain ⟨fuel, hf⟩ := h
  have hl := struct_len Try.underlying24 hf c_shp
  obtain ⟨a, ha, wa⟩ := field_of Try.underlying24 hf hz 0 _ rfl opens_intss c_intss
  obtain ⟨b, hb, wb⟩ := field_of Try.underlying24 hf hz 1 _ rfl (opens_i64 Try.underlying3) c_int
  refine ⟨⟨a, b⟩, ?_, ⟨Row.ok.rds wa, wb⟩⟩
  simp only [Value.cells] at ha hb hl
  obtain ⟨cl⟩ := cs
  match cl, hl with
  | [x0, x1], _ =>
    simp [Cel.cells, Row.v] at ha hb
    simp [ha, hb]
def SmallS (s : Shp) : Prop := s.sz.n ≤ 20 ∧ ∀ y ∈ s.sz.l, y.n ≤ 10
set_option maxRecDepth 100000 in
set_option maxHeartbeats 2000000 in
theorem smallS_any (s : Shp) (w : World) (hs : s.rd w) :
    Calls Try.prog 8 #[.agg s.cs] w (FewPost (SmallS s) w) := by
  have HSZ := Lib.hid hs.sz
  have hl1 : Hid (s.sz.l.length = s.sz.n) := hs.sz.len
  have n63 := hs.sz.n63
  have H := Lib.hid ((SL.start No w).alloc s.cs 24)
  (try simp only [List.set_cons_zero, List.set_cons_succ, List.cons_append, List.nil_append, List.eraseIdx_cons_zero, List.eraseIdx_cons_succ, List.setIfInBounds_toArray, World.size_alloc, selR, List.getD_cons_zero, List.getD_cons_succ] at H)
  obtain ⟨⟨A, n, c, X⟩, ms⟩ := s
  simp only [Shp.cs] at *
  clear hs
  go_enter Try.func8, Try.ntmps8
  go_wp2_with fail
  generalize w.heap.size = x at *
  generalize World.alloc _ _ = w1 at *
  have HA : Hid (∀ i y, i < 0 → X[i]? = some y → y.n ≤ 10) := fun i t hi => absurd hi (by omega)
  go_loopg [3] 22 (fun gg s3 wr => ∃ (k : Nat), gg = 22 - k ∧ k ≤ 21 ∧ k ≤ n ∧ s3 = .int .i64 k ∧ Hid (SL No w wr [rBlk x 24 #[.slice A n c, .int .i64 ms]]) ∧ Hid (∀ i y, i < k → X[i]? = some y → y.n ≤ 10))
  case atStart => exact ⟨0, rfl, by omega, by omega, rfl, H, HA⟩
  case round =>
    clear H HA
    obtain ⟨k, hgk, hk21, hkn, rfl, H, HA⟩ := hrel
    have Hgk := Lib.hid hgk
    clear hgk
    have cc0 := (H.out.blk 0 rfl).cell 0; simp only [List.getElem?_toArray, List.getElem?_cons_zero, List.getElem?_cons_succ] at cc0
    by_cases hlt : k < n ∧ k ≤ 20
    · obtain ⟨h1, h2⟩ := hlt
      have e1 : decide ((k : Int) ≤ 20) = true := by simp <;> omega
      obtain ⟨bb, oo, y, hA, hyk, hyr, q1⟩ := (HSZ.out.mono H.out.to).slAt (k := k) h1
      simp only at hA
      subst hA
      have HYK := Lib.hid hyk
      have y63 := hyr.rds.n63
      have i0 : (0 : Int) ≤ k := by omega
      have i1 : (k : Int) < n := by omega
      clear hyk hyr
      by_cases h10 : y.n ≤ 10
      · have d1 : decide ((10 : Int) < y.n) = false := by simp <;> omega
        have HN : Hid (∀ i y, i < k + 1 → X[i]? = some y → y.n ≤ 10) := by
          intro i d' hi hid
          rcases (show i < k ∨ i = k by omega) with h | h
          · exact HA.out i d' h hid
          · subst h
            rw [HYK.out] at hid
            injection hid with hid
            subst hid
            exact h10
        clear HA
        go_wp2_with fail
        clear cc0 q1
        go_roundg (22 - (k + 1))
        case rel => exact ⟨k + 1, rfl, by omega, by omega, by go_num, H, HN⟩
        case measure => rw [Hgk.out]; omega
      · have d1 : decide ((10 : Int) < y.n) = true := by simp <;> omega
        go_wp2
        go_ret
        exact ⟨false, rfl, (fun h => by cases h), H.out.to⟩
    · have e0 : (decide ((k : Int) < n) = false ∧ decide (k < n) = false ∧ ¬ k < n) ∨ (decide ((k : Int) < n) = true ∧ decide (k < n) = true ∧ k < n ∧ decide ((k : Int) ≤ 20) = false) := by
        by_cases h : k < n
        · right
          refine ⟨by simp <;> omega, by simp <;> omega, h, by simp <;> omega⟩
        · left
          refine ⟨by simp <;> omega, by simp <;> omega, h⟩
      clear hlt
      have HALL : Hid (n ≤ 20 → ∀ y ∈ X, y.n ≤ 10) := by
        intro h20 d hd
        obtain ⟨i, hi⟩ := List.mem_iff_getElem?.1 hd
        have hil : i < X.length := (List.getElem?_eq_some_iff.1 hi).1
        refine HA.out i d ?_ hi
        have := hl1.out
        rcases e0 with ⟨_, _, h⟩ | ⟨_, _, h, h'⟩
        · omega
        · simp at h'; omega
      clear HA
      by_cases h20 : n ≤ 20
      · have d1 : decide ((n : Int) ≤ 20) = true := by simp <;> omega
        have hFew : Hid (SmallS ⟨⟨A, n, c, X⟩, ms⟩) := ⟨h20, HALL.out h20⟩
        rcases e0 with ⟨e1, e2, e3⟩ | ⟨e1, e2, e3, e4⟩
        all_goals
          go_wp2
          go_ret
          exact ⟨_, rfl, fun _ => hFew.out, H.out.to⟩
      · have d1 : decide ((n : Int) ≤ 20) = false := by simp <;> omega
        rcases e0 with ⟨e1, e2, e3⟩ | ⟨e1, e2, e3, e4⟩
        all_goals
          go_wp2
          go_ret
          exact ⟨false, rfl, (fun h => by cases h), H.out.to⟩

end Go.Proofs.Ytlclllkjnhgbjaa
