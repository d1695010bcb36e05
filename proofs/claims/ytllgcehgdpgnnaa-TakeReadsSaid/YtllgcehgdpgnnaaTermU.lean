/- term.Take: a row of texts of bytes. -/
import Derived.Test.YtllgcehgdpgnnaaTermT
import Derived.Test.YtllgcehgdpgnnaaApart
namespace Go.Proofs.Ytllgcehgdpgnnaa
open Go.RowKit
set_option linter.unusedVariables false
set_option linter.unusedSimpArgs false

theorem own_but2 {w w' : World} {B base : Nat} {e : TypeId} {size n : Nat} {v : Value} {xs : List Value} (h : w.ownsRow base e size v n xs) (hb : But2 B w w') (hB : B + 2 ≤ base) : w'.ownsRow base e size v n xs := by
  refine ⟨h.1, ?_⟩
  rcases h.2 with h0 | ⟨g, cap, cur, h1, h2, h3, h4⟩
  · exact .inl h0
  · have hlt : g < w.heap.size := by
      rcases Nat.lt_or_ge g w.heap.size with h | h
      · exact h
      · rw [Array.getElem?_eq_none h] at h3; cases h3
    exact .inr ⟨g, cap, cur, h1, h2, (hb.block g hlt (by omega) (by omega)).trans h3, h4⟩
theorem own_less {w : World} {base base' : Nat} {e : TypeId} {size n : Nat} {v : Value} {xs : List Value} (h : w.ownsRow base e size v n xs) (hb : base' ≤ base) : w.ownsRow base' e size v n xs := by
  refine ⟨h.1, ?_⟩
  rcases h.2 with h0 | ⟨g, cap, cur, h1, h2, h3⟩
  · exact .inl h0
  · exact .inr ⟨g, cap, cur, h1, Nat.le_trans hb h2, h3⟩

/-- What a whole reading ends with. -/
def endErr {α : Type} (o : PR α) : Int :=
  match o with
  | .error k => k
  | .ok (_, l) => if l = [] then 0 else 3

/-- A row read is laid in a block of the reading function's own. -/
def RT (w0 : World) (B g : Nat) (o : PR (List (List UInt8))) (k : Int) (w' : World) : Prop :=
  Bel w0 w' ∧ k = endErr o ∧ ∃ v, Blk w' g 37 #[v] ∧ ∀ ts l, o = .ok (ts, l) → w'.ownsRow (B + 3) 9 1 v ts.length (ts.map tx)

set_option maxRecDepth 100000 in
set_option maxHeartbeats 1000000 in
theorem ttake1_any (w0 : World) (B g gm : Nat) (s : List UInt8) (most : Int) (w : World) (m0 : -9223372036854775808 ≤ most) (m1 : most ≤ 9223372036854775807) (hI : InAll w0 B s s w) (hg0 : w0.heap.size ≤ g) (hgB : g < B)
    (hm : w.cell? ⟨gm, 0, none⟩ = some (.int .i64 most)) (v0 : Value) (hb : Blk w g 37 #[v0]) :
    Calls Try.prog 113 #[.pointer (some ⟨B + 1, 0, none⟩), .pointer (some ⟨gm, 0, none⟩), .pointer (some ⟨g, 0, none⟩)] w (AllPost B s (RT w0 B g (tread most s))) := by
  have HI := Lib.hid hI
  have Hb := Lib.hid hb
  have HT := Lib.hid (tread_any (B + 1) s s most w hI.r m0 m1)
  have hlt : B + 2 < w.heap.size := hI.p.lt
  clear hI hb
  go_enter Try.func113, Try.ntmps113
  go_wp2_with fail
  cases ho : tread most s with
  | error k =>
    have Ho := Lib.hid ho
    rw [ho] at HT
    refine HT.out.mono ?_; rintro e w1 ⟨rfl, hg, l1, hr⟩
    clear ho
    go_wp2_with fail
    refine ⟨rfl, ?_⟩
    refine (HI.out.read hg hr).err ⟨(HI.out.read hg hr).bel, rfl, v0, Hb.out.grown hg (by simp; omega), fun _ _ h => by cases h⟩
  | ok q =>
    obtain ⟨ts, l1⟩ := q
    have Ho := Lib.hid ho
    rw [ho] at HT
    refine HT.out.mono ?_; rintro e w1 ⟨v, rfl, hx⟩
    have b1 := Hb.out.grown hx.g (by simp; omega)
    have c1 := b1.cell 0
    have f1 := b1.frozen 0
    have B1 := Lib.hid b1
    have I1 := Lib.hid (HI.out.read hx.g hx.r)
    have O1 := Lib.hid hx.own
    simp only [List.getElem?_toArray, List.getElem?_cons_zero] at c1
    have hv : v.oneCell' = true := by
      obtain ⟨A, c, rfl, _⟩ := own_slice hx.own
      rfl
    obtain ⟨A, c, rfl, _⟩ := own_slice hx.own
    clear b1 hx ho
    go_wp2
    go_end0
    have I2 := I1.out.kept (grownBy_setCell w1 g 0 (.slice A ts.length c)) hg0 (by omega) (by omega) (by omega)
    refine I2.ok ⟨I2.bel, by rw [Ho.out]; rfl, .slice A ts.length c, ?_, ?_⟩
    · have := B1.out.set_ 0 (.slice A ts.length c)
      simpa using this
    · intro ts' l' h
      rw [Ho.out] at h
      injection h with h
      injection h with h1 h2
      subst h1
      exact own_less (own_set O1.out (fun b hb => by have := own_ge O1.out hb; show b ≠ g; omega) _) (by omega)

/-- What term.Take answers. -/
def ttake (most : Int) (s : List UInt8) : List (List UInt8) × Int :=
  match tread most s with
  | .error k => ([], k)
  | .ok (ts, l) => if l = [] then (ts, 0) else ([], 3)
/-- A row of texts with an error's number, told. -/
def TxSaid (w : World) (r : List (List UInt8) × Int) (e : Ending) (w' : World) : Prop :=
  ∃ A c, e = .returned (.tuple #[.slice A r.1.length c, .int .i64 r.2]) ∧ Bel w w' ∧ Rd w' 1 A r.1.length (r.1.map tx)

theorem tread_err {most k : Int} {s : List UInt8} (h : tread most s = .error k) : k = 3 ∨ k = 5 := by
  have key : ∀ n was l k, treads was n l = .error k → k = 3 ∨ k = 5 := by
    intro n
    induction n with
    | zero => intro was l k h; cases h
    | succ n ih =>
      intro was l k h
      unfold treads at h
      split at h
      · rename_i e he
        injection h with h
        subst h
        unfold tround at he
        split at he
        · rename_i hp
          injection he with he
          subst he
          exact pnum_err hp
        · split at he
          · rename_i hp
            injection he with he
            subst he
            unfold ptxt at hp
            split at hp
            · rename_i h2
              injection hp with hp
              subst hp
              exact pnum_err h2
            · unfold pfix at hp
              split at hp
              · injection hp with hp; exact .inl hp.symm
              · cases hp
          · split at he
            · cases he
            · injection he with he; exact .inl he.symm
      · split at h
        · rename_i he
          injection h with h
          subst h
          exact ih _ _ _ he
        · cases h
  unfold tread at h
  split at h
  · rename_i hp
    injection h with h
    subst h
    exact pnum_err hp
  · exact key _ _ _ _ h

set_option maxRecDepth 100000 in
set_option maxHeartbeats 1000000 in
theorem ttake_any (s : List UInt8) (most : Int) (w : World) (m0 : -9223372036854775808 ≤ most) (m1 : most ≤ 9223372036854775807) (hs : s.length ≤ 1000001) :
    Calls Try.prog 47 #[.string ⟨s.toArray⟩, .int .i64 most] w (TxSaid w (ttake most s)) := by
  have hmf : ∀ (fn : Fn) (first cap : Array Value) (w : World), (Instr.makeFunc fn first cap).run Try.prog w = .ok (.func fn first cap) w := fun _ _ _ _ => rfl
  go_enter Try.func47, Try.ntmps47
  go_wp2_with fail
  have hW : Bel w ((w.alloc (Obj.cells #[Value.int IntKind.i64 most] 3)).alloc (Obj.cells #[Value.slice none 0 0] 37)) := ((Bel.refl w).alloc _).alloc _
  have hsz : ((w.alloc (Obj.cells #[Value.int IntKind.i64 most] 3)).alloc (Obj.cells #[Value.slice none 0 0] 37)).heap.size = w.heap.size + 2 := by simp
  have a0 := (Blk.new w 3 #[.int .i64 most]).alloc (.cells #[.slice none 0 0] 37)
  have a1 := Blk.new (w.alloc (.cells #[.int .i64 most] 3)) 37 #[.slice none 0 0]
  simp only [World.size_alloc] at a1
  generalize ((w.alloc (Obj.cells #[Value.int IntKind.i64 most] 3)).alloc (Obj.cells #[Value.slice none 0 0] 37)) = W at *
  have HW := Lib.hid hW
  refine (all_any 113 #[.pointer (some ⟨w.heap.size, 0, none⟩), .pointer (some ⟨w.heap.size + 1, 0, none⟩)] s W hs (RT w W.heap.size (w.heap.size + 1) (tread most s)) (cf_any Try.func113 (by kernel_rfl) (by kernel_rfl)) (fun w4 h1 h2 h3 h4 h5 => ttake1_any w W.heap.size (w.heap.size + 1) w.heap.size s most w4 m0 m1 (.begin HW.out h1 h3 h4 h5) (by omega) (by omega) ((a0.bel h1).cell 0) _ (a1.bel h1))).mono ?_
  rintro e w5 ⟨k, w4, rfl, ⟨hb4, hk, v, hv, ho⟩, hbut, _⟩
  have B5 := Lib.hid (hb4.but2 (by omega) hbut)
  cases hT : tread most s with
  | error k' =>
    have HT : Hid (ttake most s = ([], k')) := by show _ = _; unfold ttake; rw [hT]
    have hk' := tread_err hT
    rw [hT] at hk
    have hk2 : k = k' := hk
    subst hk2
    have dk : (k == 0) = false := by rcases hk' with h | h <;> subst h <;> rfl
    clear hT hk hk' ho hv hbut hb4 hW hsz a0 a1
    go_wp2_with fail
    go_ret2
    rw [HT.out]
    exact ⟨none, 0, rfl, B5.out, Rd.nil⟩
  | ok q =>
    obtain ⟨ts, l⟩ := q
    rw [hT] at hk
    by_cases hl : l = []
    · have HT : Hid (ttake most s = (ts, 0)) := by show _ = _; unfold ttake; rw [hT]; simp [hl]
      have hk2 : k = 0 := by rw [hk]; show (if l = [] then (0 : Int) else 3) = 0; rw [if_pos hl]
      subst hk2
      have c5 := (hv.but2 hbut (by omega) (by omega)).cell 0
      simp only [List.getElem?_toArray, List.getElem?_cons_zero] at c5
      have O5 := Lib.hid (own_but2 (ho ts l hT) hbut (by omega))
      obtain ⟨A, c, rfl, _⟩ := own_slice O5.out
      clear hT hk hl ho hv hbut hb4 hW hsz a0 a1
      go_wp2_with fail
      go_ret2
      rw [HT.out]
      exact ⟨A, c, rfl, B5.out, Rd.of_own O5.out⟩
    · have HT : Hid (ttake most s = ([], 3)) := by show _ = _; unfold ttake; rw [hT]; simp [hl]
      have hk2 : k = 3 := by rw [hk]; show (if l = [] then (0 : Int) else 3) = 3; rw [if_neg hl]
      subst hk2
      clear hT hk hl ho hv hbut hb4 hW hsz a0 a1
      go_wp2_with fail
      go_ret2
      rw [HT.out]
      exact ⟨none, 0, rfl, B5.out, Rd.nil⟩

end Go.Proofs.Ytllgcehgdpgnnaa
