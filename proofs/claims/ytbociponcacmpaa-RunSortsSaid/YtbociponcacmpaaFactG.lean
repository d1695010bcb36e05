/- Walk of slices.BinarySearchFunc by fact.Compare, in a row that rises. -/
import Derived.Test.YtbociponcacmpaaFactF
namespace Go.Proofs.Ytbociponcacmpaa
open Go.RowKit
set_option linter.unusedVariables false
attribute [local go_sem] fct_get0

/-- The tuple that stands at a place. -/
theorem chain_le {l : List (List Int)} (h : chain lessK l = true) : ∀ {i j : Nat} {a b : List Int}, i < j → l[i]? = some a → l[j]? = some b → cmpK a b = -1 := by
  induction l with
  | nil => intro i j a b _ ha; simp at ha
  | cons x l ih =>
    intro i j a b hij ha hb
    cases l with
    | nil =>
      cases j with
      | zero => omega
      | succ j => simp at hb
    | cons y l =>
      rw [chain, Bool.and_eq_true] at h
      have hxy : cmpK x y = -1 := by have := h.1; unfold lessK at this; simpa using this
      cases j with
      | zero => omega
      | succ j =>
        rw [List.getElem?_cons_succ] at hb
        cases i with
        | zero =>
          simp at ha
          subst ha
          cases j with
          | zero => simp at hb; subst hb; exact hxy
          | succ j => exact cmpK_trans hxy (ih h.2 (i := 0) (j := j + 1) (by omega) rfl hb)
        | succ i =>
          rw [List.getElem?_cons_succ] at ha
          exact ih h.2 (by omega) ha hb
theorem below_of {l : List (List Int)} (h : chain lessK l = true) {i j : Nat} {a b t : List Int} (hij : i ≤ j) (ha : l[i]? = some a) (hb : l[j]? = some b) (hbt : cmpK b t = -1) : cmpK a t = -1 := by
  rcases Nat.lt_or_ge i j with h1 | h1
  · exact cmpK_trans (chain_le h h1 ha hb) hbt
  · have : i = j := by omega
    subst this
    rw [ha] at hb
    injection hb with hb
    subst hb
    exact hbt
/-- Where a tuple stands, or would stand. -/
structure IsAt (l : List Fct) (t : List Int) (p : Nat) : Prop where
  le : p ≤ l.length
  lo : ∀ m f, m < p → l[m]? = some f → cmpK f.ks.l t = -1
  hi : ∀ m f, p ≤ m → l[m]? = some f → ¬ cmpK f.ks.l t = -1
def metAt (l : List Fct) (t : List Int) (p : Nat) : Bool := match l[p]? with | some f => cmpK f.ks.l t == 0 | none => false
def FindPost (l : List Fct) (t : List Int) (w : World) (e : Ending) (w' : World) : Prop := ∃ p, IsAt l t p ∧ e = .returned (.tuple #[.int .i64 (p : Nat), .bool (metAt l t p)]) ∧ Bel w w'
theorem fcompare_val {f g : Fct} {w : World} {r : Int} (h : cmpK f.ks.l g.ks.l = r) (hf : f.ok w) (hg : g.ok w) :
    Calls Try.prog 63 #[.agg f.cs, .agg g.cs] w fun e w' => e = .returned (.int .i64 r) ∧ Bel w w' := by
  have := fcompare_any f g w hf hg
  rw [h] at this
  exact this

/-- fact.Compare as a value. -/
abbrev cmpV : Value := .func (.func 63) #[] #[]

set_option maxRecDepth 100000 in
set_option maxHeartbeats 4000000 in
theorem bsearch_any (x : Row Fct) (t : Fct) (w : World) (hx : x.ok w) (ht : t.ok w) (hn : x.n ≤ 1000000) (hr : risesF x.l = true) :
    Calls Try.prog 76 #[x.v, .agg t.cs, cmpV] w (FindPost x.l t.ks.l w) := by
  have hlen : Hid (x.l.length = x.n) := hx.len
  have Hx := Lib.hid hx
  have Ht := Lib.hid ht
  have Hr := Lib.hid hr
  clear hx ht hr
  obtain ⟨A, n, c, l⟩ := x
  simp only [Row.v] at *
  have bt : Blk (w.alloc (.cells t.cs 79)) w.heap.size 79 t.cs := Blk.new w _ _
  have hBW : Bel w (w.alloc (.cells t.cs 79)) := (Bel.refl w).alloc _
  go_enter Try.func76, Try.ntmps76
  go_wp2
  generalize w.alloc (.cells t.cs 79) = W at *
  generalize hgg : w.heap.size = g at *
  clear hgg
  go_loopg [9, 10] n (fun gg si sj wr => ∃ i j : Nat, gg = j - i ∧ i ≤ j ∧ j ≤ n ∧ si = .int .i64 i ∧ sj = .int .i64 j ∧ Bel W wr ∧ Hid ((∀ m f, m < i → l[m]? = some f → cmpK f.ks.l t.ks.l = -1) ∧ (∀ m f, j ≤ m → l[m]? = some f → ¬ cmpK f.ks.l t.ks.l = -1)))
  case atStart => exact ⟨0, n, by omega, by omega, by omega, rfl, rfl, Bel.refl _, ⟨fun m f h => by omega, fun m f h hf => by
    have h1 := (List.getElem?_eq_some_iff.1 hf).1
    have h2 : l.length = n := hlen.out
    omega⟩⟩
  case round =>
    obtain ⟨i, j, hgk, hij, hj, rfl, rfl, hB, hF⟩ := hrel
    have Hgk := Lib.hid hgk
    clear hgk
    by_cases hlt : i < j
    · obtain ⟨b, o, f, rfl, hb, hf, hfo, _, hrf, _⟩ := ((Hx.out.mono hBW).mono hB).fct (k := (i + j) / 2) (by simp only; omega)
      have Hf := Lib.hid hf
      have Hfo := Lib.hid hfo
      clear hf hfo
      have bt' := bt.bel hB
      have hrt := bt'.range
      have hgl := bt'.lt
      have Hto : Hid (t.ok wr) := ⟨(Ht.out.ks.mono hBW).mono hB, Ht.out.ag⟩
      clear bt'
      by_cases hc : cmpK f.ks.l t.ks.l = -1
      · have HC := Lib.hid hc
        have HR : Hid ((∀ m f, m < (i + j) / 2 + 1 → l[m]? = some f → cmpK f.ks.l t.ks.l = -1) ∧ (∀ m f, j ≤ m → l[m]? = some f → ¬ cmpK f.ks.l t.ks.l = -1)) :=
          ⟨fun m f' hm hf' => below_of Hr.out (show m ≤ (i + j) / 2 by omega) (keys_get hf') (keys_get Hf.out) HC.out, hF.out.2⟩
        clear hc hF
        go_wp2_with fail
        refine wp_region_over (by kernel_rfl) (by kernel_rfl) ?_
        repeat (first
          | ((with_reducible show wpQuiet _ _ _ _ (⟨some 28, _, _, _, _, _⟩ :: _) _); refine wpQuiet_load_row rfl rowFct (.tmp 27) rfl b (o + (i + j) / 2 * 11) rfl f.cs rfl hb hrf ?_; simp only [Act.put, List.setIfInBounds_toArray, List.set_cons_zero, List.set_cons_succ])
          | ((with_reducible show wpQuiet _ _ _ _ (⟨some 29, _, _, _, _, _⟩ :: _) _); refine wpQuiet_load_row rfl rowFct (.tmp 4) rfl g (0) rfl t.cs rfl hgl hrt ?_; simp only [Act.put, List.setIfInBounds_toArray, List.set_cons_zero, List.set_cons_succ])
          | go_big_quiet_step (((go_at_call 63; exact calls_over (fcompare_val HC.out (Hfo.out.over _) (Hto.out.over _))))))
        refine wpQuiet_nil ?_
        rintro _ ⟨u, rfl⟩
        go_wp2
        go_roundg (j - ((i + j) / 2 + 1))
        case rel => exact ⟨(i + j) / 2 + 1, j, rfl, by omega, hj, by go_num, rfl, hB.trans u.bel, HR⟩
        case measure => rw [Hgk.out]; omega
      · have hrange := cmpK_range f.ks.l t.ks.l
        obtain ⟨r, HC⟩ : ∃ r, Hid (cmpK f.ks.l t.ks.l = r) := ⟨_, rfl⟩
        have r0 : 0 ≤ r := by rw [← HC.out]; omega
        have rd : decide (r < 0) = false := by simp; omega
        have HR : Hid ((∀ m f, m < i → l[m]? = some f → cmpK f.ks.l t.ks.l = -1) ∧ (∀ m f, (i + j) / 2 ≤ m → l[m]? = some f → ¬ cmpK f.ks.l t.ks.l = -1)) :=
          ⟨hF.out.1, fun m f' hm hf' he => hc (below_of Hr.out hm (keys_get Hf.out) (keys_get hf') he)⟩
        clear hc hF hrange
        go_wp2_with fail
        refine wp_region_over (by kernel_rfl) (by kernel_rfl) ?_
        repeat (first
          | ((with_reducible show wpQuiet _ _ _ _ (⟨some 28, _, _, _, _, _⟩ :: _) _); refine wpQuiet_load_row rfl rowFct (.tmp 27) rfl b (o + (i + j) / 2 * 11) rfl f.cs rfl hb hrf ?_; simp only [Act.put, List.setIfInBounds_toArray, List.set_cons_zero, List.set_cons_succ])
          | ((with_reducible show wpQuiet _ _ _ _ (⟨some 29, _, _, _, _, _⟩ :: _) _); refine wpQuiet_load_row rfl rowFct (.tmp 4) rfl g (0) rfl t.cs rfl hgl hrt ?_; simp only [Act.put, List.setIfInBounds_toArray, List.set_cons_zero, List.set_cons_succ])
          | go_big_quiet_step (((go_at_call 63; exact calls_over (fcompare_val HC.out (Hfo.out.over _) (Hto.out.over _))))))
        refine wpQuiet_nil ?_
        rintro _ ⟨u, rfl⟩
        go_wp2
        go_roundg ((i + j) / 2 - i)
        case rel => exact ⟨i, (i + j) / 2, rfl, by omega, by omega, rfl, by go_num, hB.trans u.bel, HR⟩
        case measure => rw [Hgk.out]; omega
    · obtain rfl : i = j := by omega
      have HA : Hid (IsAt l t.ks.l i) := ⟨by have h2 : l.length = n := hlen.out; omega, hF.out.1, hF.out.2⟩
      clear hF hlt
      by_cases hin : i < n
      · obtain ⟨b, o, f, rfl, hb, hf, hfo, _, hrf, _⟩ := ((Hx.out.mono hBW).mono hB).fct hin
        have HM : Hid (metAt l t.ks.l i = (cmpK f.ks.l t.ks.l == 0)) := by show _ = _; unfold metAt; rw [hf]
        have Hfo := Lib.hid hfo
        clear hf hfo
        have bt' := bt.bel hB
        have hrt := bt'.range
        have hgl := bt'.lt
        have Hto : Hid (t.ok wr) := ⟨(Ht.out.ks.mono hBW).mono hB, Ht.out.ag⟩
        clear bt'
        have d1 : decide ((i : Int) < (n : Int)) = true := by simp; omega
        have d1' : decide (i < n) = true := by simp; omega
        obtain ⟨r, HC⟩ : ∃ r, Hid (cmpK f.ks.l t.ks.l = r) := ⟨_, rfl⟩
        go_wp2_with fail
        refine wp_region_over (by kernel_rfl) (by kernel_rfl) ?_
        repeat (first
          | ((with_reducible show wpQuiet _ _ _ _ (⟨some 44, _, _, _, _, _⟩ :: _) _); refine wpQuiet_load_row rfl rowFct (.tmp 43) rfl b (o + i * 11) rfl f.cs rfl hb hrf ?_; simp only [Act.put, List.setIfInBounds_toArray, List.set_cons_zero, List.set_cons_succ])
          | ((with_reducible show wpQuiet _ _ _ _ (⟨some 45, _, _, _, _, _⟩ :: _) _); refine wpQuiet_load_row rfl rowFct (.tmp 4) rfl g (0) rfl t.cs rfl hgl hrt ?_; simp only [Act.put, List.setIfInBounds_toArray, List.set_cons_zero, List.set_cons_succ])
          | go_big_quiet_step (((go_at_call 63; exact calls_over (fcompare_val HC.out (Hfo.out.over _) (Hto.out.over _))))))
        refine wpQuiet_nil ?_
        rintro _ ⟨u, rfl⟩
        rw [HC.out] at HM
        go_wp2
        go_ret2
        exact ⟨i, HA.out, by rw [HM.out]; rfl, hBW.trans (hB.trans u.bel)⟩
      · have HM : Hid (metAt l t.ks.l i = false) := by
          show _ = _
          unfold metAt
          rw [List.getElem?_eq_none (by have h2 : l.length = n := hlen.out; omega)]
        have d1 : decide ((i : Int) < (n : Int)) = false := by simp; omega
        have d1' : decide (i < n) = false := by simp; omega
        go_wp2_with fail
        go_quiet (fail)
        go_wp2
        go_ret2
        exact ⟨i, HA.out, by rw [HM.out]; rfl, (hBW.trans hB).drewN _⟩

end Go.Proofs.Ytbociponcacmpaa
