/- Runs and their heads, as the merge turns them. -/
import Derived.Test.YtnekknemjhlgdaaKmF
import Derived.Test.YtnekknemjhlgdaaFactD
import Derived.Test.YtnekknemjhlgdaaSepT
namespace Go.Proofs.Ytnekknemjhlgdaa
open Go.RowKit
set_option linter.unusedVariables false
set_option linter.unusedSimpArgs false


section
variable {P : Program}
theorem wpList_build2K {ops : Array Oper} {rest : List Oper} {o : Oper} {a : Act} {w : World} {Q : Exit → Act → World → Prop} (hgd : o.guard = none) {t : TypeId} (x y : Operand) {i j : Nat} (ho : o.op = .build t #[(i, x), (j, y)])
    {vx vy v : Value} (hx : a.eval x = vx) (hy : a.eval y = vy) (hr : ∀ w, (Instr.build t #[(i, vx), (j, vy)]).run P w = .ok v w)
    (h : wpList P ops Q rest (a.put o.dst v) w) : wpList P ops Q (o :: rest) a w := by
  refine wpList_plain hgd fun K hK => ?_
  unfold Oper.wp execOp
  simp only [ho, List.map_toArray, List.map_cons, List.map_nil, hx, hy, Sem.run_bind, hr, Result.andThen_ok, Sem.run_pure]
  exact hK _ _ h
end
theorem own_okK {α : Type} [Cel α] {w : World} {base : Nat} {e : TypeId} {x : Row α} (h : w.ownsRow base e (Cel.size α) (.slice x.A x.n x.c) x.n (x.l.flatMap Cel.cells)) (ha : ∀ a ∈ x.l, Cel.ok w a) (hz : x.n * Cel.bytes α ≤ 140737488351232) : x.ok w := by
  refine ⟨Rd.of_own h, ha, ?_, ?_, hz⟩
  · rcases h.2 with ⟨h0, h1⟩ | ⟨g', cap, cur, hv, hb, hh, hn, hm, hs, hx⟩
    · omega
    · injection hv with _ _ hv; omega
  · rcases h.2 with ⟨h0, h1⟩ | ⟨g', cap, cur, hv, hb, hh, hn, hm, hs, hx⟩
    · injection h0 with _ _ h0; omega
    · injection hv with _ _ hv; omega

theorem fct_onesK (f : Fct) : ∀ u ∈ f.cs.toList, u.oneCell' = true := fun u hu => Array.all_eq_true_iff_forall_mem.1 (fct_one f) u (by simpa using hu)
/-- A row of facts, wherever it lies. -/
abbrev rRun (x : Row Fct) : Res := ⟨fun g => (0 < x.n ∧ x.v.ownBlock = some g) ∨ ∃ f ∈ x.l, 0 < f.ks.n ∧ f.ks.v.ownBlock = some g, fun w => x.ok w⟩
theorem row_keep {α : Type} [Cel α] {w w' : World} {x : Row α} (h : x.ok w) (hs : w.heap.size ≤ w'.heap.size) (ha : ∀ a ∈ x.l, Cel.ok w' a) (hk : ∀ g, 0 < x.n → x.v.ownBlock = some g → w'.heap[g]? = w.heap[g]?) : x.ok w' := by
  refine ⟨⟨h.rd.1, fun hn => ?_⟩, ha, h.le, h.cap, h.reach⟩
  obtain ⟨ad, e, hb, hc⟩ := h.rd.2 hn
  refine ⟨ad, e, by omega, fun j u hu => ?_⟩
  rw [← hc j u hu]
  refine World.cell?_of_block ?_
  rw [block_of_add]
  exact hk _ hn (by show Value.ownBlock (.slice x.A x.n x.c) = _; rw [e]; rfl)
theorem row_lt {α : Type} [Cel α] {w : World} {x : Row α} (h : x.ok w) {g : Nat} (hn : 0 < x.n) (hg : x.v.ownBlock = some g) : g < w.heap.size := by
  obtain ⟨ad, e, hb, _⟩ := h.rd.2 hn
  have hg : Value.ownBlock (.slice x.A x.n x.c) = some g := hg
  rw [e] at hg
  injection hg with hg
  omega
theorem holds_run {x : Row Fct} {w : World} (h : x.ok w) : (rRun x).holds w := by
  refine ⟨?_, fun w' hs hk => row_keep h hs (fun f hf => ⟨row_keep (h.all f hf).ks hs (h.all f hf).ks.all fun g hn hg => hk g (.inr ⟨f, hf, hn, hg⟩), (h.all f hf).ag⟩) fun g hn hg => hk g (.inl ⟨hn, hg⟩)⟩
  rintro g (⟨hn, hg⟩ | ⟨f, hf, hn, hg⟩)
  · exact row_lt h hn hg
  · exact row_lt (h.all f hf).ks hn hg
/-- Facts gathered are a row in new memory. -/
theorem Gath.run {w0 w : World} {v : Value} {fs : List Fct} (h : Gath w0 w v fs) (hn : fs.length ≤ 1000000) : ∃ X : Row Fct, v = X.v ∧ X.l = fs ∧ X.n = fs.length ∧ X.ok w ∧ NewR w0 w (rRun X) := by
  obtain ⟨A, n, c, rfl, hnl⟩ : ∃ A n c, v = .slice A n c ∧ n = fs.length := by
    rcases h.own.2 with ⟨hv, h0⟩ | ⟨g, cap, cur, hv, _⟩
    · exact ⟨_, _, _, hv, h0.symm⟩
    · exact ⟨_, _, _, hv, rfl⟩
  subst hnl
  have hok : Row.ok w (⟨A, fs.length, c, fs⟩ : Row Fct) := own_okK (x := ⟨A, fs.length, c, fs⟩) h.own h.ok (by show fs.length * 104 ≤ _; omega)
  refine ⟨⟨A, fs.length, c, fs⟩, rfl, rfl, rfl, hok, holds_run hok, ?_⟩
  rintro g (⟨hn, hg⟩ | ⟨f, hf, hn, hg⟩)
  · exact own_ge h.own hg
  · obtain ⟨ad, e, _⟩ := (hok.all f hf).ks.rd.2 hn
    have hg : Value.ownBlock (.slice f.ks.A f.ks.n f.ks.c) = some g := hg
    rw [e] at hg
    injection hg with hg
    have := h.new f hf hn ad e
    omega
/-- A row without its first fact. -/
def fctTail (x : Row Fct) : Row Fct := ⟨if x.c = 1 then x.A else x.A.map (·.add 11), x.n - 1, x.c - 1, x.l.drop 1⟩
theorem tail_ok {w : World} {x : Row Fct} (h : x.ok w) (h1 : 1 ≤ x.n) : (fctTail x).ok w := by
  have hl := h.len
  have hle := h.le
  have hcap := h.cap
  have hre := h.reach
  refine ⟨⟨?_, fun hn => ?_⟩, fun f hf => h.all f (List.mem_of_mem_drop hf), by show x.n - 1 ≤ x.c - 1; omega, by show x.c - 1 ≤ _; omega, by show (x.n - 1) * 104 ≤ _; have : x.n * 104 ≤ 140737488351232 := hre; omega⟩
  · rw [cells_len]
    show (x.l.drop 1).length * 11 = (x.n - 1) * 11
    rw [List.length_drop, hl]
  · have hn : 0 < x.n - 1 := hn
    obtain ⟨ad, e, hb, hc⟩ := h.rd.2 (by omega)
    refine ⟨ad.add 11, by show (if x.c = 1 then x.A else x.A.map (·.add 11)) = _; rw [if_neg (by omega), e]; rfl, by rw [block_of_add]; exact hb, fun j u hu => ?_⟩
    have hu' : (x.l.flatMap Cel.cells)[11 + j]? = some u := by
      have hx : x.l = x.l.take 1 ++ x.l.drop 1 := (List.take_append_drop 1 x.l).symm
      have ht : ((x.l.take 1).flatMap Cel.cells).length = 11 := by rw [cells_len, List.length_take, hl]; show min 1 x.n * 11 = 11; rw [Nat.min_eq_left h1]
      rw [hx, List.flatMap_append, List.getElem?_append_right (by rw [ht]; omega), ht, Nat.add_sub_cancel_left]
      exact hu
    have := hc (11 + j) u hu'
    rw [← this]
    congr 1
    unfold Addr.add
    by_cases h0 : j = 0
    · subst h0; simp
    · simp [h0, Nat.add_assoc]
theorem u_fcts : Try.prog.underlying 75 = some (.slice (Try.prog.elem 75)) := by kernel_rfl
theorem slice_tail (x : Row Fct) (h1 : 1 ≤ x.n) (w : World) : (Instr.sliceAt 75 (.slice x.A x.n x.c) (some (.int .i64 1)) none none).run Try.prog w = .ok (.slice (fctTail x).A (fctTail x).n (fctTail x).c) w := by
  have hz : ∀ w, (sizeOf (Try.prog.elem 75)).run Try.prog w = .ok 11 w := fun _ => by kernel_rfl
  rw [run_sliceAt_slice (h := u_fcts), run_slice_l (ht := u_fcts) (h0 := by omega) (h1 := by omega), hz]
  simp [sliced, fctTail]
theorem cons_head {l : List Fct} {f : Fct} (h : l[0]? = some f) : cons l = f.con :: cons (l.drop 1) := by
  cases l with
  | nil => simp at h
  | cons a l => injection h with h; subst h; rfl
/-- A cell of an own row turned. -/
theorem own_setCellG {w : World} {base : Nat} {e : TypeId} {size g n c o : Nat} {xs : List Value} (h : w.ownsRow base e size (.slice (some ⟨g, 0, none⟩) n c) n xs) (ho : o < n * size) (u : Value) : (w.setCell ⟨g, o, none⟩ u).ownsRow base e size (.slice (some ⟨g, 0, none⟩) n c) n (xs.set o u) := by
  refine ⟨by rw [List.length_set]; exact h.1, ?_⟩
  rcases h.2 with ⟨h0, h1⟩ | ⟨g', cap, cur, hv, hb, hh, hn, hm, hs, hx⟩
  · cases h0
  · injection hv with hv1 _ hv2
    injection hv1 with hv1
    injection hv1 with hv1 _ _
    subst hv1 hv2
    refine .inr ⟨g, c, cur.setIfInBounds o u, rfl, hb, Blk.set_ (t := e) (cs := cur) hh o u, hn, hm, by simpa using hs, ?_⟩
    rw [← hx, Array.toList_setIfInBounds, List.take_set]
theorem own_froz {w : World} {base : Nat} {e : TypeId} {size g n c o : Nat} {xs : List Value} (h : w.ownsRow base e size (.slice (some ⟨g, 0, none⟩) n c) n xs) (ho : o < n * size) : w.frozen? ⟨g, o, none⟩ = false := by
  rcases h.2 with ⟨h0, h1⟩ | ⟨g', cap, cur, hv, hb, hh, hn, hm, hs, hx⟩
  · cases h0
  · injection hv with hv1 _ hv2
    injection hv1 with hv1
    injection hv1 with hv1 _ _
    subst hv1 hv2
    have hb2 : Blk w g e cur := hh
    exact hb2.frozen o
theorem heap_root {L : List HdR} {r r' : HdR} {m : Nat} (h0 : L[0]? = some r) (hh : Heap (L.map HdR.con) m) : DownAt ((L.set 0 r').map HdR.con) m 0 ∧ (r'.con.1 = [] → Heap ((L.set 0 r').map HdR.con) m) := by
  have g : ∀ k, 0 < k → ((L.set 0 r').map HdR.con)[k]? = (L.map HdR.con)[k]? := fun k hk => by rw [List.getElem?_map, List.getElem?_map, List.getElem?_set_ne (by omega)]
  refine ⟨⟨fun k a b h0 hk hP ha hb => ?_, fun k a b h => by omega⟩, fun he k a b hk0 hk _ ha hb => ?_⟩
  · rw [g _ h0] at ha
    rw [g _ (by omega)] at hb
    exact hh k a b h0 hk (fun h => h) ha hb
  · by_cases hp : (k - 1) / 2 = 0
    · rw [hp, List.getElem?_map, List.getElem?_set_self (List.getElem?_eq_some_iff.1 h0).1] at hb
      injection hb with hb; subst hb
      show lessH a r'.con = false
      unfold lessH
      rw [he]
      cases a.1 <;> rfl
    · rw [g _ hk0] at ha
      rw [g _ (by omega)] at hb
      exact hh k a b hk0 hk (fun h => h) ha hb
theorem heads_snoc {R : List (List Con)} {k : Nat} {l : List Con} (h : R[k]? = some l) : headsF 0 (R.take (k + 1)) = headsF 0 (R.take k) ++ (if l = [] then [] else [(l, k)]) := by
  have hk := (List.getElem?_eq_some_iff.1 h).1
  rw [List.take_add_one, h, Option.toList_some, headsF_app, List.length_take, Nat.min_eq_left (by omega), Nat.zero_add]
  rfl
theorem own_empty (w : World) (e : TypeId) (size : Nat) : (w.alloc (.cells #[] e)).ownsRow w.heap.size e size (.slice (some ⟨w.heap.size, 0, none⟩) 0 0) 0 [] :=
  ⟨by simp, .inr ⟨w.heap.size, 0, #[], rfl, Nat.le_refl _, Blk.new w e #[], Nat.le_refl _, by unfold maxLen; omega, by simp, by simp⟩⟩
theorem own_madeK (w : World) (t : TypeId) (cs : Array Value) (size : Nat) (hs : cs.size = size) : (w.alloc (.cells cs t)).ownsRow w.heap.size t size (.slice (some ⟨w.heap.size, 0, none⟩) 1 1) 1 cs.toList :=
  ⟨by simp [hs], .inr ⟨w.heap.size, 1, cs, rfl, Nat.le_refl _, heap_alloc_new w _, Nat.le_refl _, by unfold maxLen; omega, by omega, by rw [List.take_of_length_le (by simp [hs])]⟩⟩
theorem wpList_sliceK {P : Program} {ops : Array Oper} {rest : List Oper} {o : Oper} {a : Act} {w : World} {Q : Exit → Act → World → Prop} (hgd : o.guard = none) {t : TypeId} (x : Operand) (lo hi : Option Operand) (ho : o.op = .slice t x lo hi none) {v : Value}
    (hr : ∀ w, (Instr.sliceAt t (a.eval x) (lo.map a.eval) (hi.map a.eval) none).run P w = .ok v w) (h : wpList P ops Q rest (a.put o.dst v) w) : wpList P ops Q (o :: rest) a w := by
  refine wpList_plain hgd fun K hK => ?_
  unfold Oper.wp execOp
  simp only [ho, Option.map_none, Sem.run_bind, hr, Result.andThen_ok, Sem.run_pure]
  exact hK _ _ h
theorem set_head {L : List HdR} {A A' : Option Addr} {n c n' c' no : Nat} {l l' : List Fct} (h : L[0]? = some ⟨⟨A, n, c, l⟩, no⟩) : (L.flatMap Cel.cells).set 0 (.slice A' n' c') = (L.set 0 ⟨⟨A', n', c', l'⟩, no⟩).flatMap Cel.cells := by
  cases L with
  | nil => simp at h
  | cons a L => injection h with h; subst h; rfl
/-- How kmerge.Merge ends. -/
def RunPost (l : List Con) (w : World) (e : Ending) (w' : World) : Prop := ∃ v fs, e = .returned v ∧ Gath w w' v fs ∧ cons fs = l
theorem own_baseK {w : World} {base base' : Nat} {e : TypeId} {size n : Nat} {v : Value} {xs : List Value} (h : w.ownsRow base e size v n xs) (hb : base' ≤ base) : w.ownsRow base' e size v n xs := by
  refine ⟨h.1, ?_⟩
  rcases h.2 with h0 | ⟨g, cap, cur, hv, hg, hr⟩
  · exact .inl h0
  · exact .inr ⟨g, cap, cur, hv, Nat.le_trans hb hg, hr⟩
theorem Gath.from_ {w w1 w2 : World} {v : Value} {fs : List Fct} (hb : Bel w w1) (h : Gath w1 w2 v fs) : Gath w w2 v fs := ⟨hb.trans h.bel, own_baseK h.own hb.size, h.ok, h.away, fun f hf hn ad e => Nat.le_trans hb.size (h.new f hf hn ad e)⟩
abbrev runsC (x : List (Row Fct)) : List (List Con) := x.map fun r => cons r.l
theorem flat_len_le {R : List (List Con)} {k : Nat} {l : List Con} (h : R[k]? = some l) : l.length ≤ R.flatten.length := by
  have := List.mem_of_getElem? h
  obtain ⟨a, b, rfl⟩ := List.append_of_mem this
  rw [List.flatten_append, List.flatten_cons, List.length_append, List.length_append]
  omega

end Go.Proofs.Ytnekknemjhlgdaa
