/- The law TakeReads: what the program's reader tells, call by call. -/
import Derived.Test.YtllgcehgdpgnnaaTakeI
import Derived.Test.YtllgcehgdpgnnaaStep
namespace Go.Proofs.Ytllgcehgdpgnnaa
open Go.RowKit
set_option linter.unusedVariables false
set_option linter.unusedSimpArgs false

abbrev hcs (h : Int × List UInt8) : List Value := [.int .i64 h.1, .string ⟨h.2.toArray⟩]
/-- What is told up to the first error, and how it ends. -/
def preads : List Stp → List UInt8 → List (Int × List UInt8) × PR Unit
  | [], l => ([], .ok ((), l))
  | a :: rs, l =>
    match pask a l with
    | .error k => ([], .error k)
    | .ok (h, r) => (h :: (preads rs r).1, (preads rs r).2)
theorem preads_ok {sts : List Stp} {k : Nat} {a : Stp} {l r : List UInt8} {h : Int × List UInt8} (ha : sts[k]? = some a) (hp : pask a l = .ok (h, r)) : preads (sts.drop k) l = (h :: (preads (sts.drop (k + 1)) r).1, (preads (sts.drop (k + 1)) r).2) := by
  obtain ⟨hk, rfl⟩ := List.getElem?_eq_some_iff.1 ha
  rw [List.drop_eq_getElem_cons hk, preads, hp]
theorem preads_err {sts : List Stp} {k : Nat} {a : Stp} {l : List UInt8} {e : Int} (ha : sts[k]? = some a) (hp : pask a l = .error e) : preads (sts.drop k) l = ([], .error e) := by
  obtain ⟨hk, rfl⟩ := List.getElem?_eq_some_iff.1 ha
  rw [List.drop_eq_getElem_cons hk, preads, hp]
theorem E_hrd : ElemInfo Try.prog 45 51 2 24 := ElemInfo.mk' (z := .agg #[.int .i64 0, .string ⟨#[]⟩]) Try.underlying45 (by kernel_rfl) rfl (by omega)

/-- A struct's load yields it in every world that keeps its block. -/
theorem yields_blk {P : Program} {ops : Array Oper} {S : World → Prop} {op : Oper} {a : Act} {ty : TypeId} {n : Nat} (R : RowTy P ty n) (hw : Region.wanted op (yielded ops a.tmps) = true) (x : Operand) (ho : op.op = .load ty x)
    (g : Nat) (hx : a.eval x = .pointer (some ⟨g, 0, none⟩)) {t : TypeId} {cs : Array Value} (hS : ∀ w, S w → Blk w g t cs) (hn : cs.size = n) : YieldsIf P ops S op (.agg cs) a := by
  obtain ⟨d, hu, hd⟩ := R.hu
  have := yieldsIf_load_mid (P := P) (ops := ops) (S := S) (op := op) (a := a) hw ty x ho g 0 hx cs.toList d (fun w h => (hS w h).range) hu hd (by rw [R.hi]; simp [hn])
  simpa using this

/-- The reading under way, and what was told so far in a block of the law's. -/
structure HdW (w0 : World) (B g : Nat) (s l : List UInt8) (v : Value) (ds : List (Int × List UInt8)) (wr : World) : Prop where
  I : InAll w0 B s l wr
  b : Blk wr g 45 #[v]
  own : wr.ownsRow (B + 3) 51 2 v ds.length (ds.flatMap hcs)
section
variable {w0 w1 w2 : World} {B g : Nat} {s l l' : List UInt8} {v v' : Value} {ds : List (Int × List UInt8)}
theorem HdW.more (h : HdW w0 B g s l v ds w1) (hb : Bel w1 w2) : HdW w0 B g s l v ds w2 := ⟨h.I.more hb, h.b.bel hb, own_bel h.own hb⟩
theorem HdW.read (h : HdW w0 B g s l v ds w1) (hgB : g < B) (hg : w1.grownBy w2 (some (B + 1))) (hr : Rdr w2 (B + 1) s l') : HdW w0 B g s l' v ds w2 :=
  ⟨h.I.read hg hr, h.b.grown hg (by intro e; injection e with e; omega), h.own.kept hg (own_apart h.own (by omega))⟩
theorem HdW.app {x : Int × List UInt8} (h : HdW w0 B g s l v ds w1) (ho : w2.ownsRow (B + 3) 51 2 v' (ds.length + 1) (ds.flatMap hcs ++ hcs x)) (hg : w1.grownBy w2 v.ownBlock) (hgB : g < B) : Blk w2 g 45 #[v] ∧ w2.ownsRow (B + 3) 51 2 v' (ds ++ [x]).length ((ds ++ [x]).flatMap hcs) ∧ InAll w0 B s l w2 := by
  refine ⟨h.b.grown hg (fun e => by have := own_ge h.own e.symm; omega), by simpa using ho, h.I.bel.grown hg (fun k e => by have := own_ge h.own e; have := h.I.hB; omega), h.I.hB, ?_, ?_, ?_⟩
  · exact h.I.e.grown hg (fun e => by have := own_ge h.own e.symm; omega)
  · exact h.I.p.grown hg (fun e => by have := own_ge h.own e.symm; omega)
  · exact h.I.r.grown hg (fun e => by have := own_ge h.own e.symm; omega)
theorem HdW.stored (hI : InAll w0 B s l w1) (hb : Blk w1 g 45 #[v]) (ho : w1.ownsRow (B + 3) 51 2 v' ds.length (ds.flatMap hcs)) (hg0 : w0.heap.size ≤ g) (hgB : g < B) : HdW w0 B g s l v' ds (w1.setCell ⟨g, 0, none⟩ v') :=
  ⟨hI.kept (grownBy_setCell w1 g 0 v') hg0 (by omega) (by omega) (by omega), by simpa using hb.set_ 0 v', own_set ho (fun b hb => by have := own_ge ho hb; show b ≠ g; omega) _⟩
end
/-- What the whole reading leaves. -/
def RH (w0 : World) (B g : Nat) (o : List (Int × List UInt8) × PR Unit) (k : Int) (w' : World) : Prop :=
  Bel w0 w' ∧ k = endErr o.2 ∧ ∃ v, Blk w' g 45 #[v] ∧ w'.ownsRow (B + 3) 51 2 v o.1.length (o.1.flatMap hcs)

set_option maxRecDepth 100000 in
set_option maxHeartbeats 1000000 in
theorem reads1_any (w0 : World) (B g gm : Nat) (s : List UInt8) (A : Option Addr) (n c : Nat) (sts : List Stp) (w : World) (hI : InAll w0 B s s w) (hg0 : w0.heap.size ≤ g) (hgB : g < B)
    (hm : w0.cell? ⟨gm, 0, none⟩ = some (.slice A n c)) (hr : Rd w0 3 A n (sts.flatMap Cel.cells)) (hok : ∀ a ∈ sts, a.ok) (hn : n ≤ 100) (hb : Blk w g 45 #[.slice none 0 0]) :
    Calls Try.prog 28 #[.pointer (some ⟨B + 1, 0, none⟩), .pointer (some ⟨gm, 0, none⟩), .pointer (some ⟨g, 0, none⟩)] w (AllPost B s (RH w0 B g (preads sts s))) := by
  have hm1 := (hI.bel.cell (World.block_lt_of_cell? _ _ hm)).trans hm
  have hlen : Hid (sts.length = n) := rd_len hr
  have Hr := Lib.hid hr
  have Hok := Lib.hid hok
  have H0 : Hid (HdW w0 B g s s (.slice none 0 0) [] w) := ⟨hI, hb, ⟨rfl, .inl ⟨rfl, rfl⟩⟩⟩
  have HE0 : Hid (preads sts s = ([] ++ (preads (sts.drop 0) s).1, (preads (sts.drop 0) s).2)) := by show _ = _; simp
  clear hI hb hm hr hok
  go_enter Try.func28, Try.ntmps28
  go_wp2
  go_loopg [8] n (fun gg i wr => ∃ (k : Nat) (v : Value) (ds : List (Int × List UInt8)) (lr : List UInt8), gg = n - k ∧ k ≤ n ∧ i = .int .i64 k ∧ Hid (ds.length = k) ∧ Hid (HdW w0 B g s lr v ds wr) ∧ Hid (preads sts s = (ds ++ (preads (sts.drop k) lr).1, (preads (sts.drop k) lr).2)))
  case atStart => exact ⟨0, _, [], s, rfl, by omega, rfl, rfl, H0, HE0⟩
  case round =>
    clear H0 HE0 hm1
    obtain ⟨k, v, ds, lr, hgk, hk, rfl, hdk, H, hE⟩ := hrel
    have Hgk := Lib.hid hgk
    clear hgk
    by_cases hlt : k < n
    · obtain ⟨ab, ao, a, rfl, _, hak, hrg⟩ := rd_range (Hr.out.bel H.out.I.bel) hlt
      have ha := Hok.out a (List.mem_of_getElem? hak)
      have hvb : ∀ b, v.ownBlock = some b → b < wr.heap.size := fun b hb => own_lt H.out.own hb
      have hB2 : B + 2 < wr.heap.size := H.out.I.p.lt
      have HA := Lib.hid (fun w (h : Rdr w (B + 1) s lr) => ask_any (B + 1) s lr a w h ha)
      have HRG := Lib.hid hrg
      clear hrg
      cases hp : pask a lr with
      | error e =>
        have HN : Hid (preads sts s = (ds, .error e)) := by show _ = _; rw [hE.out, preads_err hak hp]; simp
        rw [hp] at HA
        clear hp hak hE ha
        go_wp2_with (first | ((with_reducible show wpList _ _ _ (⟨some 11, _, _, _, _, _⟩ :: _) _ _); refine wpList_load_row_at rfl rowStp (.tmp 10) rfl ab (ao + k * 3) rfl a.cs rfl HRG.out ?_) | ((with_reducible show wpList _ _ _ (⟨_, .store _ (.tmp 5) _, _, _, _, _⟩ :: _) _ _); refine wpList_store_new rfl rowStp (.tmp 5) (.tmp 11) rfl rfl rfl a.cs rfl rfl (by simp [Value.oneCell']) ?_))
        refine wp_region_held_drew (S := fun w => Blk w wr.heap.size 49 a.cs) (by kernel_rfl) (Blk.new wr _ _).drew (fun hHeld => ?_)
        have H1 := Lib.hid (H.out.more ((Bel.refl wr).alloc (.cells a.cs 49)).drew)
        generalize (wr.alloc (.cells a.cs 49)).drew = w2 at *
        refine wpAnyH_take (i := 1) (v := ?v1) (get_os (get_o0)) (by kernel_rfl) (by kernel_rfl) (by kernel_rfl) (by exact fun _ _ _ h => h) (Or.inl ⟨by rfl, ?hy1⟩) (by assumption) ?_
        case hy1 => (intro w hSw; (try dsimp only at hSw); go_simp) <;> with_reducible rfl
        try simp only [Act.put, List.setIfInBounds_toArray, List.set_cons_zero, List.set_cons_succ]
        refine wpAnyH_take (i := 2) (v := .agg a.cs) (get_os (get_os (get_o0))) (by kernel_rfl) (by kernel_rfl) (by kernel_rfl) (by exact fun _ _ _ h => h) (yields_blk rowStp (by rfl) (.tmp 5) rfl wr.heap.size rfl (fun _ h => h) rfl) (by assumption) ?_
        try simp only [Act.put, List.setIfInBounds_toArray, List.set_cons_zero, List.set_cons_succ]
        refine wpAnyH_ready (rs := [0, 3]) (by kernel_rfl) (by simp) ?_
        refine AllReadyH.cons (get_o0) (fun KK hKK => ?_) (AllReadyH.cons (get_os (get_os (get_os (get_o0)))) (fun KK hKK => ?_) AllReadyH.nil)
        · have c0 := H1.out.b.cell 0
          simp only [List.getElem?_toArray, List.getElem?_cons_zero] at c0
          go_simp
          clear c0
          refine hKK.out _ _ ?_ (fun hHeld => ?_)
          · exact hHeld
          clear hKK KK
          try simp only [Act.put, List.setIfInBounds_toArray, List.set_cons_zero, List.set_cons_succ]
          refine wpAnyH_ready (rs := [3]) (by kernel_rfl) (by simp) ?_
          refine AllReadyH.cons (get_os (get_os (get_os (get_o0)))) (fun KK hKK => ?_) AllReadyH.nil
          go_simp
          refine (HA.out _ H1.out.I.r).mono ?_; rintro e' w3 ⟨rfl, hg3, hr3⟩
          refine ⟨rfl, ?_⟩
          have I3 := H1.out.I.read hg3 hr3.choose_spec
          refine I3.err ⟨I3.bel, by rw [HN.out]; rfl, v, H1.out.b.grown hg3 (by intro e; injection e with e; omega), ?_⟩
          rw [HN.out]
          exact (H1.out.own.kept hg3 (own_apart H1.out.own (by omega)))
        · go_simp
          refine (HA.out _ H1.out.I.r).mono ?_; rintro e' w3 ⟨rfl, hg3, hr3⟩
          refine ⟨rfl, ?_⟩
          have I3 := H1.out.I.read hg3 hr3.choose_spec
          refine I3.err ⟨I3.bel, by rw [HN.out]; rfl, v, H1.out.b.grown hg3 (by intro e; injection e with e; omega), ?_⟩
          rw [HN.out]
          exact (H1.out.own.kept hg3 (own_apart H1.out.own (by omega)))
      | ok q =>
        obtain ⟨x, r⟩ := q
        have HN : Hid (preads sts s = ((ds ++ [x]) ++ (preads (sts.drop (k + 1)) r).1, (preads (sts.drop (k + 1)) r).2)) := by show _ = _; rw [hE.out, preads_ok hak hp]; simp
        rw [hp] at HA
        clear hp hak hE ha
        go_wp2_with (first | ((with_reducible show wpList _ _ _ (⟨some 11, _, _, _, _, _⟩ :: _) _ _); refine wpList_load_row_at rfl rowStp (.tmp 10) rfl ab (ao + k * 3) rfl a.cs rfl HRG.out ?_) | ((with_reducible show wpList _ _ _ (⟨_, .store _ (.tmp 5) _, _, _, _, _⟩ :: _) _ _); refine wpList_store_new rfl rowStp (.tmp 5) (.tmp 11) rfl rfl rfl a.cs rfl rfl (by simp [Value.oneCell']) ?_))
        refine wp_region_held_drew (S := fun w => Blk w wr.heap.size 49 a.cs) (by kernel_rfl) (Blk.new wr _ _).drew (fun hHeld => ?_)
        have H1 := Lib.hid (H.out.more ((Bel.refl wr).alloc (.cells a.cs 49)).drew)
        generalize (wr.alloc (.cells a.cs 49)).drew = w2 at *
        refine wpAnyH_take (i := 1) (v := ?v1) (get_os (get_o0)) (by kernel_rfl) (by kernel_rfl) (by kernel_rfl) (by exact fun _ _ _ h => h) (Or.inl ⟨by rfl, ?hy1⟩) (by assumption) ?_
        case hy1 => (intro w hSw; (try dsimp only at hSw); go_simp) <;> with_reducible rfl
        try simp only [Act.put, List.setIfInBounds_toArray, List.set_cons_zero, List.set_cons_succ]
        refine wpAnyH_take (i := 2) (v := .agg a.cs) (get_os (get_os (get_o0))) (by kernel_rfl) (by kernel_rfl) (by kernel_rfl) (by exact fun _ _ _ h => h) (yields_blk rowStp (by rfl) (.tmp 5) rfl wr.heap.size rfl (fun _ h => h) rfl) (by assumption) ?_
        try simp only [Act.put, List.setIfInBounds_toArray, List.set_cons_zero, List.set_cons_succ]
        refine wpAnyH_ready (rs := [0, 3]) (by kernel_rfl) (by simp) ?_
        refine AllReadyH.cons (get_o0) (fun KK hKK => ?_) (AllReadyH.cons (get_os (get_os (get_os (get_o0)))) (fun KK hKK => ?_) AllReadyH.nil)
        · have c0 := H1.out.b.cell 0
          simp only [List.getElem?_toArray, List.getElem?_cons_zero] at c0
          go_simp
          clear c0
          refine hKK.out _ _ ?_ (fun hHeld => ?_)
          · exact hHeld
          clear hKK KK
          try simp only [Act.put, List.setIfInBounds_toArray, List.set_cons_zero, List.set_cons_succ]
          refine wpAnyH_ready (rs := [3]) (by kernel_rfl) (by simp) ?_
          refine AllReadyH.cons (get_os (get_os (get_os (get_o0)))) (fun KK hKK => ?_) AllReadyH.nil
          go_simp
          refine (HA.out _ H1.out.I.r).mono ?_; rintro e' w3 ⟨rfl, hg3, hr3⟩
          have H3 := Lib.hid (H1.out.read hgB hg3 hr3)
          have hs3 : wr.heap.size + 1 ≤ w3.heap.size := by have := hg3.size; have := hHeld.lt; omega
          refine hKK.out _ _ ?_ (fun hHeld => ?_)
          · exact hHeld.grown hg3 (by intro e; injection e with e; omega)
          clear hKK KK
          try simp only [Act.put, List.setIfInBounds_toArray, List.set_cons_zero, List.set_cons_succ]
          clear hg3 hr3
          refine wpAnyH_ready (rs := [4]) (by kernel_rfl) (by simp) ?_
          refine AllReadyH.cons (get_os (get_os (get_os (get_os (get_o0))))) (fun KK hKK => ?_) AllReadyH.nil
          have H4 := Lib.hid (H3.out.more ((Bel.refl _).alloc (.cells #[.int .i64 x.1, .string ⟨x.2.toArray⟩] 51)))
          have R4 := Lib.hid (rd_new w3 51 #[.int .i64 x.1, .string ⟨x.2.toArray⟩] 1 2 rfl)
          refine step_buildSlice1 rfl E_hrd (.tmp 15) rfl #[.int .i64 x.1, .string ⟨x.2.toArray⟩] rfl rfl (by omega) ?_
          refine hKK.out _ _ ?_ (fun hHeld => ?_)
          · exact hHeld.alloc _
          clear hKK KK
          try simp only [Act.put, List.setIfInBounds_toArray, List.set_cons_zero, List.set_cons_succ]
          refine wpAnyH_ready (rs := [5]) (by kernel_rfl) (by simp) ?_
          refine AllReadyH.cons (get_os (get_os (get_os (get_os (get_os (get_o0)))))) (fun KK hKK => ?_) AllReadyH.nil
          refine step_append0 rfl (.tmp 12) (.tmp 16) _ rfl E_hrd (B + 3) (by simp; omega) v ds.length (ds.flatMap hcs) rfl H4.out.own _ 1 1 [.int .i64 x.1, .string ⟨x.2.toArray⟩] rfl R4.out (by simp [Value.oneCell']) (by have := hdk.out; unfold maxLen; omega) (by have := hdk.out; omega) ?_
          intro v5 w5 hown5 hg5 hat5
          obtain ⟨b5, o5, I5⟩ := H4.out.app hown5 hg5 hgB
          have c5 := b5.cell 0
          have f5 := b5.frozen 0
          simp only [List.getElem?_toArray, List.getElem?_cons_zero] at c5
          obtain ⟨A5, q5, rfl, _⟩ := own_slice o5
          have B5 := Lib.hid b5
          have O5 := Lib.hid o5
          have IN5 := Lib.hid I5
          clear b5 o5 I5 hown5 hat5
          refine hKK.out _ _ ?_ (fun hHeld => ?_)
          · exact hHeld.grown hg5 (fun e => by have := hvb _ e.symm; omega)
          clear hKK KK
          try simp only [Act.put, List.setIfInBounds_toArray, List.set_cons_zero, List.set_cons_succ]
          clear hg5
          refine wpAnyH_ready (rs := [6]) (by kernel_rfl) (by simp) ?_
          refine AllReadyH.cons (get_os (get_os (get_os (get_os (get_os (get_os (get_o0))))))) (fun KK hKK => ?_) AllReadyH.nil
          go_simp
          clear c5 f5
          have H6 := Lib.hid (HdW.stored IN5.out B5.out O5.out hg0 hgB)
          rw [List.length_append, List.length_singleton] at H6
          refine hKK.out _ _ ?_ (fun hHeld => ?_)
          · exact hHeld.far (by simp; omega) _
          clear hKK KK
          try simp only [Act.put, List.setIfInBounds_toArray, List.set_cons_zero, List.set_cons_succ]
          refine wpAnyH_done (by kernel_rfl) ?_ _
          clear hHeld
          go_wp2_with fail
          go_roundg (n - (k + 1))
          case rel => exact ⟨k + 1, _, ds ++ [x], r, rfl, by omega, by go_num, by show _ = _; have := hdk.out; simp [this], H6, HN⟩
          case measure => rw [Hgk.out]; omega
        · go_simp
          refine (HA.out _ H1.out.I.r).mono ?_; rintro e' w3 ⟨rfl, hg3, hr3⟩
          have H3 := Lib.hid (H1.out.read hgB hg3 hr3)
          have hs3 : wr.heap.size + 1 ≤ w3.heap.size := by have := hg3.size; have := hHeld.lt; omega
          refine hKK.out _ _ ?_ (fun hHeld => ?_)
          · exact hHeld.grown hg3 (by intro e; injection e with e; omega)
          clear hKK KK
          try simp only [Act.put, List.setIfInBounds_toArray, List.set_cons_zero, List.set_cons_succ]
          clear hg3 hr3
          refine wpAnyH_ready (rs := [0, 4]) (by kernel_rfl) (by simp) ?_
          refine AllReadyH.cons (get_o0) (fun KK hKK => ?_) (AllReadyH.cons (get_os (get_os (get_os (get_os (get_o0))))) (fun KK hKK => ?_) AllReadyH.nil)
          · have c0 := H3.out.b.cell 0
            simp only [List.getElem?_toArray, List.getElem?_cons_zero] at c0
            go_simp
            clear c0
            refine hKK.out _ _ ?_ (fun hHeld => ?_)
            · exact hHeld
            clear hKK KK
            try simp only [Act.put, List.setIfInBounds_toArray, List.set_cons_zero, List.set_cons_succ]
            refine wpAnyH_ready (rs := [4]) (by kernel_rfl) (by simp) ?_
            refine AllReadyH.cons (get_os (get_os (get_os (get_os (get_o0))))) (fun KK hKK => ?_) AllReadyH.nil
            have H4 := Lib.hid (H3.out.more ((Bel.refl _).alloc (.cells #[.int .i64 x.1, .string ⟨x.2.toArray⟩] 51)))
            have R4 := Lib.hid (rd_new w3 51 #[.int .i64 x.1, .string ⟨x.2.toArray⟩] 1 2 rfl)
            refine step_buildSlice1 rfl E_hrd (.tmp 15) rfl #[.int .i64 x.1, .string ⟨x.2.toArray⟩] rfl rfl (by omega) ?_
            refine hKK.out _ _ ?_ (fun hHeld => ?_)
            · exact hHeld.alloc _
            clear hKK KK
            try simp only [Act.put, List.setIfInBounds_toArray, List.set_cons_zero, List.set_cons_succ]
            refine wpAnyH_ready (rs := [5]) (by kernel_rfl) (by simp) ?_
            refine AllReadyH.cons (get_os (get_os (get_os (get_os (get_os (get_o0)))))) (fun KK hKK => ?_) AllReadyH.nil
            refine step_append0 rfl (.tmp 12) (.tmp 16) _ rfl E_hrd (B + 3) (by simp; omega) v ds.length (ds.flatMap hcs) rfl H4.out.own _ 1 1 [.int .i64 x.1, .string ⟨x.2.toArray⟩] rfl R4.out (by simp [Value.oneCell']) (by have := hdk.out; unfold maxLen; omega) (by have := hdk.out; omega) ?_
            intro v5 w5 hown5 hg5 hat5
            obtain ⟨b5, o5, I5⟩ := H4.out.app hown5 hg5 hgB
            have c5 := b5.cell 0
            have f5 := b5.frozen 0
            simp only [List.getElem?_toArray, List.getElem?_cons_zero] at c5
            obtain ⟨A5, q5, rfl, _⟩ := own_slice o5
            have B5 := Lib.hid b5
            have O5 := Lib.hid o5
            have IN5 := Lib.hid I5
            clear b5 o5 I5 hown5 hat5
            refine hKK.out _ _ ?_ (fun hHeld => ?_)
            · exact hHeld.grown hg5 (fun e => by have := hvb _ e.symm; omega)
            clear hKK KK
            try simp only [Act.put, List.setIfInBounds_toArray, List.set_cons_zero, List.set_cons_succ]
            clear hg5
            refine wpAnyH_ready (rs := [6]) (by kernel_rfl) (by simp) ?_
            refine AllReadyH.cons (get_os (get_os (get_os (get_os (get_os (get_os (get_o0))))))) (fun KK hKK => ?_) AllReadyH.nil
            go_simp
            clear c5 f5
            have H6 := Lib.hid (HdW.stored IN5.out B5.out O5.out hg0 hgB)
            rw [List.length_append, List.length_singleton] at H6
            refine hKK.out _ _ ?_ (fun hHeld => ?_)
            · exact hHeld.far (by simp; omega) _
            clear hKK KK
            try simp only [Act.put, List.setIfInBounds_toArray, List.set_cons_zero, List.set_cons_succ]
            refine wpAnyH_done (by kernel_rfl) ?_ _
            clear hHeld
            go_wp2_with fail
            go_roundg (n - (k + 1))
            case rel => exact ⟨k + 1, _, ds ++ [x], r, rfl, by omega, by go_num, by show _ = _; have := hdk.out; simp [this], H6, HN⟩
            case measure => rw [Hgk.out]; omega
          · have H4 := Lib.hid (H3.out.more ((Bel.refl _).alloc (.cells #[.int .i64 x.1, .string ⟨x.2.toArray⟩] 51)))
            have R4 := Lib.hid (rd_new w3 51 #[.int .i64 x.1, .string ⟨x.2.toArray⟩] 1 2 rfl)
            refine step_buildSlice1 rfl E_hrd (.tmp 15) rfl #[.int .i64 x.1, .string ⟨x.2.toArray⟩] rfl rfl (by omega) ?_
            refine hKK.out _ _ ?_ (fun hHeld => ?_)
            · exact hHeld.alloc _
            clear hKK KK
            try simp only [Act.put, List.setIfInBounds_toArray, List.set_cons_zero, List.set_cons_succ]
            refine wpAnyH_ready (rs := [0]) (by kernel_rfl) (by simp) ?_
            refine AllReadyH.cons (get_o0) (fun KK hKK => ?_) AllReadyH.nil
            have c0 := H4.out.b.cell 0
            simp only [List.getElem?_toArray, List.getElem?_cons_zero] at c0
            go_simp
            clear c0
            refine hKK.out _ _ ?_ (fun hHeld => ?_)
            · exact hHeld
            clear hKK KK
            try simp only [Act.put, List.setIfInBounds_toArray, List.set_cons_zero, List.set_cons_succ]
            refine wpAnyH_ready (rs := [5]) (by kernel_rfl) (by simp) ?_
            refine AllReadyH.cons (get_os (get_os (get_os (get_os (get_os (get_o0)))))) (fun KK hKK => ?_) AllReadyH.nil
            refine step_append0 rfl (.tmp 12) (.tmp 16) _ rfl E_hrd (B + 3) (by simp; omega) v ds.length (ds.flatMap hcs) rfl H4.out.own _ 1 1 [.int .i64 x.1, .string ⟨x.2.toArray⟩] rfl R4.out (by simp [Value.oneCell']) (by have := hdk.out; unfold maxLen; omega) (by have := hdk.out; omega) ?_
            intro v5 w5 hown5 hg5 hat5
            obtain ⟨b5, o5, I5⟩ := H4.out.app hown5 hg5 hgB
            have c5 := b5.cell 0
            have f5 := b5.frozen 0
            simp only [List.getElem?_toArray, List.getElem?_cons_zero] at c5
            obtain ⟨A5, q5, rfl, _⟩ := own_slice o5
            have B5 := Lib.hid b5
            have O5 := Lib.hid o5
            have IN5 := Lib.hid I5
            clear b5 o5 I5 hown5 hat5
            refine hKK.out _ _ ?_ (fun hHeld => ?_)
            · exact hHeld.grown hg5 (fun e => by have := hvb _ e.symm; omega)
            clear hKK KK
            try simp only [Act.put, List.setIfInBounds_toArray, List.set_cons_zero, List.set_cons_succ]
            clear hg5
            refine wpAnyH_ready (rs := [6]) (by kernel_rfl) (by simp) ?_
            refine AllReadyH.cons (get_os (get_os (get_os (get_os (get_os (get_os (get_o0))))))) (fun KK hKK => ?_) AllReadyH.nil
            go_simp
            clear c5 f5
            have H6 := Lib.hid (HdW.stored IN5.out B5.out O5.out hg0 hgB)
            rw [List.length_append, List.length_singleton] at H6
            refine hKK.out _ _ ?_ (fun hHeld => ?_)
            · exact hHeld.far (by simp; omega) _
            clear hKK KK
            try simp only [Act.put, List.setIfInBounds_toArray, List.set_cons_zero, List.set_cons_succ]
            refine wpAnyH_done (by kernel_rfl) ?_ _
            clear hHeld
            go_wp2_with fail
            go_roundg (n - (k + 1))
            case rel => exact ⟨k + 1, _, ds ++ [x], r, rfl, by omega, by go_num, by show _ = _; have := hdk.out; simp [this], H6, HN⟩
            case measure => rw [Hgk.out]; omega
    · have HN : Hid (preads sts s = (ds, .ok ((), lr))) := by
        show _ = _
        rw [hE.out, List.drop_of_length_le (by have := hlen.out; omega)]
        simp [preads]
      clear hE
      go_wp2_with fail
      go_end0
      refine H.out.I.ok ⟨H.out.I.bel, by rw [HN.out]; rfl, v, H.out.b, by rw [HN.out]; exact H.out.own⟩

end Go.Proofs.Ytllgcehgdpgnnaa
