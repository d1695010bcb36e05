/- A step of the lookup. -/
import Derived.Test.YtjiphfobengdlaaLokB
import Derived.Test.YtjiphfobengdlaaAreO
namespace Go.Proofs.Ytjiphfobengdlaa
open Go.RowKit
set_option linter.unusedVariables false
set_option linter.unusedSimpArgs false


def nodeAt (l : List NC) (i : Int) : Option NC := if i < 0 then none else l[i.toNat]?
/-- One step: the cell, and why there is none. -/
def pstep (l : List NC) (i : Nat) (at_ t k : Int) : Cl × Int :=
  match nodeAt l at_ with
  | none => (.nil, 9)
  | some n => if n.dim ≠ i ∨ (n.ls.length : Int) ≤ t then ((.nil, 15) : Cl × Int) else match pfind n t k with | none => (.nil, 10) | some c => (c, 0)
/-- Where members lead. -/
def palong (l : List NC) : List Ps → Nat → Int → Cl → Ag × Nat × Int
  | [], i, _, c => (c.ag, i, 0)
  | p :: ps, i, at_, _ => if (pstep l i at_ p.t p.k).2 ≠ 0 then (.zero, i + 1, (pstep l i at_ p.t p.k).2) else palong l ps (i + 1) (pstep l i at_ p.t p.k).1.ch (pstep l i at_ p.t p.k).1
theorem pstep_none {l : List NC} {i : Nat} {at_ t k : Int} (h : nodeAt l at_ = none) : pstep l i at_ t k = (.nil, 9) := by unfold pstep; rw [h]
theorem pstep_some {l : List NC} {i : Nat} {at_ t k : Int} {n : NC} (h : nodeAt l at_ = some n) : pstep l i at_ t k = if n.dim ≠ i ∨ (n.ls.length : Int) ≤ t then ((.nil, 15) : Cl × Int) else match pfind n t k with | none => (.nil, 10) | some c => (c, 0) := by unfold pstep; rw [h]
theorem palong_step {l : List NC} {ps : List Ps} {p : Ps} {i : Nat} {at_ : Int} {c : Cl} : palong l (p :: ps) i at_ c = if (pstep l i at_ p.t p.k).2 ≠ 0 then (.zero, i + 1, (pstep l i at_ p.t p.k).2) else palong l ps (i + 1) (pstep l i at_ p.t p.k).1.ch (pstep l i at_ p.t p.k).1 := rfl
theorem rise_adj {l : List Cl} (h : ∀ (i : Nat) a b, l[i]? = some a → l[i + 1]? = some b → a.key < b.key) : RiseL l := by
  intro i j a b hij
  induction j generalizing b with
  | zero => omega
  | succ j ih =>
    intro ha hb
    rcases (show i < j ∨ i = j by omega) with h1 | h1
    · have hjl := (List.getElem?_eq_some_iff.1 hb).1
      have hj : l[j]? = some (l[j]'(by omega)) := List.getElem?_eq_getElem (by omega)
      have h2 := ih _ h1 ha hj
      have h3 := h j _ b hj hb
      omega
    · subst h1; exact h i a b ha hb
theorem drop_consL {α : Type} {l : List α} {i : Nat} {x : α} (h : l[i]? = some x) : l.drop i = x :: l.drop (i + 1) := by
  have hl := (List.getElem?_eq_some_iff.1 h).1
  rw [List.drop_eq_getElem_cons hl, (List.getElem?_eq_some_iff.1 h).2]
theorem Row.rd.psAt {w : World} {x : Row Ps} (h : x.rd w) {k : Nat} (hk : k < x.n) : ∃ b o t, x.A = some ⟨b, o, none⟩ ∧ b < w.heap.size ∧ x.l[k]? = some t ∧ t.ok ∧ w.rangeAt b (o + k * 2) t.cs.toList := by
  obtain ⟨b, o, t, e, hb, ht, hc⟩ := rd_range h.r hk
  exact ⟨b, o, t, e, hb, ht, h.all t (List.mem_of_getElem? ht), hc⟩
/-- A struct's load yields it in every world that keeps its cells. -/
theorem yields_rngL {P : Program} {ops : Array Oper} {S : World → Prop} {op : Oper} {a : Act} {ty : TypeId} {n : Nat} (R : RowTy P ty n) (hw : Region.wanted op (yielded ops a.tmps) = true) (x : Operand) (ho : op.op = .load ty x)
    (g off : Nat) (hx : a.eval x = .pointer (some ⟨g, off, none⟩)) {cs : Array Value} (hS : ∀ w, S w → w.rangeAt g off cs.toList) (hn : cs.size = n) : YieldsIf P ops S op (.agg cs) a := by
  obtain ⟨d, hu, hd⟩ := R.hu
  have := yieldsIf_load_mid (P := P) (ops := ops) (S := S) (op := op) (a := a) hw ty x ho g off hx cs.toList d (fun w h => hS w h) hu hd (by rw [R.hi]; simp [hn])
  simpa using this
theorem ps_one (p : Ps) : p.cs.all (·.oneCell') = true := by simp [Ps.cs, Value.oneCell']

def ReadPost (o : Option Nd) (w : World) (e : Ending) (w' : World) : Prop :=
  (match o with | none => e = .returned (.tuple #[.agg Nd.nil.cs, .int .i64 9]) | some n => e = .returned (.tuple #[.agg n.cs, .int .i64 0])) ∧ Bel w w'
set_option maxRecDepth 100000 in
set_option maxHeartbeats 1000000 in
theorem lread_any (g : Nat) (l : Row Nd) (i : Int) (w : World) (hl : l.rd w) (hg : w.cell? ⟨g, 0, none⟩ = some (.slice l.A l.n l.c)) :
    Calls Try.prog 36 #[.int .i64 i, .pointer (some ⟨g, 0, none⟩)] w (ReadPost (if i < 0 then none else l.l[i.toNat]?) w) := by
  have hll : l.l.length = l.n := hl.len
  have l63 := hl.n63
  have HG := Lib.hid (fun w' (hb : Bel w w') => cell_bel hb hg)
  have HL := Lib.hid (fun w' (hb : Bel w w') => hl.mono hb)
  have H := Lib.hid ((SL.start No w).alloc #[.int .i64 0, .slice none 0 0, .int .i64 0, .int .i64 0, .int .i64 0, .int .i64 0, .int .i64 0, .int .i64 0, .int .i64 0, .int .i64 0, .int .i64 0, .int .i64 0, .int .i64 0, .int .i64 0] 44)
  (try simp only [List.set_cons_zero, List.set_cons_succ, List.cons_append, List.nil_append, List.eraseIdx_cons_zero, List.eraseIdx_cons_succ, List.setIfInBounds_toArray, World.size_alloc, selR, List.getD_cons_zero, List.getD_cons_succ] at H)
  have cg := HG.out _ H.out.to
  clear hg hl
  by_cases h0 : i < 0
  · rw [if_pos h0]
    have d0 : decide (i < 0) = true := by simpa using h0
    clear h0
    go_enter Try.func36, Try.ntmps36
    go_upto_region 1 with fail
    generalize w.heap.size = y at *
    generalize World.alloc w _ = w1 at *
    go_wp2_with ((with_reducible show wpList _ _ _ (⟨_, .store _ (.tmp 3) _, _, _, _, _⟩ :: _) _ _); (refine wpList_store_blk rfl rowNd (.tmp 3) (.tmp 13) rfl _ rfl (H.out.blk 0 rfl) rfl (Nd.nil.cs) rfl rfl (nd_one _) ?_; intro wq bq hgq; replace H := Lib.hid (H.out.setBlk 0 rfl hgq bq); (try simp only [List.set_cons_zero, List.set_cons_succ, List.cons_append, List.nil_append, List.eraseIdx_cons_zero, List.eraseIdx_cons_succ, List.setIfInBounds_toArray, World.size_alloc, selR, List.getD_cons_zero, List.getD_cons_succ] at H); clear hgq bq))
    refine bodyPost_ret (results_blk rfl rowNd rfl (H.out.blk 0 rfl) rfl) rfl ?_
    exact ⟨rfl, H.out.to⟩
  · rw [if_neg h0]
    have d0 : decide (i < 0) = false := by simpa using h0
    obtain ⟨q, rfl⟩ : ∃ q : Nat, i = q := ⟨i.toNat, by omega⟩
    rw [Int.toNat_natCast]
    by_cases h1 : q < l.n
    · obtain ⟨b, o, n, hA, hb, hn, hnr, hrg⟩ := (HL.out _ H.out.to).ndAt (k := q) h1
      rw [hn]
      have d1 : decide ((l.n : Int) ≤ (q : Int)) = false := by simp; omega
      have d1n : decide (l.n ≤ q) = false := by simp; omega
      have q0 : (0 : Int) ≤ q := by omega
      have q1 : (q : Int) < l.n := by omega
      have HRG := Lib.hid hrg
      rw [hA] at cg
      clear h0 h1 hn hnr hrg hA hll
      go_enter Try.func36, Try.ntmps36
      go_upto_region 1 with fail
      generalize w.heap.size = y at *
      generalize World.alloc w _ = w1 at *
      go_wp2_with (first | ((with_reducible show wpList _ _ _ (⟨some 17, _, _, _, _, _⟩ :: _) _ _); (refine wpList_load_row_at rfl rowNd (.tmp 16) rfl b (o + q * 14) rfl n.cs rfl HRG.out ?_)) | ((with_reducible show wpList _ _ _ (⟨_, .store _ (.tmp 3) _, _, _, _, _⟩ :: _) _ _); (refine wpList_store_blk rfl rowNd (.tmp 3) (.tmp 17) rfl _ rfl (H.out.blk 0 rfl) rfl (n.cs) rfl rfl (nd_one n) ?_; intro wq bq hgq; replace H := Lib.hid (H.out.setBlk 0 rfl hgq bq); (try simp only [List.set_cons_zero, List.set_cons_succ, List.cons_append, List.nil_append, List.eraseIdx_cons_zero, List.eraseIdx_cons_succ, List.setIfInBounds_toArray, World.size_alloc, selR, List.getD_cons_zero, List.getD_cons_succ] at H); clear hgq bq)))
      refine bodyPost_ret (results_blk rfl rowNd rfl (H.out.blk 0 rfl) rfl) rfl ?_
      exact ⟨rfl, H.out.to⟩
    · rw [List.getElem?_eq_none (by omega)]
      have d1 : decide ((l.n : Int) ≤ (q : Int)) = true := by simp; omega
      have d1n : decide (l.n ≤ q) = true := by simp; omega
      clear h0 h1 hll
      go_enter Try.func36, Try.ntmps36
      go_upto_region 1 with fail
      generalize w.heap.size = y at *
      generalize World.alloc w _ = w1 at *
      go_wp2_with ((with_reducible show wpList _ _ _ (⟨_, .store _ (.tmp 3) _, _, _, _, _⟩ :: _) _ _); (refine wpList_store_blk rfl rowNd (.tmp 3) (.tmp 13) rfl _ rfl (H.out.blk 0 rfl) rfl (Nd.nil.cs) rfl rfl (nd_one _) ?_; intro wq bq hgq; replace H := Lib.hid (H.out.setBlk 0 rfl hgq bq); (try simp only [List.set_cons_zero, List.set_cons_succ, List.cons_append, List.nil_append, List.eraseIdx_cons_zero, List.eraseIdx_cons_succ, List.setIfInBounds_toArray, World.size_alloc, selR, List.getD_cons_zero, List.getD_cons_succ] at H); clear hgq bq))
      refine bodyPost_ret (results_blk rfl rowNd rfl (H.out.blk 0 rfl) rfl) rfl ?_
      exact ⟨rfl, H.out.to⟩
theorem nodeAt_map {l : Row Nd} {i : Int} : nodeAt (l.l.map Nd.con) i = (if i < 0 then none else l.l[i.toNat]?).map Nd.con := by
  unfold nodeAt
  split
  · rfl
  · rw [List.getElem?_map]
set_option maxRecDepth 100000 in
set_option maxHeartbeats 4000000 in
theorem lstep_any (g : Nat) (l : Row Nd) (at_ : Int) (i : Nat) (p : Ps) (w : World) (hl : l.rd w) (hg : w.cell? ⟨g, 0, none⟩ = some (.slice l.A l.n l.c)) (hp : p.ok) (hs : ∀ n ∈ l.l, SmN n) (hr : ∀ n ∈ l.l, ∀ y ∈ n.ls.l, RiseL y.l) :
    Calls Try.prog 67 #[.func (.func 36) #[] #[.pointer (some ⟨g, 0, none⟩)], .int .i64 at_, .int .i64 i, .agg p.cs] w fun e w' => e = .returned (.tuple #[.agg (pstep (l.l.map Nd.con) i at_ p.t p.k).1.cs, .int .i64 (pstep (l.l.map Nd.con) i at_ p.t p.k).2]) ∧ Bel w w' := by
  have HN := Lib.hid (fun w' (hb : Bel w w') => lread_any g l at_ w' (hl.mono hb) (cell_bel hb hg))
  have HLR := Lib.hid (fun w' (hb : Bel w w') => hl.mono hb)
  have HP := Lib.hid hp
  have HSN := Lib.hid hs
  have HRI := Lib.hid hr
  obtain ⟨V, hV⟩ : ∃ V, V = pstep (l.l.map Nd.con) i at_ p.t p.k := ⟨_, rfl⟩
  have HV := Lib.hid hV
  rw [← hV]
  have H := Lib.hid (((SL.start No w).alloc p.cs 110).alloc #[.int .i64 0, .int .i64 0, .int .i64 0, .int .i64 0, .int .i64 0, .int .i64 0, .int .i64 0, .int .i64 0, .int .i64 0, .int .i64 0, .int .i64 0, .int .i64 0] 42)
  (try simp only [List.set_cons_zero, List.set_cons_succ, List.cons_append, List.nil_append, List.eraseIdx_cons_zero, List.eraseIdx_cons_succ, List.setIfInBounds_toArray, World.size_alloc, selR, List.getD_cons_zero, List.getD_cons_succ] at H)
  have p64 := hp.t
  unfold I64 at p64
  clear hl hg hp hs hr hV
  obtain ⟨O, hO⟩ : ∃ O, O = (if at_ < 0 then none else l.l[at_.toNat]?) := ⟨_, rfl⟩
  have HO := Lib.hid hO
  rw [← hO] at HN
  have HNA : Hid (nodeAt (l.l.map Nd.con) at_ = O.map Nd.con) := by show _ = _; rw [nodeAt_map, ← hO]
  clear hO
  go_enter Try.func67, Try.ntmps67
  go_wp2_with fail
  refine (HN.out _ H.out.to).mono ?_; intro e w1 hrd
  generalize w.heap.size + 1 = y at *
  generalize w.heap.size = x at *
  cases O with
  | none =>
    obtain ⟨rfl, hb1⟩ := hrd
    replace H := Lib.hid (H.out.bel hb1); (try simp only [List.set_cons_zero, List.set_cons_succ, List.cons_append, List.nil_append, List.eraseIdx_cons_zero, List.eraseIdx_cons_succ, List.setIfInBounds_toArray, World.size_alloc, selR, List.getD_cons_zero, List.getD_cons_succ] at H)
    clear hb1 HN
    have HV2 : Hid (V = (.nil, 9)) := by show _ = _; rw [HV.out]; exact pstep_none HNA.out
    clear HV HNA
    go_upto_region 3 with ((with_reducible show wpList _ _ _ (⟨_, .store _ (.tmp 10) _, _, _, _, _⟩ :: _) _ _); (refine wpList_store_new rfl rowNd (.tmp 10) (.tmp 18) rfl rfl rfl (Nd.nil.cs) rfl rfl (nd_one _) ?_; replace H := Lib.hid (H.out.alloc (Nd.nil.cs) 44); (try simp only [List.set_cons_zero, List.set_cons_succ, List.cons_append, List.nil_append, List.eraseIdx_cons_zero, List.eraseIdx_cons_succ, List.setIfInBounds_toArray, World.size_alloc, selR, List.getD_cons_zero, List.getD_cons_succ] at H)))
    (try simp only [Act.put, List.setIfInBounds_toArray, List.set_cons_zero, List.set_cons_succ])
    generalize w1.heap.size = z at *
    generalize World.alloc w1 _ = w2 at *
    go_wp2_with ((with_reducible show wpList _ _ _ (⟨_, .store _ (.tmp 8) _, _, _, _, _⟩ :: _) _ _); (refine wpList_store_blk rfl rowCl (.tmp 8) (.tmp 22) rfl _ rfl (H.out.blk 1 rfl) rfl (#[.int .i64 0, .int .i64 0, .int .i64 0, .int .i64 0, .int .i64 0, .int .i64 0, .int .i64 0, .int .i64 0, .int .i64 0, .int .i64 0, .int .i64 0, .int .i64 0]) rfl rfl (by simp [Value.oneCell']) ?_; intro wq bq hgq; replace H := Lib.hid (H.out.setBlk 1 rfl hgq bq); (try simp only [List.set_cons_zero, List.set_cons_succ, List.cons_append, List.nil_append, List.eraseIdx_cons_zero, List.eraseIdx_cons_succ, List.setIfInBounds_toArray, World.size_alloc, selR, List.getD_cons_zero, List.getD_cons_succ] at H); clear hgq bq))
    refine bodyPost_ret (results_blk rfl rowCl rfl (H.out.blk 1 rfl) rfl) rfl ?_
    rw [HV2.out]
    exact ⟨rfl, H.out.to⟩
  | some n =>
    obtain ⟨rfl, hb1⟩ := hrd
    replace H := Lib.hid (H.out.bel hb1); (try simp only [List.set_cons_zero, List.set_cons_succ, List.cons_append, List.nil_append, List.eraseIdx_cons_zero, List.eraseIdx_cons_succ, List.setIfInBounds_toArray, World.size_alloc, selR, List.getD_cons_zero, List.getD_cons_succ] at H)
    clear hb1 HN
    have hnl : n ∈ l.l := by
      have h := HO.out
      split at h
      · cases h
      · exact List.mem_of_getElem? h.symm
    have HNR := Lib.hid (fun w' (hb : Bel w w') => ((HLR.out w' hb).all n hnl : n.rd w'))
    have HSM := Lib.hid (HSN.out n hnl)
    have HRN := Lib.hid (HRI.out n hnl)
    have hln : n.con.ls.length = n.ls.n := by show (n.ls.l.map Row.l).length = _; rw [List.length_map]; exact (HNR.out _ (Bel.refl _)).ls.len
    have HVS : Hid (V = if n.dim ≠ i ∨ (n.ls.n : Int) ≤ p.t then ((.nil, 15) : Cl × Int) else match pfind n.con p.t p.k with | none => (.nil, 10) | some c => (c, 0)) := by show _ = _; rw [HV.out, pstep_some HNA.out, hln]
    have d64 := (HNR.out _ (Bel.refl _)).dim
    have n63 := (HNR.out _ (Bel.refl _)).ls.n63
    unfold I64 at d64
    clear HV HNA hnl hln HO
    go_upto_region 4 with ((with_reducible show wpList _ _ _ (⟨_, .store _ (.tmp 10) _, _, _, _, _⟩ :: _) _ _); (refine wpList_store_new rfl rowNd (.tmp 10) (.tmp 18) rfl rfl rfl (n.cs) rfl rfl (nd_one n) ?_; replace H := Lib.hid (H.out.alloc (n.cs) 44); (try simp only [List.set_cons_zero, List.set_cons_succ, List.cons_append, List.nil_append, List.eraseIdx_cons_zero, List.eraseIdx_cons_succ, List.setIfInBounds_toArray, World.size_alloc, selR, List.getD_cons_zero, List.getD_cons_succ] at H)))
    (try simp only [Act.put, List.setIfInBounds_toArray, List.set_cons_zero, List.set_cons_succ])
    generalize w1.heap.size = z at *
    generalize World.alloc w1 _ = w2 at *
    have cd : w2.cell? ⟨z, 0, none⟩ = some (.int .i64 n.dim) := (H.out.blk 2 rfl).cell 0
    have cl : w2.cell? ⟨z, 1, none⟩ = some (.slice n.ls.A n.ls.n n.ls.c) := (H.out.blk 2 rfl).cell 1
    have cp : w2.cell? ⟨x, 0, none⟩ = some (.int .i64 p.t) := (H.out.blk 0 rfl).cell 0
    by_cases h1 : n.dim ≠ i
    · have HV2 : Hid (V = (.nil, 15)) := by show _ = _; rw [HVS.out, if_pos (.inl h1)]
      have e1 : (n.dim != (i : Int)) = true := by simpa using h1
      clear h1 HVS
      go_wp2_with ((with_reducible show wpList _ _ _ (⟨_, .store _ (.tmp 8) _, _, _, _, _⟩ :: _) _ _); (refine wpList_store_blk rfl rowCl (.tmp 8) (.tmp 36) rfl _ rfl (H.out.blk 1 rfl) rfl (#[.int .i64 0, .int .i64 0, .int .i64 0, .int .i64 0, .int .i64 0, .int .i64 0, .int .i64 0, .int .i64 0, .int .i64 0, .int .i64 0, .int .i64 0, .int .i64 0]) rfl rfl (by simp [Value.oneCell']) ?_; intro wq bq hgq; replace H := Lib.hid (H.out.setBlk 1 rfl hgq bq); (try simp only [List.set_cons_zero, List.set_cons_succ, List.cons_append, List.nil_append, List.eraseIdx_cons_zero, List.eraseIdx_cons_succ, List.setIfInBounds_toArray, World.size_alloc, selR, List.getD_cons_zero, List.getD_cons_succ] at H); clear hgq bq))
      refine bodyPost_ret (results_blk rfl rowCl rfl (H.out.blk 1 rfl) rfl) rfl ?_
      rw [HV2.out]
      exact ⟨rfl, H.out.to⟩
    have h1 := Classical.not_not.1 h1
    have e1 : (n.dim != (i : Int)) = false := by simpa using h1
    by_cases h2 : (n.ls.n : Int) ≤ p.t
    · have HV2 : Hid (V = (.nil, 15)) := by show _ = _; rw [HVS.out, if_pos (.inr h2)]
      have e2 : decide ((n.ls.n : Int) ≤ p.t) = true := by simpa using h2
      clear h1 h2 HVS
      go_wp2_with ((with_reducible show wpList _ _ _ (⟨_, .store _ (.tmp 8) _, _, _, _, _⟩ :: _) _ _); (refine wpList_store_blk rfl rowCl (.tmp 8) (.tmp 36) rfl _ rfl (H.out.blk 1 rfl) rfl (#[.int .i64 0, .int .i64 0, .int .i64 0, .int .i64 0, .int .i64 0, .int .i64 0, .int .i64 0, .int .i64 0, .int .i64 0, .int .i64 0, .int .i64 0, .int .i64 0]) rfl rfl (by simp [Value.oneCell']) ?_; intro wq bq hgq; replace H := Lib.hid (H.out.setBlk 1 rfl hgq bq); (try simp only [List.set_cons_zero, List.set_cons_succ, List.cons_append, List.nil_append, List.eraseIdx_cons_zero, List.eraseIdx_cons_succ, List.setIfInBounds_toArray, World.size_alloc, selR, List.getD_cons_zero, List.getD_cons_succ] at H); clear hgq bq))
      refine bodyPost_ret (results_blk rfl rowCl rfl (H.out.blk 1 rfl) rfl) rfl ?_
      rw [HV2.out]
      exact ⟨rfl, H.out.to⟩
    have e2 : decide ((n.ls.n : Int) ≤ p.t) = false := by simpa using h2
    have HVF : Hid (V = match pfind n.con p.t p.k with | none => (.nil, 10) | some c => (c, 0)) := by show _ = _; rw [HVS.out, if_neg (by rintro (h | h); exact h h1; exact h2 h)]
    clear h1 h2 HVS
    go_wp2_with (first | ((with_reducible show wpList _ _ _ (⟨some 38, _, _, _, _, _⟩ :: _) _ _); (refine wpList_load_blk rfl rowNd (.tmp 10) rfl _ rfl (H.out.blk 2 rfl) rfl ?_)) | ((with_reducible show wpList _ _ _ (⟨some 39, _, _, _, _, _⟩ :: _) _ _); (refine wpList_load_blk rfl rowPosA (.tmp 7) rfl _ rfl (H.out.blk 0 rfl) rfl ?_)))
    refine (nfind_any n p _ (HNR.out _ H.out.to) HP.out HSM.out.b HRN.out).mono ?_; rintro e w3 ⟨rfl, hb3⟩
    replace H := Lib.hid (H.out.bel hb3); (try simp only [List.set_cons_zero, List.set_cons_succ, List.cons_append, List.nil_append, List.eraseIdx_cons_zero, List.eraseIdx_cons_succ, List.setIfInBounds_toArray, World.size_alloc, selR, List.getD_cons_zero, List.getD_cons_succ] at H)
    clear hb3 cd cl cp e1 e2
    obtain ⟨O2, hO2⟩ : ∃ O2, O2 = pfind n.con p.t p.k := ⟨_, rfl⟩
    rw [← hO2] at HVF ⊢
    clear hO2
    cases O2 with
    | none =>
      have HV2 : Hid (V = (.nil, 10)) := HVF.out
      clear HVF
      go_upto_region 8 with ((with_reducible show wpList _ _ _ (⟨_, .store _ (.tmp 12) _, _, _, _, _⟩ :: _) _ _); (refine wpList_store_new rfl rowCl (.tmp 12) (.tmp 41) rfl rfl rfl (Cl.nil.cs) rfl rfl (cl_one _) ?_; replace H := Lib.hid (H.out.alloc (Cl.nil.cs) 42); (try simp only [List.set_cons_zero, List.set_cons_succ, List.cons_append, List.nil_append, List.eraseIdx_cons_zero, List.eraseIdx_cons_succ, List.setIfInBounds_toArray, World.size_alloc, selR, List.getD_cons_zero, List.getD_cons_succ] at H)))
      (try simp only [Act.put, List.setIfInBounds_toArray, List.set_cons_zero, List.set_cons_succ])
      generalize w3.heap.size = u at *
      generalize World.alloc w3 _ = w4 at *
      go_wp2_with ((with_reducible show wpList _ _ _ (⟨_, .store _ (.tmp 8) _, _, _, _, _⟩ :: _) _ _); (refine wpList_store_blk rfl rowCl (.tmp 8) (.tmp 45) rfl _ rfl (H.out.blk 1 rfl) rfl (#[.int .i64 0, .int .i64 0, .int .i64 0, .int .i64 0, .int .i64 0, .int .i64 0, .int .i64 0, .int .i64 0, .int .i64 0, .int .i64 0, .int .i64 0, .int .i64 0]) rfl rfl (by simp [Value.oneCell']) ?_; intro wq bq hgq; replace H := Lib.hid (H.out.setBlk 1 rfl hgq bq); (try simp only [List.set_cons_zero, List.set_cons_succ, List.cons_append, List.nil_append, List.eraseIdx_cons_zero, List.eraseIdx_cons_succ, List.setIfInBounds_toArray, World.size_alloc, selR, List.getD_cons_zero, List.getD_cons_succ] at H); clear hgq bq))
      refine bodyPost_ret (results_blk rfl rowCl rfl (H.out.blk 1 rfl) rfl) rfl ?_
      rw [HV2.out]
      exact ⟨rfl, H.out.to⟩
    | some c =>
      have HV2 : Hid (V = (c, 0)) := HVF.out
      clear HVF
      rw [Option.getD_some]
      go_upto_region 9 with ((with_reducible show wpList _ _ _ (⟨_, .store _ (.tmp 12) _, _, _, _, _⟩ :: _) _ _); (refine wpList_store_new rfl rowCl (.tmp 12) (.tmp 41) rfl rfl rfl (c.cs) rfl rfl (cl_one c) ?_; replace H := Lib.hid (H.out.alloc (c.cs) 42); (try simp only [List.set_cons_zero, List.set_cons_succ, List.cons_append, List.nil_append, List.eraseIdx_cons_zero, List.eraseIdx_cons_succ, List.setIfInBounds_toArray, World.size_alloc, selR, List.getD_cons_zero, List.getD_cons_succ] at H)))
      (try simp only [Act.put, List.setIfInBounds_toArray, List.set_cons_zero, List.set_cons_succ])
      generalize w3.heap.size = u at *
      generalize World.alloc w3 _ = w4 at *
      go_wp2_with (first | ((with_reducible show wpList _ _ _ (⟨some 46, _, _, _, _, _⟩ :: _) _ _); (refine wpList_load_blk rfl rowCl (.tmp 12) rfl _ rfl (H.out.blk 3 rfl) rfl ?_)) | ((with_reducible show wpList _ _ _ (⟨_, .store _ (.tmp 8) _, _, _, _, _⟩ :: _) _ _); (refine wpList_store_blk rfl rowCl (.tmp 8) (.tmp 46) rfl _ rfl (H.out.blk 1 rfl) rfl (c.cs) rfl rfl (cl_one c) ?_; intro wq bq hgq; replace H := Lib.hid (H.out.setBlk 1 rfl hgq bq); (try simp only [List.set_cons_zero, List.set_cons_succ, List.cons_append, List.nil_append, List.eraseIdx_cons_zero, List.eraseIdx_cons_succ, List.setIfInBounds_toArray, World.size_alloc, selR, List.getD_cons_zero, List.getD_cons_succ] at H); clear hgq bq)))
      refine bodyPost_ret (results_blk rfl rowCl rfl (H.out.blk 1 rfl) rfl) rfl ?_
      rw [HV2.out]
      exact ⟨rfl, H.out.to⟩

end Go.Proofs.Ytjiphfobengdlaa
