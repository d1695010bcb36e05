/- run.Cut: facts in runs. -/
import Derived.Test.YtnekknemjhlgdaaChunk
import Derived.Maps.AppendAt
namespace Go.Proofs.Ytnekknemjhlgdaa
open Go.RowKit Go.Shelf
set_option linter.unusedVariables false
attribute [local go_sem] Oper.semAt_some

theorem E_fcts : ElemInfo Try.prog 94 75 1 24 := ElemInfo.mk' (z := .slice none 0 0) Try.underlying94 (by kernel_rfl) rfl (by omega)
theorem info_fcts : (Try.prog.info? 75).map (fun i => (i.zero, i.size, i.bytes)) = some (some (.slice none 0 0), 1, 24) := by kernel_rfl

/-- A piece of a row that may be read may be read. -/
theorem piece_ok {w : World} {b o n c m : Nat} {l : List Fct} (h : Row.ok w (⟨some ⟨b, o, none⟩, n, c, l⟩ : Row Fct)) (hn : n ≤ 1000) (k : Nat) : Row.ok w (piece b o m l k) ∧ (piece b o m l k).n ≤ 1000 := by
  have hl : l.length = n := h.len
  have hlen : ((l.drop (k * m)).take m).length = min m (l.length - k * m) := by rw [List.length_take, List.length_drop]
  refine ⟨⟨⟨?_, fun h0 => ?_⟩, fun a ha => h.all a (List.mem_of_mem_drop (List.mem_of_mem_take ha)), Nat.le_refl _, ?_, ?_⟩, ?_⟩
  · rw [cells_len]; exact congrArg (· * 11) hlen
  · have h1 : k * m < l.length := by simp only [piece] at h0; omega
    obtain ⟨ad, e, hb, hc⟩ := h.rd.2 (by simp only; omega)
    injection e with e
    subst e
    refine ⟨_, rfl, hb, fun j u hu => ?_⟩
    have hj : j < ((l.drop (k * m)).take m).length * 11 := by
      rcases Nat.lt_or_ge j (((l.drop (k * m)).take m).length * 11) with h' | h'
      · exact h'
      · rw [List.getElem?_eq_none (by rw [cells_len]; exact h')] at hu; cases hu
    have hq : (l.flatMap Cel.cells)[k * m * 11 + j]? = some u := by
      rw [← hu]
      have e1 : (piece b o m l k).l.flatMap Cel.cells = ((l.flatMap Cel.cells).drop (k * m * 11)).take (m * 11) := by
        show ((l.drop (k * m)).take m).flatMap Cel.cells = _
        rw [show k * m * 11 = k * m * Cel.size Fct from rfl, flat_drop, show m * 11 = m * Cel.size Fct from rfl, flat_take]
      rw [e1, List.getElem?_take_of_lt (by rw [hlen] at hj; have : min m (l.length - k * m) * 11 ≤ m * 11 := Nat.mul_le_mul_right _ (Nat.min_le_left _ _); omega), List.getElem?_drop]
    have := hc _ _ hq
    rw [Addr.add_mid] at this ⊢
    rw [Nat.add_assoc]
    exact this
  · simp only [piece]; unfold maxLen; omega
  · simp only [piece, Cel.bytes]; omega
  · simp only [piece]; omega

/-- All cells hold what they held. -/
structure Ck (w w' : World) : Prop where
  size : w.heap.size ≤ w'.heap.size
  cell : ∀ p v, w.cell? p = some v → w'.cell? p = some v
theorem Rd.ck {w w' : World} {size n : Nat} {A : Option Addr} {xs : List Value} (h : Rd w size A n xs) (hk : Ck w w') : Rd w' size A n xs :=
  ⟨h.1, fun hn => by obtain ⟨ad, e, hb, hc⟩ := h.2 hn; exact ⟨ad, e, Nat.lt_of_lt_of_le hb hk.size, fun j u hu => hk.cell _ _ (hc j u hu)⟩⟩
theorem ints_ck {w w' : World} {x : Row Int} (h : x.ok w) (hk : Ck w w') : x.ok w' := ⟨h.rd.ck hk, h.all, h.le, h.cap, h.reach⟩
theorem fct_ck {w w' : World} {f : Fct} (h : f.ok w) (hk : Ck w w') : f.ok w' := ⟨ints_ck h.ks hk, h.ag⟩
theorem fcts_ck {w w' : World} {x : Row Fct} (h : x.ok w) (hk : Ck w w') : x.ok w' := ⟨h.rd.ck hk, fun f hf => fct_ck (h.all f hf) hk, h.le, h.cap, h.reach⟩

/-- A row and its tuples lie outside of a block. -/
structure OffR (row : Option Nat) (r : Row Fct) : Prop where
  a : 0 < r.n → ∀ ad, r.A = some ad → row ≠ some ad.block
  k : ∀ f ∈ r.l, 0 < f.ks.n → ∀ ad, f.ks.A = some ad → row ≠ some ad.block
theorem fcts_grown {w w' : World} {row : Option Nat} {x : Row Fct} (h : x.ok w) (hg : w.grownBy w' row) (ho : OffR row x) : x.ok w' := by
  refine ⟨⟨h.rd.1, fun hn => ?_⟩, fun f hf => ⟨(h.all f hf).ks.grown hg (ho.k f hf), (h.all f hf).ag⟩, h.le, h.cap, h.reach⟩
  obtain ⟨ad, e, hb, hc⟩ := h.rd.2 hn
  refine ⟨ad, e, Nat.lt_of_lt_of_le hb hg.size, fun j u hu => ?_⟩
  rw [← hc j u hu]
  refine World.cell?_of_block ?_
  rw [block_of_add]
  exact hg.block _ hb (fun e' => ho.a hn ad e e'.symm)
theorem off_new {w : World} {x : Row Fct} (h : x.ok w) : OffR (some w.heap.size) x := by
  refine ⟨fun hn ad e e2 => ?_, fun f hf hn ad e e2 => ?_⟩
  · obtain ⟨ad', e', hb, _⟩ := h.rd.2 hn
    rw [e] at e'
    injection e' with e'
    subst e'
    injection e2 with e2
    omega
  · obtain ⟨ad', e', hb, _⟩ := (h.all f hf).ks.rd.2 hn
    rw [e] at e'
    injection e' with e'
    subst e'
    injection e2 with e2
    omega
theorem off_gath {w0 w : World} {v : Value} {fs : List Fct} (h : Gath w0 w v fs) {x : Row Fct} (hv : v = x.v) (hl : x.l = fs) {b : Nat} (hb : b < w0.heap.size) : OffR (some b) x := by
  refine ⟨fun hn ad e e2 => ?_, fun f hf hn ad e e2 => ?_⟩
  · have h1 : v.ownBlock = some ad.block := by rw [hv]; simp [Row.v, e, Value.ownBlock]
    have := own_ge h.own h1
    injection e2 with e2
    omega
  · rw [hl] at hf
    have := h.new f hf hn ad e
    injection e2 with e2
    omega

/-- Runs, gathered in a variable. -/
structure Parts (w0 w : World) (B : Nat) (v : Value) (rs : List (Row Fct)) : Prop where
  box : Boxed w B 94 v
  own : w.ownsRow w0.heap.size 75 1 v rs.length (rs.map Row.v)
  ok : ∀ r ∈ rs, r.ok w
  offV : ∀ r ∈ rs, OffR v.ownBlock r
  offB : ∀ r ∈ rs, OffR (some B) r
theorem Parts.kept {w0 w w' : World} {B : Nat} {v : Value} {rs : List (Row Fct)} (h : Parts w0 w B v rs) {row : Option Nat} (hg : w.grownBy w' row) (hr : ∀ r, row = some r → ∃ o : Obj, w.heap[r]? = some o ∧ o.isCells = false) : Parts w0 w' B v rs := by
  have hck : Ck w w' := ⟨hg.size, fun p u hp => cell_kept hp hg hr⟩
  refine ⟨h.box.kept hg (fun e => ?_), h.own.kept hg ?_, fun r hr' => fcts_ck (h.ok r hr') hck, h.offV, h.offB⟩
  · obtain ⟨o, ho, hc⟩ := hr B e.symm
    have hb := h.box
    unfold Boxed at hb
    rw [hb] at ho
    injection ho with ho
    subst ho
    cases hc
  · cases hu : v.ownBlock with
    | none => exact .inl rfl
    | some k =>
      refine .inr fun e => ?_
      obtain ⟨o, ho, hc⟩ := hr k e.symm
      obtain ⟨cs, hcs⟩ := own_blk h.own hu
      unfold Blk at hcs
      rw [hcs] at ho
      injection ho with ho
      subst ho
      cases hc
theorem Parts.keep {w0 w w' : World} {B : Nat} {v : Value} {rs : List (Row Fct)} (h : Parts w0 w B v rs) (hb : Bel w w') : Parts w0 w' B v rs :=
  h.kept (grown_of_bel hb none) (fun _ e => by cases e)

theorem gath_row {w0 w : World} {v : Value} {fs : List Fct} (h : Gath w0 w v fs) (hn : fs.length ≤ 1000) : ∃ x : Row Fct, v = x.v ∧ x.ok w ∧ x.l = fs ∧ x.n = fs.length := by
  have hcap := own_cap h.own
  have hr : ∀ A c, v = .slice A fs.length c → Rd w 11 A fs.length (fs.flatMap Cel.cells) := fun A c e => by have := h.own; rw [e] at this; exact Rd.of_own this
  obtain ⟨A, c, rfl, hc⟩ := own_slice h.own
  exact ⟨⟨A, fs.length, c, fs⟩, rfl, ⟨hr A c rfl, h.ok, hc, hcap A c rfl, by simp only [Cel.bytes]; omega⟩, rfl, rfl⟩

theorem stepIn_append {F : Fence} {nF : Nat} {P : Program} {w w' : World} {ops : Array Oper} {o : Oper} {a : Act} {K : Act → World → Prop} {Q : Exit → Act → World → Prop} {X : Prop} (hgd : o.guard = none) (s x : Operand) (t : TypeId)
    (ho : o.op = .call { callee := .builtin .append, args := #[s, x], argTypes := #[t, t] }) (v y : Value) {v' : Value} (hs : a.eval s = v) (hx : a.eval x = y) (hrun : (Builtin.append_ #[t, t] o.type #[v, y]).run P w = .ok v' w') (h : K (a.put o.dst v') w') :
    if Region.wanted o (yielded ops a.tmps) = true then Oper.wpIn F nF P o a w K Q else X := by
  have hw : Region.wanted o (yielded ops a.tmps) = true := by simp [Region.wanted, hgd]
  rw [if_pos hw]
  unfold Oper.wpIn
  refine ⟨by simp [Oper.about, ho, resolve, Target.leads, Sem.run_pure], ?_⟩
  rw [Oper.semAt_plain F _ _ (by rw [ho]; intro c hc'; cases hc')]
  simp [execOp, ho, resolve, invoke, builtin, hs, hx, hrun, Result.andThen]
  exact h

/-- What a round of run.Cut leaves. -/
theorem cut_round {w W0 W w2 w4 : World} {B Bs Bn : Nat} {v v' : Value} {rs : List (Row Fct)} {fs : List Fct} {yA : Option Addr} {yn yc : Nat} {yl : List Fct} (hne1 : Bs < W0.heap.size) (hne2 : Bn < W0.heap.size) (hBB : B ≠ Bs ∧ B ≠ Bn ∧ B = w.heap.size ∧ B < W0.heap.size)
    (hP : Parts W0 W B v rs) (hW0 : W0.heap.size ≤ W.heap.size) (hB : Bel w W) (hGa : Gath W.drew w2 (Row.v (⟨yA, yn, yc, yl⟩ : Row Fct)) fs) (hyo : Row.ok w2 (⟨yA, yn, yc, yl⟩ : Row Fct)) (hyl : (⟨yA, yn, yc, yl⟩ : Row Fct).l = fs)
    (hP3 : Parts W0 (w2.alloc (.cells #[.slice yA yn yc] 75)) B v rs) (hown : w4.ownsRow W0.heap.size 75 1 v' (rs.length + 1) (rs.map Row.v ++ [.slice yA yn yc])) (hg : (w2.alloc (.cells #[.slice yA yn yc] 75)).grownBy w4 v.ownBlock)
    (hat : v'.ownBlock = v.ownBlock ∨ v'.ownBlock = some (w2.alloc (.cells #[.slice yA yn yc] 75)).heap.size) (hbx : Boxed w4 B 94 v) :
    KeepsFrom W0.heap.size W (w4.setCell ⟨B, 0, none⟩ v') ∧ KeepC Bs Bn W (w4.setCell ⟨B, 0, none⟩ v') ∧ Parts W0 (w4.setCell ⟨B, 0, none⟩ v') B v' (rs ++ [⟨yA, yn, yc, yl⟩]) ∧ Below w.heap.size w (w4.setCell ⟨B, 0, none⟩ v') ∧ W0.heap.size ≤ (w4.setCell ⟨B, 0, none⟩ v').heap.size := by
  have hb2 : Bel W w2 := (Bel.refl W).drew.trans hGa.bel
  have hb3 : Bel W (w2.alloc (.cells #[.slice yA yn yc] 75)) := hb2.alloc _
  have hBlt : B < W.heap.size := by omega
  have hs5 : (w4.setCell ⟨B, 0, none⟩ v').heap.size = w4.heap.size := by simp [World.setCell]
  have hs3 := hb3.size
  have hs4 := hg.size
  have hset : w4.grownBy (w4.setCell ⟨B, 0, none⟩ v') (some B) := grownBy_setCell' w4 B v'
  have hvB : ∀ b', v.ownBlock = some b' → W0.heap.size ≤ b' := fun b' e => own_ge hP3.own e
  refine ⟨?_, ?_, ?_, ?_, by omega⟩
  · refine KeepsOthers.from ?_ _
    have k1 : KeepsOthers W (w2.alloc (.cells #[.slice yA yn yc] 75)) := ⟨hs3, fun k o hk _ => (hb3.block k (Array.getElem?_eq_some_iff.1 hk).1).trans hk⟩
    refine (k1.trans (KeepsOthers.of_grownBy hg fun j o ej hj => ?_)).trans (KeepsOthers.setCell _ _ _)
    obtain ⟨cs, hcs⟩ := own_blk hP3.own ej
    unfold Blk at hcs
    rw [hcs] at hj
    injection hj with hj
    subst hj
    rfl
  · have key : ∀ q, q < W0.heap.size → q ≠ B → (w4.setCell ⟨B, 0, none⟩ v').cell? ⟨q, 0, none⟩ = W.cell? ⟨q, 0, none⟩ := fun q hq hqB => by
      refine World.cell?_of_block ?_
      rw [hset.block q (by omega) (fun e => by injection e with e; exact hqB e), hg.block q (by omega) (fun e => by have := hvB q e.symm; omega)]
      exact hb3.block q (by omega)
    exact ⟨key Bs hne1 (Ne.symm hBB.1), key Bn hne2 (Ne.symm hBB.2.1)⟩
  · have hoy : OffR v.ownBlock (⟨yA, yn, yc, yl⟩ : Row Fct) := by
      cases hu : v.ownBlock with
      | none => exact ⟨(fun _ _ _ e => by cases e), (fun _ _ _ _ _ e => by cases e)⟩
      | some k => exact off_gath hGa rfl hyl (by have := own_lt hP.own hu; exact this)
    have hoyB : OffR (some B) (⟨yA, yn, yc, yl⟩ : Row Fct) := off_gath hGa rfl hyl hBlt
    have hy3 : Row.ok (w2.alloc (.cells #[.slice yA yn yc] 75)) (⟨yA, yn, yc, yl⟩ : Row Fct) := hyo.mono ((Bel.refl w2).alloc _)
    have hall : ∀ r ∈ rs ++ [(⟨yA, yn, yc, yl⟩ : Row Fct)], r.ok (w2.alloc (.cells #[.slice yA yn yc] 75)) ∧ OffR v.ownBlock r ∧ OffR (some B) r := fun r hr => by
      rcases List.mem_append.1 hr with h | h
      · exact ⟨hP3.ok r h, hP3.offV r h, hP3.offB r h⟩
      · rw [List.mem_singleton] at h
        subst h
        exact ⟨hy3, hoy, hoyB⟩
    refine ⟨hbx.set v', ?_, fun r hr => ?_, fun r hr => ?_, fun r hr => (hall r hr).2.2⟩
    · rw [List.length_append, List.map_append]
      exact hown.kept hset (.inr (hbx.not_row (by decide) hown).symm)
    · exact fcts_grown (fcts_grown (hall r hr).1 hg (hall r hr).2.1) hset (hall r hr).2.2
    · rcases hat with e | e
      · rw [e]; exact (hall r hr).2.1
      · rw [e]; exact off_new (hall r hr).1
  · exact (((hB.trans hb3).grown hg fun k e => by have := hvB k e; omega).grown hset fun k e => by injection e with e; omega)

/-- What a run is, of a row. -/
abbrev PieceOf (w : World) := {x : Row Fct // x.ok w ∧ x.n ≤ 1000}
/-- What run.Cut gives. -/
def CutPost (cs : List (List Con)) (w : World) (e : Ending) (w' : World) : Prop :=
  ∃ (v : Value) (rs : List (Row Fct)), e = .returned (.tuple #[v, .int .i64 0]) ∧ w'.ownsRow w.heap.size 75 1 v rs.length (rs.map Row.v) ∧ (∀ r ∈ rs, r.ok w' ∧ r.n ≤ 1000 ∧ OffR v.ownBlock r) ∧ rs.map (fun r => cons r.l) = cs ∧ Bel w w'

theorem keepC_putObj {W : World} {Bs Bn l : Nat} {o' : Obj} (h1 : Bs < l) (h2 : Bn < l) : KeepC Bs Bn W (W.putObj l o') := by
  constructor
  · refine World.cell?_of_block ?_
    simp [World.putObj, Array.getElem?_setIfInBounds]
    omega
  · refine World.cell?_of_block ?_
    simp [World.putObj, Array.getElem?_setIfInBounds]
    omega

theorem chunk_stops (n : Nat) (hn : 1 ≤ n) (Bs Bn b o c ln m : Nat) (l : List Fct) (w0 w : World) (hx : Row.ok w0 (⟨some ⟨b, o, none⟩, ln, c, l⟩ : Row Fct)) (h1000 : ln ≤ 1000) (hm1 : 1 ≤ m) (hm2 : m ≤ 9223372036854775807)
    (hs : Bs < w.heap.size) (hb : Bn < w.heap.size) (hBs : w.cell? ⟨Bs, 0, none⟩ = some (.slice (some ⟨b, o, none⟩) ln c)) (hBn : w.cell? ⟨Bn, 0, none⟩ = some (.int .i64 m)) :
    SeqStopsK Fence.wide n Try.prog 232 #[.pointer (some ⟨Bs, 0, none⟩), .pointer (some ⟨Bn, 0, none⟩)] (fun x : PieceOf w0 => #[x.1.v]) (KeepC Bs Bn)
      (fun xs => ∃ k, l.length ≤ k * m ∧ (k = 0 ∨ (k - 1) * m < l.length) ∧ xs = upto (fun j => (⟨piece b o m l j, piece_ok hx h1000 j⟩ : PieceOf w0)) k) (fun _ => True) l.length w := fun lp J Jx W hW hJ _ hY h0 => by
  have hl : l.length = ln := hx.len
  have hc := hx.le
  have hc2 := hx.cap
  unfold maxLen at hc2
  subst hl
  refine (chunk1_in n hn lp Bs Bn b o c m l hm1 hm2 h1000 hc hc2 (fun x => x.ok w0 ∧ x.n ≤ 1000) (piece_ok hx h1000) J Jx (fun s A B hA hg => hJ s A B none hA hg (fun r e => by cases e)) hY W ((hW.cell (p := ⟨Bs, 0, none⟩) hs).trans hBs) ((hW.cell (p := ⟨Bn, 0, none⟩) hb).trans hBn) h0).mono ?_
  rintro e W' ⟨he, ⟨k, ys, h1, h2, rfl, hj⟩ | ⟨pre, hj⟩⟩
  · exact ⟨he, .inl ⟨_, ⟨k, h1, h2, rfl⟩, hj⟩⟩
  · exact ⟨he, .inr ⟨_, trivial, hj⟩⟩

theorem upto_map {α β : Type} (g : α → β) (f : Nat → α) (k : Nat) : (upto f k).map g = upto (fun j => g (f j)) k := by
  simp [upto, List.map_map, Function.comp_def]

set_option maxRecDepth 100000 in
set_option maxHeartbeats 1000000 in
theorem cut_in (n : Nat) (hn : 3 ≤ n) (b o ln c m : Nat) (l : List Fct) (w : World) (hx : Row.ok w (⟨some ⟨b, o, none⟩, ln, c, l⟩ : Row Fct)) (h1000 : ln ≤ 1000) (hm1 : 1 ≤ m) (hm2 : m ≤ 9223372036854775807) :
    CallsIn Fence.wide n Try.prog 175 #[.int .i64 m, .slice (some ⟨b, o, none⟩) ln c] w fun e w' => ∃ k, l.length ≤ k * m ∧ (k = 0 ∨ (k - 1) * m < l.length) ∧ CutPost (upto (fun j => cons ((l.drop (j * m)).take m)) k) w e w' := by
  have h1 : 1 ≤ n := by omega
  have hl : l.length = ln := hx.len
  have d : decide ((m : Int) < 1) = false := by simp; omega
  have Hx := Lib.hid hx
  have Hl := Lib.hid hl
  clear hx hl
  refine callsIn_of_wp_marks Try.func175 rfl trivial ?_ rfl
  simp only [Try.ntmps175, List.size_toArray, List.length_cons, List.length_nil, Nat.reduceAdd, Nat.reduceSub, Array.replicate_succ, Array.replicate_zero, List.push_toArray, List.append_toArray, List.nil_append, List.cons_append]
  gi_wp2_with fail
  refine ⟨trivial, ?_⟩
  refine (chunk_in (n - 1) _ _ _ m hm1 _).mono ?_; rintro e w' ⟨rfl, rfl⟩
  gi_wp2
  have bO := ((Boxed.new w 94 (.slice none 0 0)).alloc (.cells #[.slice (some ⟨b, o, none⟩) ln c] 75)).alloc (.cells #[.int .i64 m] 3)
  have bS := (Boxed.new (w.alloc (.cells #[.slice none 0 0] 94)) 75 (.slice (some ⟨b, o, none⟩) ln c)).alloc (.cells #[.int .i64 m] 3)
  have bN := Boxed.new ((w.alloc (.cells #[.slice none 0 0] 94)).alloc (.cells #[.slice (some ⟨b, o, none⟩) ln c] 75)) 3 (.int .i64 m)
  rw [World.size_alloc, World.size_alloc] at bN
  rw [World.size_alloc] at bS
  have hB0 : Bel w (((w.alloc (.cells #[.slice none 0 0] 94)).alloc (.cells #[.slice (some ⟨b, o, none⟩) ln c] 75)).alloc (.cells #[.int .i64 m] 3)) := (((Bel.refl w).alloc _).alloc _).alloc _
  have hsz : (((w.alloc (.cells #[.slice none 0 0] 94)).alloc (.cells #[.slice (some ⟨b, o, none⟩) ln c] 75)).alloc (.cells #[.int .i64 m] 3)).heap.size = w.heap.size + 3 := by simp
  generalize ((w.alloc (.cells #[.slice none 0 0] 94)).alloc (.cells #[.slice (some ⟨b, o, none⟩) ln c] 75)).alloc (.cells #[.int .i64 m] 3) = W0 at *
  have HsO := Lib.hid bO
  obtain ⟨i0, hi0, hz0, hz1, hz2⟩ := info_parts info_fcts
  have Hi0 := Lib.hid hi0
  have Hz0 := Lib.hid hz0
  have Hz1 := Lib.hid hz1
  have Hz2 := Lib.hid hz2
  clear hi0 hz0 hz1 hz2
  have P0 : Parts W0 W0 w.heap.size (.slice none 0 0) [] := ⟨bO, ⟨rfl, .inl ⟨rfl, rfl⟩⟩, by simp, by simp, by simp⟩
  have hne1 : w.heap.size + 1 < W0.heap.size := by omega
  have hne2 : w.heap.size + 1 + 1 < W0.heap.size := by omega
  have Hsz := Lib.hid hsz
  clear hsz bO
  refine wpIn_rangeFunc_ownG rfl h1 (gf := 232) (lb := #[.pointer (some ⟨w.heap.size + 1, 0, none⟩), .pointer (some ⟨w.heap.size + 1 + 1, 0, none⟩)]) rfl trivial (enters_of Try.func232 (by kernel_rfl) rfl)
    (chunk_stops (n - 1) (by omega) (w.heap.size + 1) (w.heap.size + 1 + 1) b o c ln m l w W0 Hx.out h1000 hm1 hm2 hne1 hne2 bS.cell bN.cell) KeepC.trans (fun W l o o' hl _ _ _ => keepC_putObj (by omega) (by omega)) (Below.refl _ _) (fun _ => rfl)
    (fun pre W => (∃ v rs, Parts W0 W w.heap.size v rs ∧ Hid (rs.map (fun r => cons r.l) = pre.map (fun x => cons x.1.l)) ∧ Hid (∀ r ∈ rs, r.n ≤ 1000)) ∧ Below w.heap.size w W ∧ W0.heap.size ≤ W.heap.size)
    (fun _ _ _ => False)
    (fun s A B row hs hg hr => by
      obtain ⟨⟨v, rs, h1, h2, h3⟩, h4, h5⟩ := hs
      exact ⟨⟨v, rs, h1.kept hg (fun r e => (hr r e).2), h2, h3⟩, h4.grown hg h4.size (fun k e => Nat.le_trans (by omega) (hr k e).1), Nat.le_trans h5 hg.size⟩)
    (fun _ _ _ _ _ hs _ _ => hs)
    ⟨⟨_, [], P0, rfl, fun r h => by simp at h⟩, hB0, Nat.le_refl _⟩
    (fun x => { tmps := #[.int .i64 m, .slice (some ⟨b, o, none⟩) ln c, undef, undef, .slice none 0 0, .int .i64 0, .pointer (some ⟨w.heap.size, 0, none⟩), x.1.v, .int .i64 m, .bool false, .slice (some ⟨b, o, none⟩) ln c, .int .i64 m, .func (.func 232) #[] #[.pointer (some ⟨w.heap.size + 1, 0, none⟩), .pointer (some ⟨w.heap.size + 1 + 1, 0, none⟩)], x.1.v, undef, undef, undef, undef, undef, undef], defers := [] }) ?assign ?body ?done ?stop
  case assign =>
    intro l x W K hK
    gi_wp2
    exact hK
  case body =>
    rintro lp pre x W ⟨⟨v, rs, hP, hcon, hrn⟩, hB, hW0⟩ hlt
    obtain ⟨⟨xA, xn, xc, xl⟩, hxo, hxn⟩ := x
    simp only [Row.v] at *
    have hd : 1 ≤ n - 1 - 1 := by omega
    have hmx : Try.prog.follows .mixedOrders = true := by kernel_rfl
    have hc := hP.box.cell
    have hBw : Bel w W.drew := (show Bel w W from hB).drew
    have Hxo : Hid (Row.ok W.drew (⟨xA, xn, xc, xl⟩ : Row Fct)) := hxo.mono hBw
    have hlen : rs.length = pre.length := by have := congrArg List.length hcon.out; simpa using this
    have hpl : pre.length ≤ 1000 := by have := Hl.out; omega
    have Hlen := Lib.hid hlen
    clear hlen
    have hPd : Parts W0 W.drew w.heap.size v rs := hP.keep (Bel.refl W).drew
    gi_wp2
    refine wpIn_region_any (by kernel_rfl) ?_
    refine wpAnyIn_ready (rs := [0, 1]) (by kernel_rfl) (by simp) ?_
    refine AllReadyIn.cons rfl (fun K hK => ?_) (AllReadyIn.cons rfl (fun K hK => ?_) AllReadyIn.nil)
    · go_simp
      refine hK _ _ ?_; clear hK K
      refine wpAnyIn_ready (rs := [1]) (by kernel_rfl) (by simp) ?_
      refine AllReadyIn.cons rfl (fun K hK => ?_) AllReadyIn.nil
      go_simp
      refine hK _ _ ?_; clear hK K
      refine wpAnyIn_ready (rs := [2]) (by kernel_rfl) (by simp) ?_
      refine AllReadyIn.cons rfl (fun K hK => ?_) AllReadyIn.nil
      go_simp
      refine ⟨trivial, ?_⟩
      refine (CallsIn.inRound lp (callsIn_wide.2 (clone_any ⟨xA, xn, xc, xl⟩ _ Hxo.out (by simp only at hxn ⊢; omega)))).mono ?_
      rintro e w2 ⟨cv, fs, rfl, hGa, hcons⟩
      obtain ⟨⟨yA, yn, yc, yl⟩, rfl, hyo, hyl, hyn⟩ := gath_row hGa (by have h1 := congrArg List.length hcons; rw [cons_len, cons_len] at h1; have h2 := Hxo.out.len; simp only at h1 h2 hxn; omega)
      have hP2 := hPd.keep hGa.bel
      have hP3 := hP2.keep ((Bel.refl w2).alloc (.cells #[.slice yA yn yc] 75))
      have hc2 := hP2.box.cell
      have hc3 := hP3.box.cell
      obtain ⟨v', w4, hrun, hown4, hg4, hat4⟩ := run_append_any (P := Try.prog) (w2.alloc (.cells #[.slice yA yn yc] 75)) W0.heap.size 94 94 75 i0 (.slice none 0 0) 1 24 Try.underlying94 Hi0.out Hz0.out Hz1.out Hz2.out rfl (by decide) v rs.length (rs.map Row.v) hP3.own _ (some ⟨w2.heap.size, 0, none⟩) 1 1 [.slice yA yn yc] (rd_new w2 _ _ 1 1 rfl) (by simp [Value.oneCell']) (by unfold maxLen; rw [Hlen.out]; omega) (by rw [Hlen.out]; omega) (by have := hGa.bel.size; simp at this ⊢; omega)
      obtain ⟨g', cap', rfl⟩ := ownsRow_succ hown4
      have hbx4 := hP3.box.kept hg4 (hP3.box.not_row (by decide) hP3.own)
      have hc4 := hbx4.cell
      have hf4 := hbx4.frozen
      have Hrun := Lib.hid hrun
      clear hrun
      simp only [Row.v]
      refine hK _ _ ?_; clear hK K
      refine wpAnyIn_ready (rs := [3]) (by kernel_rfl) (by simp) ?_
      refine AllReadyIn.cons rfl (fun K hK => ?_) AllReadyIn.nil
      go_simp
      refine hK _ _ ?_; clear hK K
      refine wpAnyIn_ready (rs := [4]) (by kernel_rfl) (by simp) ?_
      refine AllReadyIn.cons rfl (fun K hK => ?_) AllReadyIn.nil
      refine stepIn_append rfl (.tmp 14) (.tmp 17) _ rfl _ _ rfl rfl Hrun.out ?_
      refine hK _ _ ?_; clear hK K
      refine wpAnyIn_ready (rs := [5]) (by kernel_rfl) (by simp) ?_
      refine AllReadyIn.cons rfl (fun K hK => ?_) AllReadyIn.nil
      go_simp
      refine hK _ _ ?_; clear hK K
      refine wpAnyIn_done (by kernel_rfl) ?_ _
      obtain ⟨k1, k2, k3, k4, k5⟩ := cut_round hne1 hne2 (by omega) hP hW0 (show Bel w W from hB) hGa hyo hyl hP3 hown4 hg4 hat4 hbx4
      refine ⟨k1, k2, ⟨_, rs ++ [⟨yA, yn, yc, yl⟩], k3, ?_, ?_⟩, k4, k5⟩
      · show _ = _
        rw [List.map_append, List.map_append, hcon.out]
        have e1 : cons yl = cons xl := by have h1 : yl = fs := hyl; rw [h1]; exact hcons
        simp only [List.map_cons, List.map_nil, e1]
      · intro r hr
        rcases List.mem_append.1 hr with h | h
        · exact hrn.out r h
        · rw [List.mem_singleton] at h
          subst h
          have h1 := congrArg List.length hcons
          rw [cons_len, cons_len] at h1
          have h2 := Hxo.out.len
          simp only at h1 h2 hxn hyn ⊢
          omega
    · go_simp
      refine hK _ _ ?_; clear hK K
      refine wpAnyIn_ready (rs := [0, 2]) (by kernel_rfl) (by simp) ?_
      refine AllReadyIn.cons rfl (fun K hK => ?_) (AllReadyIn.cons rfl (fun K hK => ?_) AllReadyIn.nil)
      · go_simp
        refine hK _ _ ?_; clear hK K
        refine wpAnyIn_ready (rs := [2]) (by kernel_rfl) (by simp) ?_
        refine AllReadyIn.cons rfl (fun K hK => ?_) AllReadyIn.nil
        go_simp
        refine ⟨trivial, ?_⟩
        refine (CallsIn.inRound lp (callsIn_wide.2 (clone_any ⟨xA, xn, xc, xl⟩ _ Hxo.out (by simp only at hxn ⊢; omega)))).mono ?_
        rintro e w2 ⟨cv, fs, rfl, hGa, hcons⟩
        obtain ⟨⟨yA, yn, yc, yl⟩, rfl, hyo, hyl, hyn⟩ := gath_row hGa (by have h1 := congrArg List.length hcons; rw [cons_len, cons_len] at h1; have h2 := Hxo.out.len; simp only at h1 h2 hxn; omega)
        have hP2 := hPd.keep hGa.bel
        have hP3 := hP2.keep ((Bel.refl w2).alloc (.cells #[.slice yA yn yc] 75))
        have hc2 := hP2.box.cell
        have hc3 := hP3.box.cell
        obtain ⟨v', w4, hrun, hown4, hg4, hat4⟩ := run_append_any (P := Try.prog) (w2.alloc (.cells #[.slice yA yn yc] 75)) W0.heap.size 94 94 75 i0 (.slice none 0 0) 1 24 Try.underlying94 Hi0.out Hz0.out Hz1.out Hz2.out rfl (by decide) v rs.length (rs.map Row.v) hP3.own _ (some ⟨w2.heap.size, 0, none⟩) 1 1 [.slice yA yn yc] (rd_new w2 _ _ 1 1 rfl) (by simp [Value.oneCell']) (by unfold maxLen; rw [Hlen.out]; omega) (by rw [Hlen.out]; omega) (by have := hGa.bel.size; simp at this ⊢; omega)
        obtain ⟨g', cap', rfl⟩ := ownsRow_succ hown4
        have hbx4 := hP3.box.kept hg4 (hP3.box.not_row (by decide) hP3.own)
        have hc4 := hbx4.cell
        have hf4 := hbx4.frozen
        have Hrun := Lib.hid hrun
        clear hrun
        simp only [Row.v]
        refine hK _ _ ?_; clear hK K
        refine wpAnyIn_ready (rs := [3]) (by kernel_rfl) (by simp) ?_
        refine AllReadyIn.cons rfl (fun K hK => ?_) AllReadyIn.nil
        go_simp
        refine hK _ _ ?_; clear hK K
        refine wpAnyIn_ready (rs := [4]) (by kernel_rfl) (by simp) ?_
        refine AllReadyIn.cons rfl (fun K hK => ?_) AllReadyIn.nil
        refine stepIn_append rfl (.tmp 14) (.tmp 17) _ rfl _ _ rfl rfl Hrun.out ?_
        refine hK _ _ ?_; clear hK K
        refine wpAnyIn_ready (rs := [5]) (by kernel_rfl) (by simp) ?_
        refine AllReadyIn.cons rfl (fun K hK => ?_) AllReadyIn.nil
        go_simp
        refine hK _ _ ?_; clear hK K
        refine wpAnyIn_done (by kernel_rfl) ?_ _
        obtain ⟨k1, k2, k3, k4, k5⟩ := cut_round hne1 hne2 (by omega) hP hW0 (show Bel w W from hB) hGa hyo hyl hP3 hown4 hg4 hat4 hbx4
        refine ⟨k1, k2, ⟨_, rs ++ [⟨yA, yn, yc, yl⟩], k3, ?_, ?_⟩, k4, k5⟩
        · show _ = _
          rw [List.map_append, List.map_append, hcon.out]
          have e1 : cons yl = cons xl := by have h1 : yl = fs := hyl; rw [h1]; exact hcons
          simp only [List.map_cons, List.map_nil, e1]
        · intro r hr
          rcases List.mem_append.1 hr with h | h
          · exact hrn.out r h
          · rw [List.mem_singleton] at h
            subst h
            have h1 := congrArg List.length hcons
            rw [cons_len, cons_len] at h1
            have h2 := Hxo.out.len
            simp only at h1 h2 hxn hyn ⊢
            omega
      · skip
        go_simp
        refine ⟨trivial, ?_⟩
        refine (CallsIn.inRound lp (callsIn_wide.2 (clone_any ⟨xA, xn, xc, xl⟩ _ Hxo.out (by simp only at hxn ⊢; omega)))).mono ?_
        rintro e w2 ⟨cv, fs, rfl, hGa, hcons⟩
        obtain ⟨⟨yA, yn, yc, yl⟩, rfl, hyo, hyl, hyn⟩ := gath_row hGa (by have h1 := congrArg List.length hcons; rw [cons_len, cons_len] at h1; have h2 := Hxo.out.len; simp only at h1 h2 hxn; omega)
        have hP2 := hPd.keep hGa.bel
        have hP3 := hP2.keep ((Bel.refl w2).alloc (.cells #[.slice yA yn yc] 75))
        have hc2 := hP2.box.cell
        have hc3 := hP3.box.cell
        obtain ⟨v', w4, hrun, hown4, hg4, hat4⟩ := run_append_any (P := Try.prog) (w2.alloc (.cells #[.slice yA yn yc] 75)) W0.heap.size 94 94 75 i0 (.slice none 0 0) 1 24 Try.underlying94 Hi0.out Hz0.out Hz1.out Hz2.out rfl (by decide) v rs.length (rs.map Row.v) hP3.own _ (some ⟨w2.heap.size, 0, none⟩) 1 1 [.slice yA yn yc] (rd_new w2 _ _ 1 1 rfl) (by simp [Value.oneCell']) (by unfold maxLen; rw [Hlen.out]; omega) (by rw [Hlen.out]; omega) (by have := hGa.bel.size; simp at this ⊢; omega)
        obtain ⟨g', cap', rfl⟩ := ownsRow_succ hown4
        have hbx4 := hP3.box.kept hg4 (hP3.box.not_row (by decide) hP3.own)
        have hc4 := hbx4.cell
        have hf4 := hbx4.frozen
        have Hrun := Lib.hid hrun
        clear hrun
        simp only [Row.v]
        refine hK _ _ ?_; clear hK K
        refine wpAnyIn_ready (rs := [0, 3]) (by kernel_rfl) (by simp) ?_
        refine AllReadyIn.cons rfl (fun K hK => ?_) (AllReadyIn.cons rfl (fun K hK => ?_) AllReadyIn.nil)
        · go_simp
          refine hK _ _ ?_; clear hK K
          refine wpAnyIn_ready (rs := [3]) (by kernel_rfl) (by simp) ?_
          refine AllReadyIn.cons rfl (fun K hK => ?_) AllReadyIn.nil
          go_simp
          refine hK _ _ ?_; clear hK K
          refine wpAnyIn_ready (rs := [4]) (by kernel_rfl) (by simp) ?_
          refine AllReadyIn.cons rfl (fun K hK => ?_) AllReadyIn.nil
          refine stepIn_append rfl (.tmp 14) (.tmp 17) _ rfl _ _ rfl rfl Hrun.out ?_
          refine hK _ _ ?_; clear hK K
          refine wpAnyIn_ready (rs := [5]) (by kernel_rfl) (by simp) ?_
          refine AllReadyIn.cons rfl (fun K hK => ?_) AllReadyIn.nil
          go_simp
          refine hK _ _ ?_; clear hK K
          refine wpAnyIn_done (by kernel_rfl) ?_ _
          obtain ⟨k1, k2, k3, k4, k5⟩ := cut_round hne1 hne2 (by omega) hP hW0 (show Bel w W from hB) hGa hyo hyl hP3 hown4 hg4 hat4 hbx4
          refine ⟨k1, k2, ⟨_, rs ++ [⟨yA, yn, yc, yl⟩], k3, ?_, ?_⟩, k4, k5⟩
          · show _ = _
            rw [List.map_append, List.map_append, hcon.out]
            have e1 : cons yl = cons xl := by have h1 : yl = fs := hyl; rw [h1]; exact hcons
            simp only [List.map_cons, List.map_nil, e1]
          · intro r hr
            rcases List.mem_append.1 hr with h | h
            · exact hrn.out r h
            · rw [List.mem_singleton] at h
              subst h
              have h1 := congrArg List.length hcons
              rw [cons_len, cons_len] at h1
              have h2 := Hxo.out.len
              simp only at h1 h2 hxn hyn ⊢
              omega
        · go_simp
          refine hK _ _ ?_; clear hK K
          refine wpAnyIn_ready (rs := [0]) (by kernel_rfl) (by simp) ?_
          refine AllReadyIn.cons rfl (fun K hK => ?_) AllReadyIn.nil
          go_simp
          refine hK _ _ ?_; clear hK K
          refine wpAnyIn_ready (rs := [4]) (by kernel_rfl) (by simp) ?_
          refine AllReadyIn.cons rfl (fun K hK => ?_) AllReadyIn.nil
          refine stepIn_append rfl (.tmp 14) (.tmp 17) _ rfl _ _ rfl rfl Hrun.out ?_
          refine hK _ _ ?_; clear hK K
          refine wpAnyIn_ready (rs := [5]) (by kernel_rfl) (by simp) ?_
          refine AllReadyIn.cons rfl (fun K hK => ?_) AllReadyIn.nil
          go_simp
          refine hK _ _ ?_; clear hK K
          refine wpAnyIn_done (by kernel_rfl) ?_ _
          obtain ⟨k1, k2, k3, k4, k5⟩ := cut_round hne1 hne2 (by omega) hP hW0 (show Bel w W from hB) hGa hyo hyl hP3 hown4 hg4 hat4 hbx4
          refine ⟨k1, k2, ⟨_, rs ++ [⟨yA, yn, yc, yl⟩], k3, ?_, ?_⟩, k4, k5⟩
          · show _ = _
            rw [List.map_append, List.map_append, hcon.out]
            have e1 : cons yl = cons xl := by have h1 : yl = fs := hyl; rw [h1]; exact hcons
            simp only [List.map_cons, List.map_nil, e1]
          · intro r hr
            rcases List.mem_append.1 hr with h | h
            · exact hrn.out r h
            · rw [List.mem_singleton] at h
              subst h
              have h1 := congrArg List.length hcons
              rw [cons_len, cons_len] at h1
              have h2 := Hxo.out.len
              simp only at h1 h2 hxn hyn ⊢
              omega
  case done =>
    rintro D ys W hD ⟨k, hk1, hk2, rfl⟩ ⟨⟨v, rs, hP, hcon, hrn⟩, hB, hW0⟩ hK
    have hc := hP.box.cell
    gi_wp2
    refine ⟨by simp, .inl ⟨_, _, rfl, run_takeDeferred hK, ?_⟩⟩
    refine ⟨.tuple #[v, .int .i64 0], ?_, k, hk1, hk2, v, rs, rfl, ?_, ?_, ?_, ?_⟩
    · kernel_rfl
    · have hq := ownsRow_putObj hP.own (.deferred none) hK rfl
      refine ⟨hq.1, ?_⟩
      rcases hq.2 with h0 | ⟨g, cap, cur, q1, q2, q3⟩
      · exact .inl h0
      · exact .inr ⟨g, cap, cur, q1, Nat.le_trans hB0.size q2, q3⟩
    · have hP' := hP.kept (grownBy_putObj' W D (.deferred none)) (fun r e => by injection e with e; subst e; exact ⟨_, hK, rfl⟩)
      exact fun r hr => ⟨hP'.ok r hr, hrn.out r hr, hP'.offV r hr⟩
    · rw [hcon.out, upto_map]; rfl
    · exact Below.trans hB (belowK_b (w := w) (Nat.le_refl _) W D _ _ (show w.heap.size ≤ D by omega) hK rfl rfl)
  case stop =>
    rintro D c pre W _ _ h _
    exact h.elim

end Go.Proofs.Ytnekknemjhlgdaa
