/- Texts laid together: XNodM XNodP XNodA XNodB XNodC XNodD. -/
import Derived.Test.YtlclllkjnhgbjaaShp
import Derived.Test.YtlclllkjnhgbjaaBg
import Derived.Test.YtlclllkjnhgbjaaAggN

namespace Go.Proofs.Ytlclllkjnhgbjaa
open Go.RowKit Go.ChangeShapes Go.WideShapes Go.Deep
set_option linter.unusedVariables false
set_option linter.unusedSimpArgs false


/-- A cell. -/
structure Cl where
  key : Int
  ch : Int
  ag : Ag
deriving DecidableEq
abbrev Cl.cs (c : Cl) : Array Value := #[.int .i64 c.key, .int .i64 c.ch, .int .i64 c.ag.c, .int .i64 c.ag.p.s, .int .i64 c.ag.p.mn, .int .i64 c.ag.p.mx, .int .i64 c.ag.q.s, .int .i64 c.ag.q.mn, .int .i64 c.ag.q.mx, .int .i64 c.ag.r.s, .int .i64 c.ag.r.mn, .int .i64 c.ag.r.mx]
structure Cl.ok (c : Cl) : Prop where
  key : I64 c.key
  ch : I64 c.ch
  ag : c.ag.ok
theorem cl_ag (c : Cl) : c.cs.toList = .int .i64 c.key :: .int .i64 c.ch :: c.ag.cs.toList := rfl
theorem cl_one (c : Cl) : c.cs.all (·.oneCell') = true := by simp [Value.oneCell']
instance instCelCl : Cel Cl where
  size := 12
  bytes := 96
  cells c := c.cs.toList
  ok w c := c.ok
  len _ := rfl
  pos := by omega
  mono _ h := h
abbrev Cl.nil : Cl := ⟨0, 0, .zero⟩
theorem z_i64 : I64 0 := by unfold I64; omega
theorem ag_zero_ok : Ag.zero.ok := ⟨z_i64, ⟨z_i64, z_i64, z_i64⟩, ⟨z_i64, z_i64, z_i64⟩, ⟨z_i64, z_i64, z_i64⟩⟩
theorem rowCl : RowTy Try.prog 32 12 := ⟨⟨_, Try.underlying32, rfl⟩, by kernel_rfl⟩
theorem E_cl : ElemInfo Try.prog 44 32 12 96 := ElemInfo.mk' (z := .agg #[.int .i64 0, .int .i64 0, .int .i64 0, .int .i64 0, .int .i64 0, .int .i64 0, .int .i64 0, .int .i64 0, .int .i64 0, .int .i64 0, .int .i64 0, .int .i64 0]) Try.underlying44 (by kernel_rfl) rfl (by omega)
theorem E_cls : ElemInfo Try.prog 25 44 1 24 := ElemInfo.mk' (z := .slice none 0 0) Try.underlying25 (by kernel_rfl) rfl (by omega)
set_option maxRecDepth 100000 in
theorem c_cl : Try.prog.cellsOf 32 = 12 := by kernel_rfl
set_option maxRecDepth 100000 in
theorem c_cls : Try.prog.cellsOf 44 = 1 := by kernel_rfl
set_option maxRecDepth 100000 in
theorem c_clss : Try.prog.cellsOf 25 = 1 := by kernel_rfl
set_option maxRecDepth 100000 in
theorem c_nd : Try.prog.cellsOf 34 = 14 := by kernel_rfl
theorem opens_cl : Opens Try.prog 32 Cl := by
  intro H enc w base spare held fuel cs x h hz
  have hl := struct_len Try.underlying32 h c_cl
  obtain ⟨k, hk, ok1⟩ := field_of Try.underlying32 h hz 0 _ rfl (opens_i64 Try.underlying3) c_int
  obtain ⟨c, hc, ok2⟩ := field_of Try.underlying32 h hz 1 _ rfl (opens_i64 Try.underlying3) c_int
  obtain ⟨a, ha, ok3⟩ := field_of Try.underlying32 h hz 2 _ rfl opens_agg cells_agg
  refine ⟨⟨k, c, a⟩, ?_, ⟨ok1, ok2, ok3⟩⟩
  show cs = .int .i64 k :: .int .i64 c :: a.cs.toList
  match cs, hl with
  | x :: y :: r, hl =>
    have h1 : x = .int .i64 k := by simpa [Cel.cells] using hk
    have h2 : y = .int .i64 c := by simpa [Cel.cells] using hc
    have h3 : r = a.cs.toList := by
      have ha' : r.take 10 = a.cs.toList := ha
      rw [List.take_of_length_le (by simp at hl; omega)] at ha'
      exact ha'
    subst h1 h2 h3
    rfl
theorem opens_cls : Opens Try.prog 44 (Row Cl) := opens_row Try.underlying44 c_cl (by kernel_rfl) opens_cl
theorem opens_clss : Opens Try.prog 25 (Row (Row Cl)) := opens_row Try.underlying25 c_cls (by kernel_rfl) opens_cls
/-- A node. -/
structure Nd where
  dim : Int
  ls : Row (Row Cl)
  all : Cl
abbrev Nd.cs (n : Nd) : Array Value := #[.int .i64 n.dim, .slice n.ls.A n.ls.n n.ls.c, .int .i64 n.all.key, .int .i64 n.all.ch, .int .i64 n.all.ag.c, .int .i64 n.all.ag.p.s, .int .i64 n.all.ag.p.mn, .int .i64 n.all.ag.p.mx, .int .i64 n.all.ag.q.s, .int .i64 n.all.ag.q.mn, .int .i64 n.all.ag.q.mx, .int .i64 n.all.ag.r.s, .int .i64 n.all.ag.r.mn, .int .i64 n.all.ag.r.mx]
structure Nd.rd (w : World) (n : Nd) : Prop where
  dim : I64 n.dim
  ls : n.ls.rd w
  all : n.all.ok
  lb : n.ls.n ≤ 140737488351232
theorem Nd.rd.mono {w w' : World} {n : Nd} (h : n.rd w) (hb : Bel w w') : n.rd w' := ⟨h.dim, h.ls.mono hb, h.all, h.lb⟩
theorem nd_all (n : Nd) : n.cs.toList = .int .i64 n.dim :: .slice n.ls.A n.ls.n n.ls.c :: n.all.cs.toList := rfl
theorem nd_one (n : Nd) : n.cs.all (·.oneCell') = true := by simp [Value.oneCell']
instance instCelNd : Cel Nd where
  size := 14
  bytes := 128
  cells n := n.cs.toList
  ok w n := n.rd w
  len _ := rfl
  pos := by omega
  mono hb h := h.mono hb
/-- What it says. -/
structure NC where
  dim : Int
  ls : List (List Cl)
  all : Cl
deriving DecidableEq
abbrev Nd.con (n : Nd) : NC := ⟨n.dim, n.ls.l.map Row.l, n.all⟩
abbrev Nd.nil : Nd := ⟨0, ⟨none, 0, 0, []⟩, .nil⟩
abbrev NC.nil : NC := ⟨0, [], .nil⟩
theorem rowNd : RowTy Try.prog 34 14 := ⟨⟨_, Try.underlying34, rfl⟩, by kernel_rfl⟩
theorem E_nd : ElemInfo Try.prog 37 34 14 128 := ElemInfo.mk' (z := .agg #[.int .i64 0, .slice none 0 0, .int .i64 0, .int .i64 0, .int .i64 0, .int .i64 0, .int .i64 0, .int .i64 0, .int .i64 0, .int .i64 0, .int .i64 0, .int .i64 0, .int .i64 0, .int .i64 0]) Try.underlying37 (by kernel_rfl) rfl (by omega)
theorem opens_nd : Opens Try.prog 34 Nd := by
  intro H enc w base spare held fuel cs x h hz
  have hl := struct_len Try.underlying34 h c_nd
  obtain ⟨k, hk, ok1⟩ := field_of Try.underlying34 h hz 0 _ rfl (opens_i64 Try.underlying3) c_int
  obtain ⟨c, hc, ok2⟩ := field_of Try.underlying34 h hz 1 _ rfl opens_clss c_clss
  obtain ⟨a, ha, ok3⟩ := field_of Try.underlying34 h hz 2 _ rfl opens_cl c_cl
  refine ⟨⟨k, c, a⟩, ?_, ⟨ok1, Row.ok.rds ok2, ok3, by have h := ok2.reach; have e : Cel.bytes (Row Cl) = 24 := rfl; rw [e] at h; simp only; omega⟩⟩
  show cs = .int .i64 k :: .slice c.A c.n c.c :: a.cs.toList
  match cs, hl with
  | x :: y :: r, hl =>
    have h1 : x = .int .i64 k := by simpa [Cel.cells] using hk
    have h2 : y = .slice c.A c.n c.c := by simpa [Cel.cells, Row.v] using hc
    have h3 : r = a.cs.toList := by
      have ha' : r.take 12 = a.cs.toList := ha
      rw [List.take_of_length_le (by simp at hl; omega)] at ha'
      exact ha'
    subst h1 h2 h3
    rfl
set_option maxRecDepth 100000 in
theorem open_nds {H : Type} {enc : TypeId × Value → H} {w : World} {base b0 : Nat} {spare : Nat → Bool} {held : Bool} {r : Reach} {v : Value} {d : DataW H} {p : List MemPlace}
    (hv : Value.okWide Try.prog w r b0 37 v) (h : DataW.Trod enc Try.prog w base spare held 37 v d p) (hz : Sized Try.prog 37 d) : ∃ x : Row Nd, v = x.v ∧ x.ok w := open_row Try.underlying37 c_nd (by kernel_rfl) opens_nd hv h hz
theorem Row.rd.ndAt {w : World} {x : Row Nd} (h : x.rd w) {k : Nat} (hk : k < x.n) : ∃ b o t, x.A = some ⟨b, o, none⟩ ∧ b < w.heap.size ∧ x.l[k]? = some t ∧ t.rd w ∧ w.rangeAt b (o + k * 14) t.cs.toList := by
  obtain ⟨b, o, t, e, hb, ht, hc⟩ := rd_range h.r hk
  exact ⟨b, o, t, e, hb, ht, h.all t (List.mem_of_getElem? ht), hc⟩
theorem Row.rd.clAt {w : World} {x : Row Cl} (h : x.rd w) {k : Nat} (hk : k < x.n) : ∃ b o t, x.A = some ⟨b, o, none⟩ ∧ b < w.heap.size ∧ x.l[k]? = some t ∧ t.ok ∧ w.rangeAt b (o + k * 12) t.cs.toList := by
  obtain ⟨b, o, t, e, hb, ht, hc⟩ := rd_range h.r hk
  exact ⟨b, o, t, e, hb, ht, h.all t (List.mem_of_getElem? ht), hc⟩
theorem Row.rd.clsAt {w : World} {x : Row (Row Cl)} (h : x.rd w) {k : Nat} (hk : k < x.n) : ∃ b o y, x.A = some ⟨b, o, none⟩ ∧ x.l[k]? = some y ∧ y.ok w ∧ w.cell? ⟨b, o + k, none⟩ = some (.slice y.A y.n y.c) := by
  obtain ⟨b, o, y, e, hy, hc⟩ := rd_cell rfl h.r hk
  exact ⟨b, o, y, e, hy, h.all y (List.mem_of_getElem? hy), hc _ rfl⟩
theorem rdCls {x : Row Cl} {w : World} (h : x.ok w) : x.n ≤ 1466015503700 := by have := h.reach; have e : Cel.bytes Cl = 96 := rfl; rw [e] at this; omega

end Go.Proofs.Ytlclllkjnhgbjaa

namespace Go.Proofs.Ytlclllkjnhgbjaa
open Go.RowKit
set_option linter.unusedVariables false

/-- May a cell stand in a dimension, of so many, of so many measures? -/
def cellOk (nd : Nat) (ms dim : Int) (c : Cl) : Bool := if dim = (nd : Int) - 1 then decide (c.ch = 0) && mayAg ms c.ag else decide (0 ≤ c.ch) && decide (c.ag = .zero)
def cellAt (nd : Nat) (ms dim size : Int) (l : List Cl) (i : Nat) : Int :=
  match l[i]? with
  | none => 0
  | some c => if c.key < 0 ∨ size ≤ c.key then 13 else if 0 < i ∧ c.key ≤ ((l[i - 1]?).getD .nil).key then 4 else if cellOk nd ms dim c = false then 2 else 0
def listErr (nd : Nat) (ms dim size : Int) (l : List Cl) : Int := if l.length = 0 then 2 else firstErr (cellAt nd ms dim size l) l.length 0
def listAt (nd : Nat) (ms dim : Int) (sz : List Int) (ls : List (List Cl)) (k : Nat) : Int :=
  match ls[k]?, sz[k]? with
  | some l, some size => if listErr nd ms dim size l ≠ 0 then listErr nd ms dim size l else if 0 < k ∧ ((ls[k - 1]?).getD []).length < l.length then 14 else 0
  | _, _ => 0
def nodeErr (xs : List (List Int)) (ms : Int) (n : NC) : Int :=
  if n.dim < 0 then 2 else
  match xs[n.dim.toNat]? with
  | none => 2
  | some sz => if sz.length = 0 ∨ n.ls.length ≠ sz.length then 2 else
    if firstErr (listAt xs.length ms n.dim sz n.ls) n.ls.length 0 ≠ 0 then firstErr (listAt xs.length ms n.dim sz n.ls) n.ls.length 0 else
    if n.all.key ≠ 0 ∨ cellOk xs.length ms n.dim n.all = false then 2 else 0
def eachN (n : NC) : List Cl := n.ls.flatten ++ [n.all]
/-- Is what a cell leads to there, one dimension on? -/
def aheadC (l : List NC) (dim : Int) (c : Cl) : Bool := match l[c.ch.toNat]? with | none => false | some n => decide (n.dim = dim + 1)
def leadsN (nd : Nat) (l : List NC) (n : NC) : Bool := decide (n.dim = (nd : Int) - 1) || (eachN n).all (aheadC l n.dim)
def addErr (xs : List (List Int)) (ms most : Int) (l : List NC) (n : NC) : Int :=
  if nodeErr xs ms n ≠ 0 then nodeErr xs ms n else if leadsN xs.length l n = false then 9 else if most ≤ (l.length : Int) then 7 else 0
def ledTo (nd : Nat) (l : List NC) (i : Nat) : Bool := l.any fun n => decide (n.dim ≠ (nd : Int) - 1) && (eachN n).any fun c => decide (c.ch = (i : Int))
def wholeC (nd : Nat) (l : List NC) : Bool := match l.getLast? with | none => true | some n => decide (n.dim = 0) && (List.range (l.length - 1)).all (ledTo nd l)
def tierShape (l : List Int) : Bool := decide (1 ≤ l.length) && decide (l.length ≤ 4) && (List.range l.length).all fun k => decide (1 ≤ (l[k]?).getD 0) && decide ((l[k]?).getD 0 ≤ 200) && (decide (k = 0) || decide ((l[k]?).getD 0 ≤ (l[k - 1]?).getD 0))
def shapeOk (xs : List (List Int)) (ms : Int) : Bool := decide (1 ≤ xs.length) && decide (xs.length ≤ 16) && decide (1 ≤ ms) && decide (ms ≤ 3) && xs.all tierShape

end Go.Proofs.Ytlclllkjnhgbjaa

namespace Go.Proofs.Ytlclllkjnhgbjaa
open Go.RowKit
set_option linter.unusedVariables false
set_option linter.unusedSimpArgs false


theorem wpList_load_rowG {P : Program} {ops : Array Oper} {rest : List Oper} {op : Oper} {a : Act} {w : World} {Q : Exit → Act → World → Prop} (hw : Region.wanted op (yielded ops a.tmps) = true) {ty : TypeId} {n : Nat} (R : RowTy P ty n) (x : Operand) (ho : op.op = .load ty x)
    (b o : Nat) (hx : a.eval x = .pointer (some ⟨b, o, none⟩)) (cs : Array Value) (hn : cs.size = n) (hc : w.rangeAt b o cs.toList)
    (h : wpList P ops Q rest (a.put op.dst (.agg cs)) w) : wpList P ops Q (op :: rest) a w := by
  obtain ⟨d, hu, hd⟩ := R.hu
  refine wpList_step fun K hK => ?_
  rw [if_pos hw]
  exact wp_load_mid ty x ho b o hx cs.toList d hc hu hd (by rw [R.hi]; simp [hn]) (hK _ _ (by simpa using h))
set_option maxRecDepth 100000 in
theorem last_any (s : Shp) (d : Int) (w : World) (hs : s.rd w) (hd : I64 d) :
    Calls Try.prog 69 #[.agg s.cs, .int .i64 d] w fun e w' => e = .returned (.bool (d == (s.sz.n : Int) - 1)) ∧ Bel w w' := by
  have H := Lib.hid ((SL.start No w).alloc s.cs 24)
  (try simp only [List.set_cons_zero, List.set_cons_succ, List.cons_append, List.nil_append, List.eraseIdx_cons_zero, List.eraseIdx_cons_succ, List.setIfInBounds_toArray, World.size_alloc, selR, List.getD_cons_zero, List.getD_cons_succ] at H)
  have n63 := hs.sz.n63
  clear hs
  go_enter Try.func69, Try.ntmps69
  go_upto_region 1 with fail
  generalize w.heap.size = x at *
  generalize World.alloc w _ = w1 at *
  have c0 : w1.cell? ⟨x, 0, none⟩ = some (.slice s.sz.A s.sz.n s.sz.c) := (H.out.blk 0 rfl).cell 0
  go_wp2
  go_ret
  exact ⟨rfl, H.out.to⟩
set_option maxRecDepth 100000 in
set_option maxHeartbeats 2000000 in
theorem ncell_any (s : Shp) (d : Int) (c : Cl) (w : World) (hs : s.rd w) (hd : I64 d) (hc : c.ok) :
    Calls Try.prog 67 #[.agg s.cs, .int .i64 d, .agg c.cs] w fun e w' => e = .returned (.bool (cellOk s.sz.n s.ms d c)) ∧ Bel w w' := by
  have HL := Lib.hid (fun w' (hb : Bel w w') => last_any s d w' (hs.mono hb) hd)
  have HM := Lib.hid (fun w' => may_any c.ag s.ms w' hs.ms)
  have H := Lib.hid (((SL.start No w).alloc s.cs 24).alloc c.cs 32)
  (try simp only [List.set_cons_zero, List.set_cons_succ, List.cons_append, List.nil_append, List.eraseIdx_cons_zero, List.eraseIdx_cons_succ, List.setIfInBounds_toArray, World.size_alloc, selR, List.getD_cons_zero, List.getD_cons_succ] at H)
  have n63 := hs.sz.n63
  have hcs : s.cs = #[.slice s.sz.A s.sz.n s.sz.c, .int .i64 s.ms] := rfl
  have HCS := Lib.hid hcs
  clear hcs
  have hR : Hid (cellOk s.sz.n s.ms d c = if d = (s.sz.n : Int) - 1 then decide (c.ch = 0) && mayAg s.ms c.ag else decide (0 ≤ c.ch) && decide (c.ag = .zero)) := rfl
  generalize cellOk s.sz.n s.ms d c = R at *
  clear hs hc
  go_enter Try.func67, Try.ntmps67
  go_upto_region 1 with fail
  rw [← HCS.out] at *
  generalize w.heap.size + 1 = y at *
  generalize w.heap.size = x at *
  generalize World.alloc (World.alloc _ _) _ = w1 at *
  go_wp2_with ((with_reducible show wpList _ _ _ (⟨some 7, _, _, _, _, _⟩ :: _) _ _); (refine wpList_load_blk rfl rowShp2 (.tmp 3) rfl _ rfl (H.out.blk 0 rfl) rfl ?_))
  refine (HL.out _ H.out.to).mono ?_; rintro e w2 ⟨rfl, hb2⟩
  replace H := Lib.hid (H.out.bel hb2); (try simp only [List.set_cons_zero, List.set_cons_succ, List.cons_append, List.nil_append, List.eraseIdx_cons_zero, List.eraseIdx_cons_succ, List.setIfInBounds_toArray, World.size_alloc, selR, List.getD_cons_zero, List.getD_cons_succ] at H)
  clear hb2 HL
  have HAG : Hid (w2.rangeAt y 2 c.ag.cs.toList) := fun j v hv => by
    have := (H.out.blk 1 rfl).range (j + 2) v (by rw [cl_ag]; exact hv)
    rw [show 0 + (j + 2) = 2 + j by omega] at this
    exact this
  have c1 : w2.cell? ⟨y, 1, none⟩ = some (.int .i64 c.ch) := (H.out.blk 1 rfl).cell 1
  have cm : w2.cell? ⟨x, 1, none⟩ = some (.int .i64 s.ms) := (H.out.blk 0 rfl).cell 1
  cases hl : (d == (s.sz.n : Int) - 1) with
  | true =>
    have hR2 : Hid (R = (decide (c.ch = 0) && mayAg s.ms c.ag)) := by show _ = _; rw [hR.out, if_pos (by simpa using hl)]
    clear hR 
    by_cases h0 : c.ch = 0
    · have e0 : (c.ch == 0) = true := by simpa using h0
      have hR3 : Hid (R = mayAg s.ms c.ag) := by show _ = _; rw [hR2.out]; simp [h0]
      clear hR2 h0
      go_wp2_with ((with_reducible show wpList _ _ _ (⟨some 17, _, _, _, _, _⟩ :: _) _ _); refine wpList_load_rowG (by first | rfl | go_simp) rowAg (.tmp 16) (by rfl) y 2 (by rfl) c.ag.cs rfl HAG.out ?_)
      refine (HM.out _).mono ?_; rintro e w3 ⟨rfl, hb3⟩
      replace H := Lib.hid (H.out.bel hb3); (try simp only [List.set_cons_zero, List.set_cons_succ, List.cons_append, List.nil_append, List.eraseIdx_cons_zero, List.eraseIdx_cons_succ, List.setIfInBounds_toArray, World.size_alloc, selR, List.getD_cons_zero, List.getD_cons_succ] at H)
      clear hb3
      go_wp2_with fail
      go_ret
      rw [hR3.out]
      exact ⟨rfl, H.out.to⟩
    · have e0 : (c.ch == 0) = false := by simpa using h0
      have hR3 : Hid (R = false) := by show _ = _; rw [hR2.out]; simp [h0]
      clear hR2 h0
      go_wp2_with fail
      go_ret
      rw [hR3.out]
      exact ⟨rfl, H.out.to⟩
  | false =>
    have hR2 : Hid (R = (decide (0 ≤ c.ch) && decide (c.ag = .zero))) := by show _ = _; rw [hR.out, if_neg (by simpa using hl)]
    clear hR
    by_cases h0 : 0 ≤ c.ch
    · have e0 : decide (0 ≤ c.ch) = true := by simpa using h0
      have hR3 : Hid (R = decide (c.ag = .zero)) := by show _ = _; rw [hR2.out]; simp [h0]
      have hb0 : ∀ w : World, (Instr.build 30 #[]).run Try.prog w = .ok (.agg Ag.zero.cs) w := fun _ => by kernel_rfl
      clear hR2 h0
      go_wp2_with (first | ((with_reducible show wpList _ _ _ (⟨some 25, _, _, _, _, _⟩ :: _) _ _); refine wpList_load_rowG (by first | rfl | go_simp) rowAg (.tmp 24) (by rfl) y 2 (by rfl) c.ag.cs rfl HAG.out ?_) | ((with_reducible show wpList _ _ _ (⟨some 27, _, _, _, _, _⟩ :: _) _ _); (refine wpList_cmp_row (by first | rfl | go_simp) .eql 30 30 (.tmp 25) (.tmp 26) (by rfl) (by rfl) (by rfl) guard_ag (eqv_ag c.ag Ag.zero _) ?_)))
      go_ret
      rw [hR3.out]
      exact ⟨rfl, H.out.to⟩
    · have e0 : decide (0 ≤ c.ch) = false := by simpa using h0
      have hR3 : Hid (R = false) := by show _ = _; rw [hR2.out]; simp [h0]
      clear hR2 h0
      go_wp2_with fail
      go_ret
      rw [hR3.out]
      exact ⟨rfl, H.out.to⟩
set_option maxRecDepth 100000 in
set_option maxHeartbeats 2000000 in
theorem rcell_any (s : Shp) (d : Int) (c : Cl) (w : World) (hs : s.rd w) (hd : I64 d) (hc : c.ok) :
    Calls Try.prog 38 #[.agg s.cs, .int .i64 d, .agg c.cs] w fun e w' => e = .returned (.bool (cellOk s.sz.n s.ms d c)) ∧ Bel w w' := by
  have HL := Lib.hid (fun w' (hb : Bel w w') => last_any s d w' (hs.mono hb) hd)
  have HM := Lib.hid (fun w' => rmay_any c.ag s.ms w' hs.ms)
  have H := Lib.hid (((SL.start No w).alloc s.cs 24).alloc c.cs 32)
  (try simp only [List.set_cons_zero, List.set_cons_succ, List.cons_append, List.nil_append, List.eraseIdx_cons_zero, List.eraseIdx_cons_succ, List.setIfInBounds_toArray, World.size_alloc, selR, List.getD_cons_zero, List.getD_cons_succ] at H)
  have n63 := hs.sz.n63
  have hcs : s.cs = #[.slice s.sz.A s.sz.n s.sz.c, .int .i64 s.ms] := rfl
  have HCS := Lib.hid hcs
  clear hcs
  have hR : Hid (cellOk s.sz.n s.ms d c = if d = (s.sz.n : Int) - 1 then decide (c.ch = 0) && mayAg s.ms c.ag else decide (0 ≤ c.ch) && decide (c.ag = .zero)) := rfl
  generalize cellOk s.sz.n s.ms d c = R at *
  clear hs hc
  go_enter Try.func38, Try.ntmps38
  go_upto_region 1 with fail
  rw [← HCS.out] at *
  generalize w.heap.size + 1 = y at *
  generalize w.heap.size = x at *
  generalize World.alloc (World.alloc _ _) _ = w1 at *
  have cs0 : w1.cell? ⟨x, 0, none⟩ = some (.slice s.sz.A s.sz.n s.sz.c) := (H.out.blk 0 rfl).cell 0
  have HAG : Hid (w1.rangeAt y 2 c.ag.cs.toList) := fun j v hv => by
    have := (H.out.blk 1 rfl).range (j + 2) v (by rw [cl_ag]; exact hv)
    rw [show 0 + (j + 2) = 2 + j by omega] at this
    exact this
  have c1 : w1.cell? ⟨y, 1, none⟩ = some (.int .i64 c.ch) := (H.out.blk 1 rfl).cell 1
  have cm : w1.cell? ⟨x, 1, none⟩ = some (.int .i64 s.ms) := (H.out.blk 0 rfl).cell 1
  cases hl : (d == (s.sz.n : Int) - 1) with
  | true =>
    have hR2 : Hid (R = (decide (c.ch = 0) && mayAg s.ms c.ag)) := by show _ = _; rw [hR.out, if_pos (by simpa using hl)]
    clear hR 
    by_cases h0 : c.ch = 0
    · have e0 : (c.ch == 0) = true := by simpa using h0
      have hR3 : Hid (R = mayAg s.ms c.ag) := by show _ = _; rw [hR2.out]; simp [h0]
      clear hR2 h0
      go_wp2_with ((with_reducible show wpList _ _ _ (⟨some 20, _, _, _, _, _⟩ :: _) _ _); refine wpList_load_rowG (by first | rfl | go_simp) rowAg (.tmp 19) (by rfl) y 2 (by rfl) c.ag.cs rfl HAG.out ?_)
      refine (HM.out _).mono ?_; rintro e w3 ⟨rfl, hb3⟩
      replace H := Lib.hid (H.out.bel hb3); (try simp only [List.set_cons_zero, List.set_cons_succ, List.cons_append, List.nil_append, List.eraseIdx_cons_zero, List.eraseIdx_cons_succ, List.setIfInBounds_toArray, World.size_alloc, selR, List.getD_cons_zero, List.getD_cons_succ] at H)
      clear hb3
      go_wp2_with fail
      go_ret
      rw [hR3.out]
      exact ⟨rfl, H.out.to⟩
    · have e0 : (c.ch == 0) = false := by simpa using h0
      have hR3 : Hid (R = false) := by show _ = _; rw [hR2.out]; simp [h0]
      clear hR2 h0
      go_wp2_with fail
      go_ret
      rw [hR3.out]
      exact ⟨rfl, H.out.to⟩
  | false =>
    have hR2 : Hid (R = (decide (0 ≤ c.ch) && decide (c.ag = .zero))) := by show _ = _; rw [hR.out, if_neg (by simpa using hl)]
    clear hR
    by_cases h0 : 0 ≤ c.ch
    · have e0 : decide (0 ≤ c.ch) = true := by simpa using h0
      have hR3 : Hid (R = decide (c.ag = .zero)) := by show _ = _; rw [hR2.out]; simp [h0]
      have hb0 : ∀ w : World, (Instr.build 30 #[]).run Try.prog w = .ok (.agg Ag.zero.cs) w := fun _ => by kernel_rfl
      clear hR2 h0
      go_wp2_with (first | ((with_reducible show wpList _ _ _ (⟨some 28, _, _, _, _, _⟩ :: _) _ _); refine wpList_load_rowG (by first | rfl | go_simp) rowAg (.tmp 27) (by rfl) y 2 (by rfl) c.ag.cs rfl HAG.out ?_) | ((with_reducible show wpList _ _ _ (⟨some 30, _, _, _, _, _⟩ :: _) _ _); (refine wpList_cmp_row (by first | rfl | go_simp) .eql 30 30 (.tmp 28) (.tmp 29) (by rfl) (by rfl) (by rfl) guard_ag (eqv_ag c.ag Ag.zero _) ?_)))
      go_ret
      rw [hR3.out]
      exact ⟨rfl, H.out.to⟩
    · have e0 : decide (0 ≤ c.ch) = false := by simpa using h0
      have hR3 : Hid (R = false) := by show _ = _; rw [hR2.out]; simp [h0]
      clear hR2 h0
      go_wp2_with fail
      go_ret
      rw [hR3.out]
      exact ⟨rfl, H.out.to⟩

end Go.Proofs.Ytlclllkjnhgbjaa

namespace Go.Proofs.Ytlclllkjnhgbjaa
open Go.RowKit
set_option linter.unusedVariables false
set_option linter.unusedSimpArgs false


theorem cellAt_some {nd : Nat} {ms dim size : Int} {l : List Cl} {i : Nat} {c : Cl} (h : l[i]? = some c) : cellAt nd ms dim size l i = if c.key < 0 ∨ size ≤ c.key then 13 else if 0 < i ∧ c.key ≤ ((l[i - 1]?).getD .nil).key then 4 else if cellOk nd ms dim c = false then 2 else 0 := by unfold cellAt; rw [h]
set_option maxRecDepth 100000 in
set_option maxHeartbeats 4000000 in
theorem nlist_any (s : Shp) (d size : Int) (x : Row Cl) (w : World) (hs : s.rd w) (hd : I64 d) (hz : I64 size) (hx : x.rd w) :
    Calls Try.prog 66 #[.agg s.cs, .int .i64 d, .int .i64 size, .slice x.A x.n x.c] w fun e w' => e = .returned (.int .i64 (listErr s.sz.n s.ms d size x.l)) ∧ Bel w w' := by
  have HC := Lib.hid (fun (c : Cl) w' (hb : Bel w w') (hc : c.ok) => ncell_any s d c w' (hs.mono hb) hd hc)
  have H := Lib.hid ((SL.start No w).alloc s.cs 24)
  (try simp only [List.set_cons_zero, List.set_cons_succ, List.cons_append, List.nil_append, List.eraseIdx_cons_zero, List.eraseIdx_cons_succ, List.setIfInBounds_toArray, World.size_alloc, selR, List.getD_cons_zero, List.getD_cons_succ] at H)
  have HX := Lib.hid (fun w' (hb : Bel w w') => hx.mono hb)
  have hlen : Hid (x.l.length = x.n) := hx.len
  have n63 := hx.n63
  have z64 := hz
  unfold I64 at z64
  have hcs : s.cs = #[.slice s.sz.A s.sz.n s.sz.c, .int .i64 s.ms] := rfl
  have HCS := Lib.hid hcs
  clear hcs hs hx hz
  obtain ⟨A, n, c, l⟩ := x
  simp only at hlen n63 HX ⊢
  obtain ⟨E, hE⟩ : ∃ E, E = listErr s.sz.n s.ms d size l := ⟨_, rfl⟩
  rw [← hE]
  by_cases hn0 : n = 0
  · have HV : Hid (E = 2) := by show _ = _; rw [hE]; unfold listErr; rw [if_pos (by rw [hlen.out]; exact hn0)]
    clear hE
    subst hn0
    go_enter Try.func66, Try.ntmps66
    (try rw [← HCS.out] at *)
    go_wp2_with fail
    go_ret
    rw [HV.out]
    exact ⟨rfl, H.out.to⟩
  have HE : Hid (E = firstErr (cellAt s.sz.n s.ms d size l) (n - 0) 0) := by show _ = _; rw [hE]; unfold listErr; rw [if_neg (by rw [hlen.out]; exact hn0), hlen.out, Nat.sub_zero]
  have z0 : ((n : Int) == 0) = false := by simp; omega
  clear hE hn0
  go_enter Try.func66, Try.ntmps66
  (try rw [← HCS.out] at *)
  go_upto_region 4 with fail
  generalize w.heap.size = x at *
  generalize World.alloc w _ = w1 at *
  clear z0
  go_loopg [16] n (fun gg s16 wr => ∃ (k : Nat), gg = n - k ∧ k ≤ n ∧ s16 = .int .i64 k ∧ Hid (E = firstErr (cellAt s.sz.n s.ms d size l) (n - k) k) ∧ Hid (SL No w wr [rBlk x 24 s.cs]))
  case atStart => exact ⟨0, rfl, by omega, rfl, HE, H⟩
  case round =>
    clear H HE
    obtain ⟨k, hgk, hk, rfl, HE, H⟩ := hrel
    have Hgk := Lib.hid hgk
    clear hgk
    by_cases hlt : k < n
    · obtain ⟨bb, oo, q, hA, hbb, hq, hqok, hqr⟩ := (HX.out _ H.out.to).clAt (k := k) hlt
      simp only at hA
      subst hA
      have HAT := Lib.hid (cellAt_some (nd := s.sz.n) (ms := s.ms) (dim := d) (size := size) hq)
      have HR := Lib.hid hqr
      have HQ := Lib.hid hqok
      have k0 : (0 : Int) ≤ k := by omega
      have k1 : (k : Int) < n := by omega
      have HPV : Hid (0 < k → ∃ p : Cl, l[k - 1]? = some p ∧ ∀ w', Bel w w' → w'.cell? ⟨bb, oo + (k - 1) * 12, none⟩ = some (.int .i64 p.key)) := fun h0 => by
        obtain ⟨p, hp⟩ : ∃ p, l[k - 1]? = some p := ⟨_, List.getElem?_eq_getElem (by rw [hlen.out]; omega)⟩
        refine ⟨p, hp, fun w' hb => ?_⟩
        obtain ⟨b2, o2, p2, hA2, _, hp2, _, hr2⟩ := (HX.out w' hb).clAt (k := k - 1) (by show k - 1 < n; omega)
        rw [hp] at hp2
        injection hp2 with hp2
        subst hp2
        injection hA2 with hA2
        injection hA2 with e1 e2
        subst e1 e2
        exact hr2 0 _ rfl
      clear hq hqok hqr
      go_upto_region 6 with (first | ((with_reducible show wpList _ _ _ (⟨some 20, _, _, _, _, _⟩ :: _) _ _); (refine wpList_load_row_at rfl rowCl (.tmp 19) rfl bb (oo + k * 12) rfl q.cs rfl HR.out ?_)) | ((with_reducible show wpList _ _ _ (⟨_, .store _ (.tmp 10) _, _, _, _, _⟩ :: _) _ _); (refine wpList_store_new rfl rowCl (.tmp 10) (.tmp 20) rfl rfl rfl (q.cs) rfl rfl (cl_one q) ?_; replace H := Lib.hid (H.out.alloc (q.cs) 32); (try simp only [List.set_cons_zero, List.set_cons_succ, List.cons_append, List.nil_append, List.eraseIdx_cons_zero, List.eraseIdx_cons_succ, List.setIfInBounds_toArray, World.size_alloc, selR, List.getD_cons_zero, List.getD_cons_succ] at H))))
      (try simp only [Act.put, List.setIfInBounds_toArray, List.set_cons_zero, List.set_cons_succ])
      clear HR hbb
      generalize wr.heap.size = y at *
      generalize World.alloc wr _ = w2 at *
      have cq : w2.cell? ⟨y, 0, none⟩ = some (.int .i64 q.key) := (H.out.blk 1 rfl).cell 0
      by_cases hb1 : q.key < 0
      · have HV : Hid (E = 13) := by show _ = _; rw [HE.out]; exact firstErr_hit hlt (by rw [HAT.out, if_pos (.inl hb1)]) (by decide)
        have d1 : decide (q.key < 0) = true := by simpa using hb1
        clear HE HAT hb1
        go_wp2_with fail
        go_ret
        rw [HV.out]
        exact ⟨rfl, H.out.to⟩
      have d1 : decide (q.key < 0) = false := by simpa using hb1
      by_cases hb2 : size ≤ q.key
      · have HV : Hid (E = 13) := by show _ = _; rw [HE.out]; exact firstErr_hit hlt (by rw [HAT.out, if_pos (.inr hb2)]) (by decide)
        have d2 : decide (size ≤ q.key) = true := by simpa using hb2
        clear HE HAT hb1 hb2
        go_wp2_with fail
        go_ret
        rw [HV.out]
        exact ⟨rfl, H.out.to⟩
      have d2 : decide (size ≤ q.key) = false := by simp <;> omega
      have HAT2 : Hid (cellAt s.sz.n s.ms d size l k = if 0 < k ∧ q.key ≤ ((l[k - 1]?).getD .nil).key then 4 else if cellOk s.sz.n s.ms d q = false then 2 else 0) := by show _ = _; rw [HAT.out, if_neg (by omega)]
      clear HAT hb1 hb2
      go_upto_region 8 with fail
      clear d1 d2
      go_cut [31] (fun s31 wx => ∃ bv : Bool, s31 = .bool bv ∧ Hid (cellAt s.sz.n s.ms d size l k = if bv = true then 4 else if cellOk s.sz.n s.ms d q = false then 2 else 0) ∧ Hid (SL No w wx [rBlk x 24 s.cs, rBlk y 32 q.cs]))
      case first =>
        by_cases hk0 : 0 < k
        · obtain ⟨p, hp, hpc⟩ := HPV.out hk0
          have HAT3 : Hid (cellAt s.sz.n s.ms d size l k = if decide (q.key ≤ p.key) = true then 4 else if cellOk s.sz.n s.ms d q = false then 2 else 0) := by
            show _ = _
            rw [HAT2.out, hp]
            simp [hk0]
          have cp := hpc _ H.out.to
          obtain ⟨j, rfl⟩ : ∃ j, k = j + 1 := ⟨k - 1, by omega⟩
          rw [show j + 1 - 1 = j from rfl] at cp
          have e2 : (((j + 1 : Nat) : Int)) - 1 = j := by omega
          have m0 : (0 : Int) ≤ j := by omega
          have m1 : (j : Int) < n := by omega
          have e1 : decide ((0 : Int) < ((j + 1 : Nat) : Int)) = true := by simp <;> omega
          clear hp hpc HPV HAT2 hk0
          have f_cq := fun u : Over w2 => Over.cell cq u
          have f_cp := fun u : Over w2 => Over.cell cp u
          refine wp_region_over (by kernel_rfl) (by kernel_rfl) ?_
          (try simp only [Act.put, List.setIfInBounds_toArray, List.set_cons_zero, List.set_cons_succ])
          repeat (go_big_quiet_step (fail))
          refine wpQuiet_nil ?_
          rintro w5 ⟨⟨_, hw5⟩, rfl⟩
          (try dsimp only)
          replace H := Lib.hid (H.out.bel hw5); (try simp only [List.set_cons_zero, List.set_cons_succ, List.cons_append, List.nil_append, List.eraseIdx_cons_zero, List.eraseIdx_cons_succ, List.setIfInBounds_toArray, World.size_alloc, selR, List.getD_cons_zero, List.getD_cons_succ] at H)
          clear f_cq f_cp cq cp
          go_wp2_with fail
          go_meet
          exact ⟨_, rfl, HAT3, H⟩
        · obtain rfl : k = 0 := by omega
          have HAT3 : Hid (cellAt s.sz.n s.ms d size l 0 = if (false : Bool) = true then 4 else if cellOk s.sz.n s.ms d q = false then 2 else 0) := by
            show _ = _
            rw [HAT2.out]
            simp
          clear HAT2 HPV
          have f_cq := fun u : Over w2 => Over.cell cq u
          refine wp_region_over (by kernel_rfl) (by kernel_rfl) ?_
          (try simp only [Act.put, List.setIfInBounds_toArray, List.set_cons_zero, List.set_cons_succ])
          repeat (go_big_quiet_step (fail))
          refine wpQuiet_nil ?_
          rintro w5 ⟨⟨_, hw5⟩, rfl⟩
          (try dsimp only)
          replace H := Lib.hid (H.out.bel hw5); (try simp only [List.set_cons_zero, List.set_cons_succ, List.cons_append, List.nil_append, List.eraseIdx_cons_zero, List.eraseIdx_cons_succ, List.setIfInBounds_toArray, World.size_alloc, selR, List.getD_cons_zero, List.getD_cons_succ] at H)
          clear f_cq cq
          go_wp2_with fail
          go_meet
          exact ⟨_, rfl, HAT3, H⟩
      case rest =>
        clear H cq HAT2 HPV
        obtain ⟨bv, rfl, HAT, H⟩ := hcut
        cases bv with
        | true =>
          have HV : Hid (E = 4) := by show _ = _; rw [HE.out]; exact firstErr_hit hlt (by rw [HAT.out, if_pos rfl]) (by decide)
          clear HE HAT
          go_wp2_with fail
          go_ret
          rw [HV.out]
          exact ⟨rfl, H.out.to⟩
        | false =>
          go_wp2_with (first | ((with_reducible show wpList _ _ _ (⟨some 46, _, _, _, _, _⟩ :: _) _ _); (refine wpList_load_blk rfl rowShp2 (.tmp 4) rfl _ rfl (H.out.blk 0 rfl) rfl ?_)) | ((with_reducible show wpList _ _ _ (⟨some 48, _, _, _, _, _⟩ :: _) _ _); (refine wpList_load_blk rfl rowCl (.tmp 10) rfl _ rfl (H.out.blk 1 rfl) rfl ?_)))
          refine (HC.out q _ H.out.to HQ.out).mono ?_; rintro e w3 ⟨rfl, hb3⟩
          replace H := Lib.hid (H.out.bel hb3); (try simp only [List.set_cons_zero, List.set_cons_succ, List.cons_append, List.nil_append, List.eraseIdx_cons_zero, List.eraseIdx_cons_succ, List.setIfInBounds_toArray, World.size_alloc, selR, List.getD_cons_zero, List.getD_cons_succ] at H)
          clear hb3
          cases hck : cellOk s.sz.n s.ms d q with
          | false =>
            have HV : Hid (E = 2) := by show _ = _; rw [HE.out]; exact firstErr_hit hlt (by rw [HAT.out, if_neg (by simp), if_pos hck]) (by decide)
            clear HE HAT hck
            go_wp2_with fail
            go_ret
            rw [HV.out]
            exact ⟨rfl, H.out.to⟩
          | true =>
            have HE2 : Hid (E = firstErr (cellAt s.sz.n s.ms d size l) (n - (k + 1)) (k + 1)) := by show _ = _; rw [HE.out]; exact firstErr_next hlt (by rw [HAT.out, if_neg (by simp), if_neg (by rw [hck]; simp)])
            clear HE HAT hck
            replace H := Lib.hid (H.out.sel [0] (by decide) (by simp))
            (try simp only [List.set_cons_zero, List.set_cons_succ, List.cons_append, List.nil_append, List.eraseIdx_cons_zero, List.eraseIdx_cons_succ, List.setIfInBounds_toArray, World.size_alloc, selR, List.getD_cons_zero, List.getD_cons_succ] at H)
            go_wp2_with fail
            go_roundg (n - (k + 1))
            case rel => exact ⟨k + 1, rfl, by omega, by go_num, HE2, H⟩
            case measure => rw [Hgk.out]; omega
    · obtain rfl : k = n := by omega
      have HV : Hid (E = 0) := by show _ = _; rw [HE.out, Nat.sub_self]; rfl
      clear HE
      go_wp2_with fail
      go_ret
      rw [HV.out]
      exact ⟨rfl, H.out.to⟩

end Go.Proofs.Ytlclllkjnhgbjaa

namespace Go.Proofs.Ytlclllkjnhgbjaa
open Go.RowKit
set_option linter.unusedVariables false
set_option linter.unusedSimpArgs false


theorem nodeErr_neg {xs : List (List Int)} {ms : Int} {n : NC} (h : n.dim < 0) : nodeErr xs ms n = 2 := by unfold nodeErr; rw [if_pos h]
theorem nodeErr_none {xs : List (List Int)} {ms : Int} {n : NC} (h : ¬ n.dim < 0) (h2 : xs.length ≤ n.dim.toNat) : nodeErr xs ms n = 2 := by unfold nodeErr; rw [if_neg h, List.getElem?_eq_none h2]
theorem nodeErr_some {xs : List (List Int)} {ms : Int} {n : NC} {sz : List Int} (h : ¬ n.dim < 0) (h2 : xs[n.dim.toNat]? = some sz) : nodeErr xs ms n = if sz.length = 0 ∨ n.ls.length ≠ sz.length then 2 else
    if firstErr (listAt xs.length ms n.dim sz n.ls) n.ls.length 0 ≠ 0 then firstErr (listAt xs.length ms n.dim sz n.ls) n.ls.length 0 else
    if n.all.key ≠ 0 ∨ cellOk xs.length ms n.dim n.all = false then 2 else 0 := by unfold nodeErr; rw [if_neg h, h2]
theorem listAt_some {nd : Nat} {ms dim size : Int} {sz : List Int} {ls : List (List Cl)} {k : Nat} {l : List Cl} (h : ls[k]? = some l) (h2 : sz[k]? = some size) : listAt nd ms dim sz ls k = if listErr nd ms dim size l ≠ 0 then listErr nd ms dim size l else if 0 < k ∧ ((ls[k - 1]?).getD []).length < l.length then 14 else 0 := by unfold listAt; rw [h, h2]
set_option maxRecDepth 100000 in
set_option maxHeartbeats 1000000 in
theorem ncheck_any (s : Shp) (n : Nd) (w : World) (hs : s.rd w) (hn : n.rd w) :
    Calls Try.prog 34 #[.agg s.cs, .agg n.cs] w fun e w' => e = .returned (.int .i64 (nodeErr s.con s.ms n.con)) ∧ Bel w w' := by
  have HC := Lib.hid (fun w' (hb : Bel w w') => ncell_any s n.dim n.all w' (hs.mono hb) hn.dim hn.all)
  have HLI := Lib.hid (fun (size : Int) (x : Row Cl) w' (hb : Bel w w') (hz : I64 size) (hx : x.rd w') => nlist_any s n.dim size x w' (hs.mono hb) hn.dim hz hx)
  have H := Lib.hid (((SL.start No w).alloc s.cs 24).alloc n.cs 34)
  (try simp only [List.set_cons_zero, List.set_cons_succ, List.cons_append, List.nil_append, List.eraseIdx_cons_zero, List.eraseIdx_cons_succ, List.setIfInBounds_toArray, World.size_alloc, selR, List.getD_cons_zero, List.getD_cons_succ] at H)
  have HS := Lib.hid (fun w' (hb : Bel w w') => hs.sz.mono hb)
  have HN := Lib.hid (fun w' (hb : Bel w w') => hn.ls.mono hb)
  have s63 := hs.sz.n63
  have l63 := hn.ls.n63
  have hsl : s.sz.l.length = s.sz.n := hs.sz.len
  have hll : n.ls.l.length = n.ls.n := hn.ls.len
  have HSL := Lib.hid hsl
  have HLL := Lib.hid hll
  have d64 := hn.dim
  unfold I64 at d64
  have hcs : s.cs = #[.slice s.sz.A s.sz.n s.sz.c, .int .i64 s.ms] := rfl
  have HCS := Lib.hid hcs
  clear hcs hs hn
  obtain ⟨xs, hxs⟩ : ∃ xs, xs = s.con := ⟨_, rfl⟩
  have HXS := Lib.hid hxs
  obtain ⟨nls, hnls⟩ : ∃ l, l = n.ls.l.map Row.l := ⟨_, rfl⟩
  have HNLS := Lib.hid hnls
  have HXL : Hid (xs.length = s.sz.n) := by show _ = _; rw [hxs, List.length_map]; exact hsl
  have HNL : Hid (nls.length = n.ls.n) := by show _ = _; rw [hnls, List.length_map]; exact hll
  have HNE : Hid (∃ E, E = nodeErr s.con s.ms n.con) := ⟨_, rfl⟩
  obtain ⟨E, hE⟩ := HNE.out
  clear HNE hsl hll
  rw [← hE]
  rw [← hxs] at hE
  by_cases h1 : n.dim < 0
  · have HV : Hid (E = 2) := by show _ = _; rw [hE]; exact nodeErr_neg h1
    have d1 : decide (n.dim < 0) = true := by simpa using h1
    clear hE h1
    go_enter Try.func34, Try.ntmps34
    go_upto_region 1 with fail
    (try rw [← HCS.out] at *)
    generalize w.heap.size + 1 = y at *
    generalize w.heap.size = x at *
    generalize World.alloc (World.alloc _ _) _ = w1 at *
    have cd : w1.cell? ⟨y, 0, none⟩ = some (.int .i64 n.dim) := (H.out.blk 1 rfl).cell 0
    have cl : w1.cell? ⟨y, 1, none⟩ = some (.slice n.ls.A n.ls.n n.ls.c) := (H.out.blk 1 rfl).cell 1
    have cs : w1.cell? ⟨x, 0, none⟩ = some (.slice s.sz.A s.sz.n s.sz.c) := (H.out.blk 0 rfl).cell 0
    have f_cd := fun u : Over w1 => Over.cell cd u
    have f_cl := fun u : Over w1 => Over.cell cl u
    have f_cs := fun u : Over w1 => Over.cell cs u
    refine wp_region_over (by kernel_rfl) (by kernel_rfl) ?_
    (try simp only [Act.put, List.setIfInBounds_toArray, List.set_cons_zero, List.set_cons_succ])
    repeat (go_big_quiet_step (fail))
    refine wpQuiet_nil ?_
    rintro w5 ⟨⟨_, hw5⟩, rfl⟩
    (try dsimp only)
    replace H := Lib.hid (H.out.bel hw5); (try simp only [List.set_cons_zero, List.set_cons_succ, List.cons_append, List.nil_append, List.eraseIdx_cons_zero, List.eraseIdx_cons_succ, List.setIfInBounds_toArray, World.size_alloc, selR, List.getD_cons_zero, List.getD_cons_succ] at H)
    clear f_cd f_cl f_cs cd cl cs
    go_wp2_with fail
    go_ret
    (try rw [HV.out])
    exact ⟨rfl, H.out.to⟩
  have d1 : decide (n.dim < 0) = false := by simpa using h1
  by_cases h2 : (s.sz.n : Int) ≤ n.dim
  · have HV : Hid (E = 2) := by show _ = _; rw [hE]; exact nodeErr_none h1 (by show xs.length ≤ n.dim.toNat; rw [HXL.out]; omega)
    have d2 : decide ((s.sz.n : Int) ≤ n.dim) = true := by simpa using h2
    clear hE h1 h2
    go_enter Try.func34, Try.ntmps34
    go_upto_region 1 with fail
    (try rw [← HCS.out] at *)
    generalize w.heap.size + 1 = y at *
    generalize w.heap.size = x at *
    generalize World.alloc (World.alloc _ _) _ = w1 at *
    have cd : w1.cell? ⟨y, 0, none⟩ = some (.int .i64 n.dim) := (H.out.blk 1 rfl).cell 0
    have cl : w1.cell? ⟨y, 1, none⟩ = some (.slice n.ls.A n.ls.n n.ls.c) := (H.out.blk 1 rfl).cell 1
    have cs : w1.cell? ⟨x, 0, none⟩ = some (.slice s.sz.A s.sz.n s.sz.c) := (H.out.blk 0 rfl).cell 0
    have f_cd := fun u : Over w1 => Over.cell cd u
    have f_cl := fun u : Over w1 => Over.cell cl u
    have f_cs := fun u : Over w1 => Over.cell cs u
    refine wp_region_over (by kernel_rfl) (by kernel_rfl) ?_
    (try simp only [Act.put, List.setIfInBounds_toArray, List.set_cons_zero, List.set_cons_succ])
    repeat (go_big_quiet_step (fail))
    refine wpQuiet_nil ?_
    rintro w5 ⟨⟨_, hw5⟩, rfl⟩
    (try dsimp only)
    replace H := Lib.hid (H.out.bel hw5); (try simp only [List.set_cons_zero, List.set_cons_succ, List.cons_append, List.nil_append, List.eraseIdx_cons_zero, List.eraseIdx_cons_succ, List.setIfInBounds_toArray, World.size_alloc, selR, List.getD_cons_zero, List.getD_cons_succ] at H)
    clear f_cd f_cl f_cs cd cl cs
    go_wp2_with fail
    go_ret
    (try rw [HV.out])
    exact ⟨rfl, H.out.to⟩
  have d2 : decide ((s.sz.n : Int) ≤ n.dim) = false := by simp <;> omega
  obtain ⟨D, hD⟩ : ∃ D : Nat, n.dim = D := ⟨n.dim.toNat, by omega⟩
  have hDn : D < s.sz.n := by omega
  obtain ⟨bs, os, z, hAs, hzk, hzok, hzc⟩ := (HS.out w (Bel.refl _)).slAt (k := D) hDn
  have HZ := Lib.hid (fun w' (hb : Bel w w') => hzok.mono hb)
  have HZC := Lib.hid (fun w' (hb : Bel w w') => (hb.cell (p := ⟨bs, os + D, none⟩) (World.block_lt_of_cell? _ _ hzc)).trans hzc)
  have hxz : xs[n.con.dim.toNat]? = some z.l := by rw [show n.con.dim.toNat = D by show n.dim.toNat = D; omega, hxs]; show (s.sz.l.map Row.l)[D]? = _; rw [List.getElem?_map, hzk]; rfl
  rw [nodeErr_some (show ¬ n.con.dim < 0 from h1) hxz] at hE
  have hzl : z.l.length = z.n := hzok.len
  have z63 := hzok.size
  have i0 : (0 : Int) ≤ D := by omega
  have i1 : (D : Int) < s.sz.n := by omega
  obtain ⟨sz, hsz⟩ : ∃ sz, sz = z.l := ⟨_, rfl⟩
  have HSZ := Lib.hid hsz
  rw [← hsz] at hE
  have hszl : sz.length = z.n := by rw [hsz]; exact hzl
  replace hE : E = if sz.length = 0 ∨ nls.length ≠ sz.length then 2 else if firstErr (listAt xs.length s.ms n.dim sz nls) nls.length 0 ≠ 0 then firstErr (listAt xs.length s.ms n.dim sz nls) nls.length 0 else if n.all.key ≠ 0 ∨ cellOk xs.length s.ms n.dim n.all = false then 2 else 0 := by rw [hE, hnls]
  rw [hszl, HNL.out] at hE
  rw [hD] at d1 d2
  clear hxs hnls hsz hszl hzl
  have d2n : decide (s.sz.n ≤ D) = false := by simp <;> omega
  have d2m : (s.sz.n ≤ D) = False := by simp <;> omega
  clear hzk hzok hzc hxz h1 h2
  by_cases h3 : n.ls.n ≠ z.n
  · have HV : Hid (E = 2) := by show _ = _; rw [hE, if_pos (.inr h3)]
    have d3 : ((n.ls.n : Int) != z.n) = true := by simp; omega
    have d3n : (n.ls.n != z.n) = true := by simp; omega
    clear hE h3
    go_enter Try.func34, Try.ntmps34
    go_upto_region 1 with fail
    (try rw [← HCS.out] at *)
    generalize w.heap.size + 1 = y at *
    generalize w.heap.size = x at *
    generalize World.alloc (World.alloc _ _) _ = w1 at *
    have cd : w1.cell? ⟨y, 0, none⟩ = some (.int .i64 n.dim) := (H.out.blk 1 rfl).cell 0
    have cl : w1.cell? ⟨y, 1, none⟩ = some (.slice n.ls.A n.ls.n n.ls.c) := (H.out.blk 1 rfl).cell 1
    have cs : w1.cell? ⟨x, 0, none⟩ = some (.slice s.sz.A s.sz.n s.sz.c) := (H.out.blk 0 rfl).cell 0
    rw [hD] at cd
    rw [hAs] at cs
    have cy := HZC.out _ H.out.to
    have f_cd := fun u : Over w1 => Over.cell cd u
    have f_cl := fun u : Over w1 => Over.cell cl u
    have f_cs := fun u : Over w1 => Over.cell cs u
    have f_cy := fun u : Over w1 => Over.cell cy u
    refine wp_region_over (by kernel_rfl) (by kernel_rfl) ?_
    (try simp only [Act.put, List.setIfInBounds_toArray, List.set_cons_zero, List.set_cons_succ])
    repeat (go_big_quiet_step (fail))
    refine wpQuiet_nil ?_
    rintro w5 ⟨⟨_, hw5⟩, rfl⟩
    (try dsimp only)
    replace H := Lib.hid (H.out.bel hw5); (try simp only [List.set_cons_zero, List.set_cons_succ, List.cons_append, List.nil_append, List.eraseIdx_cons_zero, List.eraseIdx_cons_succ, List.setIfInBounds_toArray, World.size_alloc, selR, List.getD_cons_zero, List.getD_cons_succ] at H)
    clear f_cd f_cl f_cs f_cy cd cl cs cy
    go_wp2_with fail
    go_ret
    (try rw [HV.out])
    exact ⟨rfl, H.out.to⟩
  replace h3 : n.ls.n = z.n := Classical.not_not.1 h3
  by_cases h4 : z.n = 0
  · have HV : Hid (E = 2) := by show _ = _; rw [hE, if_pos (.inl h4)]
    rw [h4] at h3 HZC
    clear hE
    go_enter Try.func34, Try.ntmps34
    go_upto_region 1 with fail
    (try rw [← HCS.out] at *)
    generalize w.heap.size + 1 = y at *
    generalize w.heap.size = x at *
    generalize World.alloc (World.alloc _ _) _ = w1 at *
    have cd : w1.cell? ⟨y, 0, none⟩ = some (.int .i64 n.dim) := (H.out.blk 1 rfl).cell 0
    have cl : w1.cell? ⟨y, 1, none⟩ = some (.slice n.ls.A n.ls.n n.ls.c) := (H.out.blk 1 rfl).cell 1
    have cs : w1.cell? ⟨x, 0, none⟩ = some (.slice s.sz.A s.sz.n s.sz.c) := (H.out.blk 0 rfl).cell 0
    rw [hD] at cd
    rw [hAs] at cs
    rw [h3] at cl
    have cy := HZC.out _ H.out.to
    clear h3 h4
    have f_cd := fun u : Over w1 => Over.cell cd u
    have f_cl := fun u : Over w1 => Over.cell cl u
    have f_cs := fun u : Over w1 => Over.cell cs u
    have f_cy := fun u : Over w1 => Over.cell cy u
    refine wp_region_over (by kernel_rfl) (by kernel_rfl) ?_
    (try simp only [Act.put, List.setIfInBounds_toArray, List.set_cons_zero, List.set_cons_succ])
    repeat (go_big_quiet_step (fail))
    refine wpQuiet_nil ?_
    rintro w5 ⟨⟨_, hw5⟩, rfl⟩
    (try dsimp only)
    replace H := Lib.hid (H.out.bel hw5); (try simp only [List.set_cons_zero, List.set_cons_succ, List.cons_append, List.nil_append, List.eraseIdx_cons_zero, List.eraseIdx_cons_succ, List.setIfInBounds_toArray, World.size_alloc, selR, List.getD_cons_zero, List.getD_cons_succ] at H)
    clear f_cd f_cl f_cs f_cy cd cl cs cy
    go_wp2_with fail
    go_ret
    (try rw [HV.out])
    exact ⟨rfl, H.out.to⟩
  have HE : Hid (E = if firstErr (listAt xs.length s.ms n.dim sz nls) (n.ls.n - 0) 0 ≠ 0 then firstErr (listAt xs.length s.ms n.dim sz nls) (n.ls.n - 0) 0 else if n.all.key ≠ 0 ∨ cellOk xs.length s.ms n.dim n.all = false then 2 else 0) := by show _ = _; rw [hE, if_neg (by rintro (h | h); exact h4 h; exact h h3), Nat.sub_zero]
  have d3 : ((n.ls.n : Int) == 0) = false := by simp; omega
  have d3n : (n.ls.n == 0) = false := by simp; omega
  have d4 : ((z.n : Int) == 0) = false := by simp; omega
  have d5 : ((n.ls.n : Int) != n.ls.n) = false := by simp
  rw [← h3] at HZC
  have HZN : Hid (z.n = n.ls.n) := h3.symm
  clear hE h3 h4
  go_enter Try.func34, Try.ntmps34
  go_upto_region 1 with fail
  (try rw [← HCS.out] at *)
  generalize w.heap.size + 1 = y at *
  generalize w.heap.size = x at *
  generalize World.alloc (World.alloc _ _) _ = w1 at *
  have cd : w1.cell? ⟨y, 0, none⟩ = some (.int .i64 n.dim) := (H.out.blk 1 rfl).cell 0
  have cl : w1.cell? ⟨y, 1, none⟩ = some (.slice n.ls.A n.ls.n n.ls.c) := (H.out.blk 1 rfl).cell 1
  have cs : w1.cell? ⟨x, 0, none⟩ = some (.slice s.sz.A s.sz.n s.sz.c) := (H.out.blk 0 rfl).cell 0
  rw [hD] at cd
  rw [hAs] at cs
  have cy := HZC.out _ H.out.to
  have f_cd := fun u : Over w1 => Over.cell cd u
  have f_cl := fun u : Over w1 => Over.cell cl u
  have f_cs := fun u : Over w1 => Over.cell cs u
  have f_cy := fun u : Over w1 => Over.cell cy u
  refine wp_region_over (by kernel_rfl) (by kernel_rfl) ?_
  (try simp only [Act.put, List.setIfInBounds_toArray, List.set_cons_zero, List.set_cons_succ])
  repeat (go_big_quiet_step (fail))
  refine wpQuiet_nil ?_
  rintro w5 ⟨⟨_, hw5⟩, rfl⟩
  (try dsimp only)
  replace H := Lib.hid (H.out.bel hw5); (try simp only [List.set_cons_zero, List.set_cons_succ, List.cons_append, List.nil_append, List.eraseIdx_cons_zero, List.eraseIdx_cons_succ, List.setIfInBounds_toArray, World.size_alloc, selR, List.getD_cons_zero, List.getD_cons_succ] at H)
  clear f_cd f_cl f_cs f_cy cd cl cs cy
  clear d1 d2 d2n d2m d3 d3n d4 d5
  have cl : w5.cell? ⟨y, 1, none⟩ = some (.slice n.ls.A n.ls.n n.ls.c) := (H.out.blk 1 rfl).cell 1
  go_upto_region 4 with fail
  clear cl
  have HDD := Lib.hid hD
  clear hD
  go_loopg [41] n.ls.n (fun gg s41 wr => ∃ (k : Nat), gg = n.ls.n - k ∧ k ≤ n.ls.n ∧ s41 = .int .i64 k ∧ Hid (E = if firstErr (listAt xs.length s.ms n.dim sz nls) (n.ls.n - k) k ≠ 0 then firstErr (listAt xs.length s.ms n.dim sz nls) (n.ls.n - k) k else if n.all.key ≠ 0 ∨ cellOk xs.length s.ms n.dim n.all = false then 2 else 0) ∧ Hid (SL No w wr [rBlk x 24 s.cs, rBlk y 34 n.cs]))
  case atStart => exact ⟨0, rfl, by omega, rfl, HE, H⟩
  case round =>
    clear H HE
    obtain ⟨k, hgk, hk, rfl, HE, H⟩ := hrel
    have Hgk := Lib.hid hgk
    clear hgk
    have cd : wr.cell? ⟨y, 0, none⟩ = some (.int .i64 n.dim) := (H.out.blk 1 rfl).cell 0
    have cs : wr.cell? ⟨x, 0, none⟩ = some (.slice s.sz.A s.sz.n s.sz.c) := (H.out.blk 0 rfl).cell 0
    by_cases hlt : k < n.ls.n
    · obtain ⟨bl, ol, v, hAl, hvk, hvok, hvc⟩ := (HN.out _ H.out.to).clsAt (k := k) hlt
      obtain ⟨bz, oz, size, hAz, hzk, hz64, hzc⟩ := (HZ.out _ H.out.to).int (k := k) (by rw [HZN.out]; exact hlt)
      have hat := listAt_some (nd := xs.length) (ms := s.ms) (dim := n.dim) (ls := nls) (sz := sz) (k := k) (l := v.l) (size := size) (by rw [HNLS.out, List.getElem?_map, hvk]; rfl) (by rw [HSZ.out]; exact hzk)
      rw [HXL.out] at hat
      have HAT := Lib.hid hat
      have HL := Lib.hid (fun w' (hb : Bel wr w') => HLI.out size v w' (H.out.to.trans hb) hz64 (hvok.rds.mono hb))
      have HPV : Hid (0 < k → ∃ p : Row Cl, nls[k - 1]? = some p.l ∧ p.l.length = p.n ∧ p.n ≤ 1466015503700 ∧ ∀ w', Bel w w' → w'.cell? ⟨bl, ol + (k - 1), none⟩ = some (.slice p.A p.n p.c)) := fun h0 => by
        obtain ⟨p, hp⟩ : ∃ p, n.ls.l[k - 1]? = some p := ⟨_, List.getElem?_eq_getElem (by rw [HLL.out]; omega)⟩
        have hpo := (HN.out _ (Bel.refl w)).all p (List.mem_of_getElem? hp)
        refine ⟨p, by rw [HNLS.out, List.getElem?_map, hp]; rfl, hpo.len, rdCls hpo, fun w' hb => ?_⟩
        obtain ⟨b2, o2, p2, hA2, hp2, _, hr2⟩ := (HN.out w' hb).clsAt (k := k - 1) (by omega)
        rw [hp] at hp2
        injection hp2 with hp2
        subst hp2
        rw [hAl] at hA2
        injection hA2 with hA2
        injection hA2 with e1 e2
        subst e1 e2
        exact hr2
      have hvl : v.l.length = v.n := hvok.len
      have hvn := rdCls hvok
      have k0 : (0 : Int) ≤ k := by omega
      have k1 : (k : Int) < n.ls.n := by omega
      have k2 : (k : Int) < z.n := by rw [HZN.out]; exact k1
      have cl : wr.cell? ⟨y, 1, none⟩ = some (.slice n.ls.A n.ls.n n.ls.c) := (H.out.blk 1 rfl).cell 1
      rw [hAl] at cl
      rw [hAs] at cs
      have cy := HZC.out _ H.out.to
      rw [hAz] at cy
      rw [HDD.out] at cd
      have i0 : (0 : Int) ≤ D := by omega
      clear hat hvk hvok hzk hz64
      go_upto_region 6 with fail
      have f_cd := fun u : Over wr => Over.cell cd u
      have f_cs := fun u : Over wr => Over.cell cs u
      have f_cy := fun u : Over wr => Over.cell cy u
      have f_hzc := fun u : Over wr => Over.cell hzc u
      refine wp_region_over (by kernel_rfl) (by kernel_rfl) ?_
      (try simp only [Act.put, List.setIfInBounds_toArray, List.set_cons_zero, List.set_cons_succ])
      repeat (first
        | ((with_reducible show wpQuiet _ _ _ _ (⟨some 46, _, _, _, _, _⟩ :: _) _); refine wpQuiet_load_row (by first | rfl | go_simp) rowShp2 (.tmp 2) rfl _ (0) rfl _ rfl (H.out.blk 0 rfl).lt (H.out.blk 0 rfl).range ?_; simp only [Act.put, List.setIfInBounds_toArray, List.set_cons_zero, List.set_cons_succ])
        | ((with_reducible show wpQuiet _ _ _ _ (⟨some 59, _, _, _, _, _⟩ :: _) _); go_big_quiet_step ((go_at_call 66; rename_i u; rw [← HDD.out]; exact calls_over (HL.out _ u.bel))))
        | go_big_quiet_step (fail))
      refine wpQuiet_nil ?_
      rintro w5 ⟨⟨_, hw5⟩, rfl⟩
      (try dsimp only)
      replace H := Lib.hid (H.out.bel hw5); (try simp only [List.set_cons_zero, List.set_cons_succ, List.cons_append, List.nil_append, List.eraseIdx_cons_zero, List.eraseIdx_cons_succ, List.setIfInBounds_toArray, World.size_alloc, selR, List.getD_cons_zero, List.getD_cons_succ] at H)
      clear f_cd f_cs f_cy f_hzc cd cs cy hzc
      clear HL cl
      obtain ⟨LE, hLE⟩ : ∃ e, e = listErr s.sz.n s.ms n.dim size v.l := ⟨_, rfl⟩
      rw [← hLE] at HAT
      (try rw [← hLE])
      clear hLE
      by_cases he : LE = 0
      · subst he
        have z1 : ((0 : Int) != 0) = false := by simp
        have cl : w5.cell? ⟨y, 1, none⟩ = some (.slice (some ⟨bl, ol, none⟩) n.ls.n n.ls.c) := by have h := (H.out.blk 1 rfl).cell 1; rw [← hAl]; exact h
        by_cases hk0 : 0 < k
        · obtain ⟨p, hp, hpl, hpn, hpc⟩ := HPV.out hk0
          have cp := hpc w5 (H.out.to)
          rw [hp] at HAT
          simp only [Option.getD_some] at HAT
          have HAT1 : Hid (listAt s.sz.n s.ms n.dim sz nls k = if p.n < v.n then 14 else 0) := by show _ = _; rw [HAT.out, if_neg (by simp)]; simp [hk0, hpl, hvl]
          obtain ⟨j, rfl⟩ : ∃ j, k = j + 1 := ⟨k - 1, by omega⟩
          rw [show j + 1 - 1 = j from rfl] at cp
          have e2 : (((j + 1 : Nat) : Int)) - 1 = j := by omega
          have m0 : (0 : Int) ≤ j := by omega
          have m1 : (j : Int) < n.ls.n := by omega
          have e1 : decide ((0 : Int) < ((j + 1 : Nat) : Int)) = true := by simp <;> omega
          by_cases hlv : p.n < v.n
          · have HV : Hid (E = 14) := by show _ = _; rw [HE.out, HXL.out, firstErr_hit hlt (by rw [HAT1.out, if_pos hlv]) (by decide)]; rfl
            have d3 : decide ((p.n : Int) < v.n) = true := by simp; omega
            have d3n : decide (p.n < v.n) = true := by simp; omega
            clear hp hpc HPV HAT HAT1 HE hk0 hlv
            go_wp2_with fail
            go_ret
            (try rw [HV.out])
            exact ⟨rfl, H.out.to⟩
          · have HZ0 : Hid (listAt xs.length s.ms n.dim sz nls (j + 1) = 0) := by show _ = _; rw [HXL.out, HAT1.out, if_neg hlv]
            have d3 : decide ((p.n : Int) < v.n) = false := by simp; omega
            have d3n : decide (p.n < v.n) = false := by simp; omega
            clear hp hpc HPV HAT1 hk0 hlv
            have HE2 : Hid (E = if firstErr (listAt xs.length s.ms n.dim sz nls) (n.ls.n - (j + 1 + 1)) (j + 1 + 1) ≠ 0 then firstErr (listAt xs.length s.ms n.dim sz nls) (n.ls.n - (j + 1 + 1)) (j + 1 + 1) else if n.all.key ≠ 0 ∨ cellOk xs.length s.ms n.dim n.all = false then 2 else 0) := by show _ = _; rw [HE.out, firstErr_next hlt HZ0.out]
            clear HE HAT HZ0
            go_wp2_with fail
            go_roundg (n.ls.n - (j + 1 + 1))
            case rel => exact ⟨j + 1 + 1, rfl, by omega, by go_num, HE2, H⟩
            case measure => rw [Hgk.out]; omega
        · obtain rfl : k = 0 := by omega
          have HZ0 : Hid (listAt xs.length s.ms n.dim sz nls 0 = 0) := by show _ = _; rw [HXL.out, HAT.out, if_neg (by simp), if_neg (by simp)]
          clear HPV hk0
          have HE2 : Hid (E = if firstErr (listAt xs.length s.ms n.dim sz nls) (n.ls.n - (0 + 1)) (0 + 1) ≠ 0 then firstErr (listAt xs.length s.ms n.dim sz nls) (n.ls.n - (0 + 1)) (0 + 1) else if n.all.key ≠ 0 ∨ cellOk xs.length s.ms n.dim n.all = false then 2 else 0) := by show _ = _; rw [HE.out, firstErr_next hlt HZ0.out]
          clear HE HAT HZ0
          go_wp2_with fail
          go_roundg (n.ls.n - (0 + 1))
          case rel => exact ⟨0 + 1, rfl, by omega, by go_num, HE2, H⟩
          case measure => rw [Hgk.out]; omega
      · have HV : Hid (E = LE) := by show _ = _; rw [HE.out, HXL.out, firstErr_hit hlt (by rw [HAT.out, if_pos he]) he, if_pos he]
        have z1 : (LE != 0) = true := by simpa using he
        have z2 : (LE == 0) = false := by simpa using he
        clear HE HAT HPV he
        go_wp2_with fail
        go_ret
        (try rw [HV.out])
        exact ⟨rfl, H.out.to⟩
    · obtain rfl : k = n.ls.n := by omega
      have HE2 : Hid (E = if n.all.key ≠ 0 ∨ cellOk s.sz.n s.ms n.dim n.all = false then 2 else 0) := by show _ = _; rw [HE.out, Nat.sub_self, show firstErr (listAt xs.length s.ms n.dim sz nls) 0 n.ls.n = 0 from rfl, if_neg (by simp), HXL.out]
      have ck : wr.cell? ⟨y, 2, none⟩ = some (.int .i64 n.all.key) := (H.out.blk 1 rfl).cell 2
      have HAL : Hid (wr.rangeAt y 2 n.all.cs.toList) := fun j v hv => by
        have := (H.out.blk 1 rfl).range (j + 2) v (by rw [nd_all]; exact hv)
        rw [show 0 + (j + 2) = 2 + j by omega] at this
        exact this
      clear HE
      by_cases hk0 : n.all.key = 0
      · have z1 : (n.all.key != 0) = false := by simpa using hk0
        have HE3 : Hid (E = if cellOk s.sz.n s.ms n.dim n.all = false then 2 else 0) := by show _ = _; rw [HE2.out]; simp [hk0]
        clear HE2 hk0
        go_wp2_with (first | ((with_reducible show wpList _ _ _ (⟨some 83, _, _, _, _, _⟩ :: _) _ _); refine wpList_load_blkG (by first | rfl | go_simp) rowShp2 (.tmp 2) (by rfl) _ (by rfl) (H.out.blk 0 rfl) rfl ?_) | ((with_reducible show wpList _ _ _ (⟨some 87, _, _, _, _, _⟩ :: _) _ _); go_loud (refine wpList_load_rowG (by first | rfl | go_simp) rowCl (.tmp 86) (by rfl) y 2 (by rfl) n.all.cs rfl HAL.out ?_)))
        refine (HC.out _ H.out.to).mono ?_; rintro e w3 ⟨rfl, hb3⟩
        replace H := Lib.hid (H.out.bel hb3); (try simp only [List.set_cons_zero, List.set_cons_succ, List.cons_append, List.nil_append, List.eraseIdx_cons_zero, List.eraseIdx_cons_succ, List.setIfInBounds_toArray, World.size_alloc, selR, List.getD_cons_zero, List.getD_cons_succ] at H)
        clear hb3
        cases hck : cellOk s.sz.n s.ms n.dim n.all with
        | false =>
          have HV : Hid (E = 2) := by show _ = _; rw [HE3.out, if_pos hck]
          clear HE3 hck
          go_wp2_with fail
          go_ret
          (try rw [HV.out])
          exact ⟨rfl, H.out.to⟩
        | true =>
          have HV : Hid (E = 0) := by show _ = _; rw [HE3.out, if_neg (by rw [hck]; simp)]
          clear HE3 hck
          go_wp2_with fail
          go_ret
          (try rw [HV.out])
          exact ⟨rfl, H.out.to⟩
      · have z1 : (n.all.key != 0) = true := by simpa using hk0
        have HV : Hid (E = 2) := by show _ = _; rw [HE2.out, if_pos (.inl hk0)]
        clear HE2 hk0
        go_wp2_with fail
        go_ret
        (try rw [HV.out])
        exact ⟨rfl, H.out.to⟩

end Go.Proofs.Ytlclllkjnhgbjaa

namespace Go.Proofs.Ytlclllkjnhgbjaa
open Go.RowKit
set_option linter.unusedVariables false
set_option linter.unusedSimpArgs false

set_option maxRecDepth 100000 in
set_option maxHeartbeats 4000000 in
theorem rwrong24_any (s : Shp) (n : Nd) (w : World) (hs : s.rd w) (hn : n.rd w) :
    Calls Try.prog 13 #[.agg s.cs, .agg n.cs] w fun e w' => e = .returned (.int .i64 (nodeErr s.con s.ms n.con)) ∧ Bel w w' := by
  have HC := Lib.hid (fun w' (hb : Bel w w') => rcell_any s n.dim n.all w' (hs.mono hb) hn.dim hn.all)
  have HCC := Lib.hid (fun (c : Cl) w' (hb : Bel w w') (hc : c.ok) => rcell_any s n.dim c w' (hs.mono hb) hn.dim hc)
  have H := Lib.hid (((SL.start No w).alloc s.cs 24).alloc n.cs 34)
  (try simp only [List.set_cons_zero, List.set_cons_succ, List.cons_append, List.nil_append, List.eraseIdx_cons_zero, List.eraseIdx_cons_succ, List.setIfInBounds_toArray, World.size_alloc, selR, List.getD_cons_zero, List.getD_cons_succ] at H)
  have HS := Lib.hid (fun w' (hb : Bel w w') => hs.sz.mono hb)
  have HN := Lib.hid (fun w' (hb : Bel w w') => hn.ls.mono hb)
  have s63 := hs.sz.n63
  have l63 := hn.ls.n63
  have hsl : s.sz.l.length = s.sz.n := hs.sz.len
  have hll : n.ls.l.length = n.ls.n := hn.ls.len
  have HSL := Lib.hid hsl
  have HLL := Lib.hid hll
  have d64 := hn.dim
  unfold I64 at d64
  have hcs : s.cs = #[.slice s.sz.A s.sz.n s.sz.c, .int .i64 s.ms] := rfl
  have HCS := Lib.hid hcs
  clear hcs hs hn
  obtain ⟨xs, hxs⟩ : ∃ xs, xs = s.con := ⟨_, rfl⟩
  have HXS := Lib.hid hxs
  obtain ⟨nls, hnls⟩ : ∃ l, l = n.ls.l.map Row.l := ⟨_, rfl⟩
  have HNLS := Lib.hid hnls
  have HXL : Hid (xs.length = s.sz.n) := by show _ = _; rw [hxs, List.length_map]; exact hsl
  have HNL : Hid (nls.length = n.ls.n) := by show _ = _; rw [hnls, List.length_map]; exact hll
  have HNE : Hid (∃ E, E = nodeErr s.con s.ms n.con) := ⟨_, rfl⟩
  obtain ⟨E, hE⟩ := HNE.out
  clear HNE hsl hll
  rw [← hE]
  rw [← hxs] at hE
  by_cases h1 : n.dim < 0
  · have HV : Hid (E = 2) := by show _ = _; rw [hE]; exact nodeErr_neg h1
    have d1 : decide (n.dim < 0) = true := by simpa using h1
    clear hE h1
    go_enter Try.func13, Try.ntmps13
    go_upto_region 1 with fail
    (try rw [← HCS.out] at *)
    generalize w.heap.size + 1 = y at *
    generalize w.heap.size = x at *
    generalize World.alloc (World.alloc _ _) _ = w1 at *
    have cd : w1.cell? ⟨y, 0, none⟩ = some (.int .i64 n.dim) := (H.out.blk 1 rfl).cell 0
    have cl : w1.cell? ⟨y, 1, none⟩ = some (.slice n.ls.A n.ls.n n.ls.c) := (H.out.blk 1 rfl).cell 1
    have cs : w1.cell? ⟨x, 0, none⟩ = some (.slice s.sz.A s.sz.n s.sz.c) := (H.out.blk 0 rfl).cell 0
    have f_cd := fun u : Over w1 => Over.cell cd u
    have f_cl := fun u : Over w1 => Over.cell cl u
    have f_cs := fun u : Over w1 => Over.cell cs u
    refine wp_region_over (by kernel_rfl) (by kernel_rfl) ?_
    (try simp only [Act.put, List.setIfInBounds_toArray, List.set_cons_zero, List.set_cons_succ])
    repeat (go_big_quiet_step (fail))
    refine wpQuiet_nil ?_
    rintro w5 ⟨⟨_, hw5⟩, rfl⟩
    (try dsimp only)
    replace H := Lib.hid (H.out.bel hw5); (try simp only [List.set_cons_zero, List.set_cons_succ, List.cons_append, List.nil_append, List.eraseIdx_cons_zero, List.eraseIdx_cons_succ, List.setIfInBounds_toArray, World.size_alloc, selR, List.getD_cons_zero, List.getD_cons_succ] at H)
    clear f_cd f_cl f_cs cd cl cs
    go_wp2_with fail
    go_ret
    (try rw [HV.out])
    exact ⟨rfl, H.out.to⟩
  have d1 : decide (n.dim < 0) = false := by simpa using h1
  by_cases h2 : (s.sz.n : Int) ≤ n.dim
  · have HV : Hid (E = 2) := by show _ = _; rw [hE]; exact nodeErr_none h1 (by show xs.length ≤ n.dim.toNat; rw [HXL.out]; omega)
    have d2 : decide ((s.sz.n : Int) ≤ n.dim) = true := by simpa using h2
    clear hE h1 h2
    go_enter Try.func13, Try.ntmps13
    go_upto_region 1 with fail
    (try rw [← HCS.out] at *)
    generalize w.heap.size + 1 = y at *
    generalize w.heap.size = x at *
    generalize World.alloc (World.alloc _ _) _ = w1 at *
    have cd : w1.cell? ⟨y, 0, none⟩ = some (.int .i64 n.dim) := (H.out.blk 1 rfl).cell 0
    have cl : w1.cell? ⟨y, 1, none⟩ = some (.slice n.ls.A n.ls.n n.ls.c) := (H.out.blk 1 rfl).cell 1
    have cs : w1.cell? ⟨x, 0, none⟩ = some (.slice s.sz.A s.sz.n s.sz.c) := (H.out.blk 0 rfl).cell 0
    have f_cd := fun u : Over w1 => Over.cell cd u
    have f_cl := fun u : Over w1 => Over.cell cl u
    have f_cs := fun u : Over w1 => Over.cell cs u
    refine wp_region_over (by kernel_rfl) (by kernel_rfl) ?_
    (try simp only [Act.put, List.setIfInBounds_toArray, List.set_cons_zero, List.set_cons_succ])
    repeat (go_big_quiet_step (fail))
    refine wpQuiet_nil ?_
    rintro w5 ⟨⟨_, hw5⟩, rfl⟩
    (try dsimp only)
    replace H := Lib.hid (H.out.bel hw5); (try simp only [List.set_cons_zero, List.set_cons_succ, List.cons_append, List.nil_append, List.eraseIdx_cons_zero, List.eraseIdx_cons_succ, List.setIfInBounds_toArray, World.size_alloc, selR, List.getD_cons_zero, List.getD_cons_succ] at H)
    clear f_cd f_cl f_cs cd cl cs
    go_wp2_with fail
    go_ret
    (try rw [HV.out])
    exact ⟨rfl, H.out.to⟩
  have d2 : decide ((s.sz.n : Int) ≤ n.dim) = false := by simp <;> omega
  obtain ⟨D, hD⟩ : ∃ D : Nat, n.dim = D := ⟨n.dim.toNat, by omega⟩
  have hDn : D < s.sz.n := by omega
  obtain ⟨bs, os, z, hAs, hzk, hzok, hzc⟩ := (HS.out w (Bel.refl _)).slAt (k := D) hDn
  have HZ := Lib.hid (fun w' (hb : Bel w w') => hzok.mono hb)
  have HZC := Lib.hid (fun w' (hb : Bel w w') => (hb.cell (p := ⟨bs, os + D, none⟩) (World.block_lt_of_cell? _ _ hzc)).trans hzc)
  have hxz : xs[n.con.dim.toNat]? = some z.l := by rw [show n.con.dim.toNat = D by show n.dim.toNat = D; omega, hxs]; show (s.sz.l.map Row.l)[D]? = _; rw [List.getElem?_map, hzk]; rfl
  rw [nodeErr_some (show ¬ n.con.dim < 0 from h1) hxz] at hE
  have hzl : z.l.length = z.n := hzok.len
  have z63 := hzok.size
  have i0 : (0 : Int) ≤ D := by omega
  have i1 : (D : Int) < s.sz.n := by omega
  obtain ⟨sz, hsz⟩ : ∃ sz, sz = z.l := ⟨_, rfl⟩
  have HSZ := Lib.hid hsz
  rw [← hsz] at hE
  have hszl : sz.length = z.n := by rw [hsz]; exact hzl
  replace hE : E = if sz.length = 0 ∨ nls.length ≠ sz.length then 2 else if firstErr (listAt xs.length s.ms n.dim sz nls) nls.length 0 ≠ 0 then firstErr (listAt xs.length s.ms n.dim sz nls) nls.length 0 else if n.all.key ≠ 0 ∨ cellOk xs.length s.ms n.dim n.all = false then 2 else 0 := by rw [hE, hnls]
  rw [hszl, HNL.out] at hE
  rw [hD] at d1 d2
  clear hxs hnls hsz hszl hzl
  have d2n : decide (s.sz.n ≤ D) = false := by simp <;> omega
  have d2m : (s.sz.n ≤ D) = False := by simp <;> omega
  clear hzk hzok hzc hxz h1 h2
  by_cases h4 : z.n = 0
  · have HV : Hid (E = 2) := by show _ = _; rw [hE, if_pos (.inl h4)]
    rw [h4] at HZC
    clear h4
    clear hE
    go_enter Try.func13, Try.ntmps13
    go_upto_region 1 with fail
    (try rw [← HCS.out] at *)
    generalize w.heap.size + 1 = y at *
    generalize w.heap.size = x at *
    generalize World.alloc (World.alloc _ _) _ = w1 at *
    have cd : w1.cell? ⟨y, 0, none⟩ = some (.int .i64 n.dim) := (H.out.blk 1 rfl).cell 0
    have cl : w1.cell? ⟨y, 1, none⟩ = some (.slice n.ls.A n.ls.n n.ls.c) := (H.out.blk 1 rfl).cell 1
    have cs : w1.cell? ⟨x, 0, none⟩ = some (.slice s.sz.A s.sz.n s.sz.c) := (H.out.blk 0 rfl).cell 0
    rw [hD] at cd
    rw [hAs] at cs
    have cy := HZC.out _ H.out.to
    clear hD
    have f_cd := fun u : Over w1 => Over.cell cd u
    have f_cl := fun u : Over w1 => Over.cell cl u
    have f_cs := fun u : Over w1 => Over.cell cs u
    have f_cy := fun u : Over w1 => Over.cell cy u
    refine wp_region_over (by kernel_rfl) (by kernel_rfl) ?_
    (try simp only [Act.put, List.setIfInBounds_toArray, List.set_cons_zero, List.set_cons_succ])
    repeat (go_big_quiet_step (fail))
    refine wpQuiet_nil ?_
    rintro w5 ⟨⟨_, hw5⟩, rfl⟩
    (try dsimp only)
    replace H := Lib.hid (H.out.bel hw5); (try simp only [List.set_cons_zero, List.set_cons_succ, List.cons_append, List.nil_append, List.eraseIdx_cons_zero, List.eraseIdx_cons_succ, List.setIfInBounds_toArray, World.size_alloc, selR, List.getD_cons_zero, List.getD_cons_succ] at H)
    clear f_cd f_cl f_cs f_cy cd cl cs cy
    go_wp2_with fail
    go_ret
    (try rw [HV.out])
    exact ⟨rfl, H.out.to⟩
  have d4 : ((z.n : Int) == 0) = false := by simp; omega
  have d4n : (z.n == 0) = false := by simp; omega
  by_cases h3 : n.ls.n ≠ z.n
  · have HV : Hid (E = 2) := by show _ = _; rw [hE, if_pos (.inr h3)]
    have d3 : ((n.ls.n : Int) != z.n) = true := by simp; omega
    have d3n : (n.ls.n != z.n) = true := by simp; omega
    clear h3
    clear hE
    go_enter Try.func13, Try.ntmps13
    go_upto_region 1 with fail
    (try rw [← HCS.out] at *)
    generalize w.heap.size + 1 = y at *
    generalize w.heap.size = x at *
    generalize World.alloc (World.alloc _ _) _ = w1 at *
    have cd : w1.cell? ⟨y, 0, none⟩ = some (.int .i64 n.dim) := (H.out.blk 1 rfl).cell 0
    have cl : w1.cell? ⟨y, 1, none⟩ = some (.slice n.ls.A n.ls.n n.ls.c) := (H.out.blk 1 rfl).cell 1
    have cs : w1.cell? ⟨x, 0, none⟩ = some (.slice s.sz.A s.sz.n s.sz.c) := (H.out.blk 0 rfl).cell 0
    rw [hD] at cd
    rw [hAs] at cs
    have cy := HZC.out _ H.out.to
    clear hD
    have f_cd := fun u : Over w1 => Over.cell cd u
    have f_cl := fun u : Over w1 => Over.cell cl u
    have f_cs := fun u : Over w1 => Over.cell cs u
    have f_cy := fun u : Over w1 => Over.cell cy u
    refine wp_region_over (by kernel_rfl) (by kernel_rfl) ?_
    (try simp only [Act.put, List.setIfInBounds_toArray, List.set_cons_zero, List.set_cons_succ])
    repeat (go_big_quiet_step (fail))
    refine wpQuiet_nil ?_
    rintro w5 ⟨⟨_, hw5⟩, rfl⟩
    (try dsimp only)
    replace H := Lib.hid (H.out.bel hw5); (try simp only [List.set_cons_zero, List.set_cons_succ, List.cons_append, List.nil_append, List.eraseIdx_cons_zero, List.eraseIdx_cons_succ, List.setIfInBounds_toArray, World.size_alloc, selR, List.getD_cons_zero, List.getD_cons_succ] at H)
    clear f_cd f_cl f_cs f_cy cd cl cs cy
    go_wp2_with fail
    go_ret
    (try rw [HV.out])
    exact ⟨rfl, H.out.to⟩
  replace h3 : n.ls.n = z.n := Classical.not_not.1 h3
  have HE : Hid (E = if firstErr (listAt xs.length s.ms n.dim sz nls) (n.ls.n - 0) 0 ≠ 0 then firstErr (listAt xs.length s.ms n.dim sz nls) (n.ls.n - 0) 0 else if n.all.key ≠ 0 ∨ cellOk xs.length s.ms n.dim n.all = false then 2 else 0) := by show _ = _; rw [hE, if_neg (by rintro (h | h); exact h4 h; exact h h3), Nat.sub_zero]
  have d3 : ((n.ls.n : Int) == 0) = false := by simp; omega
  have d3n : (n.ls.n == 0) = false := by simp; omega
  have d5 : ((n.ls.n : Int) != n.ls.n) = false := by simp
  rw [← h3] at HZC
  have HZN : Hid (z.n = n.ls.n) := h3.symm
  clear hE h3 h4
  go_enter Try.func13, Try.ntmps13
  go_upto_region 1 with fail
  (try rw [← HCS.out] at *)
  generalize w.heap.size + 1 = y at *
  generalize w.heap.size = x at *
  generalize World.alloc (World.alloc _ _) _ = w1 at *
  have cd : w1.cell? ⟨y, 0, none⟩ = some (.int .i64 n.dim) := (H.out.blk 1 rfl).cell 0
  have cl : w1.cell? ⟨y, 1, none⟩ = some (.slice n.ls.A n.ls.n n.ls.c) := (H.out.blk 1 rfl).cell 1
  have cs : w1.cell? ⟨x, 0, none⟩ = some (.slice s.sz.A s.sz.n s.sz.c) := (H.out.blk 0 rfl).cell 0
  rw [hD] at cd
  rw [hAs] at cs
  have cy := HZC.out _ H.out.to
  have f_cd := fun u : Over w1 => Over.cell cd u
  have f_cl := fun u : Over w1 => Over.cell cl u
  have f_cs := fun u : Over w1 => Over.cell cs u
  have f_cy := fun u : Over w1 => Over.cell cy u
  refine wp_region_over (by kernel_rfl) (by kernel_rfl) ?_
  (try simp only [Act.put, List.setIfInBounds_toArray, List.set_cons_zero, List.set_cons_succ])
  repeat (go_big_quiet_step (fail))
  refine wpQuiet_nil ?_
  rintro w5 ⟨⟨_, hw5⟩, rfl⟩
  (try dsimp only)
  replace H := Lib.hid (H.out.bel hw5); (try simp only [List.set_cons_zero, List.set_cons_succ, List.cons_append, List.nil_append, List.eraseIdx_cons_zero, List.eraseIdx_cons_succ, List.setIfInBounds_toArray, World.size_alloc, selR, List.getD_cons_zero, List.getD_cons_succ] at H)
  clear f_cd f_cl f_cs f_cy cd cl cs cy
  clear d1 d2 d2n d2m d3 d3n d4 d4n d5
  have cl : w5.cell? ⟨y, 1, none⟩ = some (.slice n.ls.A n.ls.n n.ls.c) := (H.out.blk 1 rfl).cell 1
  go_upto_region 4 with fail
  clear cl
  have HDD := Lib.hid hD
  clear hD
  have HAS := Lib.hid hAs
  clear hAs
  go_loopg [45] n.ls.n (fun gg s45 wr => ∃ (k : Nat), gg = n.ls.n - k ∧ k ≤ n.ls.n ∧ s45 = .int .i64 k ∧ Hid (E = if firstErr (listAt xs.length s.ms n.dim sz nls) (n.ls.n - k) k ≠ 0 then firstErr (listAt xs.length s.ms n.dim sz nls) (n.ls.n - k) k else if n.all.key ≠ 0 ∨ cellOk xs.length s.ms n.dim n.all = false then 2 else 0) ∧ Hid (SL No w wr [rBlk x 24 s.cs, rBlk y 34 n.cs]))
  case atStart => exact ⟨0, rfl, by omega, rfl, HE, H⟩
  case round =>
    clear H HE
    obtain ⟨k, hgk, hk, rfl, HE, H⟩ := hrel
    have Hgk := Lib.hid hgk
    clear hgk
    by_cases hlt : k < n.ls.n
    · obtain ⟨W0, hW0⟩ : ∃ W0, W0 = wr := ⟨_, rfl⟩
      subst hW0
      obtain ⟨bl, ol, v, hAl, hvk, hvok, hvc⟩ := (HN.out _ H.out.to).clsAt (k := k) hlt
      obtain ⟨bz, oz, size, hAz, hzk, hz64, hzc⟩ := (HZ.out _ H.out.to).int (k := k) (by rw [HZN.out]; exact hlt)
      have hat := listAt_some (nd := xs.length) (ms := s.ms) (dim := n.dim) (ls := nls) (sz := sz) (k := k) (l := v.l) (size := size) (by rw [HNLS.out, List.getElem?_map, hvk]; rfl) (by rw [HSZ.out]; exact hzk)
      rw [HXL.out] at hat
      have HAT := Lib.hid hat
      have HVR := Lib.hid (fun w' (hb : Bel W0 w') => hvok.rds.mono hb)
      have HZC2 := Lib.hid (fun w' (hb : Bel W0 w') => (hb.cell (p := ⟨bz, oz + k, none⟩) (World.block_lt_of_cell? _ _ hzc)).trans hzc)
      have HVC2 := Lib.hid (fun w' (hb : Bel W0 w') => (hb.cell (p := ⟨bl, ol + k, none⟩) (World.block_lt_of_cell? _ _ hvc)).trans hvc)
      have HPV : Hid (0 < k → ∃ p : Row Cl, nls[k - 1]? = some p.l ∧ p.l.length = p.n ∧ p.n ≤ 1466015503700 ∧ ∀ w', Bel w w' → w'.cell? ⟨bl, ol + (k - 1), none⟩ = some (.slice p.A p.n p.c)) := fun h0 => by
        obtain ⟨p, hp⟩ : ∃ p, n.ls.l[k - 1]? = some p := ⟨_, List.getElem?_eq_getElem (by rw [HLL.out]; omega)⟩
        have hpo := (HN.out _ (Bel.refl w)).all p (List.mem_of_getElem? hp)
        refine ⟨p, by rw [HNLS.out, List.getElem?_map, hp]; rfl, hpo.len, rdCls hpo, fun w' hb => ?_⟩
        obtain ⟨b2, o2, p2, hA2, hp2, _, hr2⟩ := (HN.out w' hb).clsAt (k := k - 1) (by omega)
        rw [hp] at hp2
        injection hp2 with hp2
        subst hp2
        rw [hAl] at hA2
        injection hA2 with hA2
        injection hA2 with e1 e2
        subst e1 e2
        exact hr2
      have hvl : Hid (v.l.length = v.n) := hvok.len
      have hvn := rdCls hvok
      have z64 := hz64
      unfold I64 at z64
      have k0 : (0 : Int) ≤ k := by omega
      have k1 : (k : Int) < n.ls.n := by omega
      have k2 : (k : Int) < z.n := by rw [HZN.out]; exact k1
      have cl : W0.cell? ⟨y, 1, none⟩ = some (.slice n.ls.A n.ls.n n.ls.c) := (H.out.blk 1 rfl).cell 1
      rw [hAl] at cl
      have HAL2 := Lib.hid hAl
      have HAZ := Lib.hid hAz
      obtain ⟨LE, hLE⟩ : ∃ e, e = listErr s.sz.n s.ms n.dim size v.l := ⟨_, rfl⟩
      rw [← hLE] at HAT
      have HEL : Hid (LE ≠ 0 → E = LE) := fun he => by rw [HE.out, HXL.out, firstErr_hit hlt (by rw [HAT.out, if_pos he]) he, if_pos he]
      clear hat hvk hvok hzk hz64 hAl hAz
      by_cases hv0 : v.n = 0
      · have HV : Hid (E = 2) := by
          have h2 : LE = 2 := by rw [hLE]; unfold listErr; rw [if_pos (by rw [hvl.out]; exact hv0)]
          show _ = _
          rw [HEL.out (by rw [h2]; decide), h2]
        rw [hv0] at hvc
        clear hLE HE HAT HPV HEL hv0
        go_wp2_with fail
        go_ret
        (try rw [HV.out])
        exact ⟨rfl, H.out.to⟩
      have HLE : Hid (LE = firstErr (cellAt s.sz.n s.ms n.dim size v.l) (v.n - 0) 0) := by show _ = _; rw [hLE]; unfold listErr; rw [if_neg (by rw [hvl.out]; exact hv0), hvl.out, Nat.sub_zero]
      have z0 : ((v.n : Int) == 0) = false := by simp; omega
      have z0n : (v.n == 0) = false := by simp; omega
      obtain ⟨bb, oo, _, hAq, _, _, _, _⟩ := (HVR.out W0 (Bel.refl _)).clAt (k := 0) (by omega)
      rw [hAq] at hvc
      have HAQ := Lib.hid hAq
      clear hLE hv0 hAq
      go_upto_region 10 with fail
      clear z0 z0n hvc hzc cl
      go_loopg [58] v.n (fun gg s58 wr => ∃ (i : Nat), gg = v.n - i ∧ i ≤ v.n ∧ s58 = .int .i64 i ∧ Hid (LE = firstErr (cellAt s.sz.n s.ms n.dim size v.l) (v.n - i) i) ∧ Hid (SL No W0 wr []) ∧ Hid (SL No w wr [rBlk x 24 s.cs, rBlk y 34 n.cs]))
      case atStart => exact ⟨0, rfl, by omega, rfl, HLE, Lib.hid (SL.start No W0), H⟩
      case round =>
        clear H HLE
        obtain ⟨i, hgi, hi, rfl, HLE, HW, H⟩ := hrel
        have Hgi := Lib.hid hgi
        clear hgi
        have cd : wr.cell? ⟨y, 0, none⟩ = some (.int .i64 n.dim) := (H.out.blk 1 rfl).cell 0
        have cs : wr.cell? ⟨x, 0, none⟩ = some (.slice s.sz.A s.sz.n s.sz.c) := (H.out.blk 0 rfl).cell 0
        rw [HAS.out] at cs
        rw [HDD.out] at cd
        have cy := HZC.out _ H.out.to
        rw [HAZ.out] at cy
        have cz := HZC2.out _ HW.out.to
        by_cases hit : i < v.n
        · obtain ⟨b4, o4, q, hA4, hbb, hq, hqok, hqr⟩ := (HVR.out _ HW.out.to).clAt (k := i) hit
          rw [HAQ.out] at hA4
          injection hA4 with hA4
          injection hA4 with e4 e5
          subst e4 e5
          have HATC := Lib.hid (cellAt_some (nd := s.sz.n) (ms := s.ms) (dim := n.dim) (size := size) hq)
          have HQR := Lib.hid (fun w' (hb : Bel wr w') => rangeAt_bel hbb hqr hb)
          have HQ := Lib.hid hqok
          have HQC := Lib.hid (fun w' (hb : Bel w w') => HCC.out q w' hb hqok)
          have cq : wr.cell? ⟨bb, oo + i * 12, none⟩ = some (.int .i64 q.key) := hqr 0 _ rfl
          have HPQ : Hid (0 < i → ∃ p : Cl, v.l[i - 1]? = some p ∧ ∀ w', Bel wr w' → w'.cell? ⟨bb, oo + (i - 1) * 12, none⟩ = some (.int .i64 p.key)) := fun h0 => by
            obtain ⟨p, hp⟩ : ∃ p, v.l[i - 1]? = some p := ⟨_, List.getElem?_eq_getElem (by rw [hvl.out]; omega)⟩
            refine ⟨p, hp, fun w' hb => ?_⟩
            obtain ⟨b2, o2, p2, hA2, _, hp2, _, hr2⟩ := (HVR.out w' (HW.out.to.trans hb)).clAt (k := i - 1) (by omega)
            rw [hp] at hp2
            injection hp2 with hp2
            subst hp2
            rw [HAQ.out] at hA2
            injection hA2 with hA2
            injection hA2 with e1 e2
            subst e1 e2
            exact hr2 0 _ rfl
          have i0' : (0 : Int) ≤ i := by omega
          have i1' : (i : Int) < v.n := by omega
          have D0 : (0 : Int) ≤ D := by omega
          clear hq hqok hqr
          by_cases hb1 : q.key < 0
          · have HV : Hid (E = 13) := by
              have h13 : LE = 13 := by rw [HLE.out]; exact firstErr_hit hit (by rw [HATC.out, if_pos (.inl hb1)]) (by decide)
              show _ = _; rw [HEL.out (by rw [h13]; decide), h13]
            have d1 : decide (q.key < 0) = true := by simpa using hb1
            clear HE HAT HLE HATC HEL hb1 HPV HPQ
            go_upto_region 12 with fail
            have f_cd := fun u : Over wr => Over.cell cd u
            have f_cs := fun u : Over wr => Over.cell cs u
            have f_cy := fun u : Over wr => Over.cell cy u
            have f_cz := fun u : Over wr => Over.cell cz u
            have f_cq := fun u : Over wr => Over.cell cq u
            refine wp_region_over (by kernel_rfl) (by kernel_rfl) ?_
            (try simp only [Act.put, List.setIfInBounds_toArray, List.set_cons_zero, List.set_cons_succ])
            repeat (go_big_quiet_step (fail))
            refine wpQuiet_nil ?_
            rintro w5 ⟨⟨_, hw5⟩, rfl⟩
            (try dsimp only)
            replace H := Lib.hid (H.out.bel hw5); (try simp only [List.set_cons_zero, List.set_cons_succ, List.cons_append, List.nil_append, List.eraseIdx_cons_zero, List.eraseIdx_cons_succ, List.setIfInBounds_toArray, World.size_alloc, selR, List.getD_cons_zero, List.getD_cons_succ] at H)
            clear f_cd f_cs f_cy f_cz f_cq cd cs cy cz cq
            go_wp2_with fail
            go_ret
            (try rw [HV.out])
            exact ⟨rfl, H.out.to⟩
          have d1 : decide (q.key < 0) = false := by simpa using hb1
          by_cases hb2 : size ≤ q.key
          · have HV : Hid (E = 13) := by
              have h13 : LE = 13 := by rw [HLE.out]; exact firstErr_hit hit (by rw [HATC.out, if_pos (.inr hb2)]) (by decide)
              show _ = _; rw [HEL.out (by rw [h13]; decide), h13]
            have d2 : decide (size ≤ q.key) = true := by simpa using hb2
            clear HE HAT HLE HATC HEL hb1 hb2 HPV HPQ
            go_upto_region 12 with fail
            have f_cd := fun u : Over wr => Over.cell cd u
            have f_cs := fun u : Over wr => Over.cell cs u
            have f_cy := fun u : Over wr => Over.cell cy u
            have f_cz := fun u : Over wr => Over.cell cz u
            have f_cq := fun u : Over wr => Over.cell cq u
            refine wp_region_over (by kernel_rfl) (by kernel_rfl) ?_
            (try simp only [Act.put, List.setIfInBounds_toArray, List.set_cons_zero, List.set_cons_succ])
            repeat (go_big_quiet_step (fail))
            refine wpQuiet_nil ?_
            rintro w5 ⟨⟨_, hw5⟩, rfl⟩
            (try dsimp only)
            replace H := Lib.hid (H.out.bel hw5); (try simp only [List.set_cons_zero, List.set_cons_succ, List.cons_append, List.nil_append, List.eraseIdx_cons_zero, List.eraseIdx_cons_succ, List.setIfInBounds_toArray, World.size_alloc, selR, List.getD_cons_zero, List.getD_cons_succ] at H)
            clear f_cd f_cs f_cy f_cz f_cq cd cs cy cz cq
            go_wp2_with fail
            go_ret
            (try rw [HV.out])
            exact ⟨rfl, H.out.to⟩
          have d2 : decide (size ≤ q.key) = false := by simp <;> omega
          have HAT2 : Hid (cellAt s.sz.n s.ms n.dim size v.l i = if 0 < i ∧ q.key ≤ ((v.l[i - 1]?).getD .nil).key then 4 else if cellOk s.sz.n s.ms n.dim q = false then 2 else 0) := by show _ = _; rw [HATC.out, if_neg (by omega)]
          clear HATC hb1 hb2
          go_upto_region 12 with fail
          have f_cd := fun u : Over wr => Over.cell cd u
          have f_cs := fun u : Over wr => Over.cell cs u
          have f_cy := fun u : Over wr => Over.cell cy u
          have f_cz := fun u : Over wr => Over.cell cz u
          have f_cq := fun u : Over wr => Over.cell cq u
          refine wp_region_over (by kernel_rfl) (by kernel_rfl) ?_
          (try simp only [Act.put, List.setIfInBounds_toArray, List.set_cons_zero, List.set_cons_succ])
          repeat (go_big_quiet_step (fail))
          refine wpQuiet_nil ?_
          rintro w5 ⟨⟨_, hw5⟩, rfl⟩
          (try dsimp only)
          replace H := Lib.hid (H.out.bel hw5); (try simp only [List.set_cons_zero, List.set_cons_succ, List.cons_append, List.nil_append, List.eraseIdx_cons_zero, List.eraseIdx_cons_succ, List.setIfInBounds_toArray, World.size_alloc, selR, List.getD_cons_zero, List.getD_cons_succ] at H)
          clear f_cd f_cs f_cy f_cz f_cq cd cs cy cz cq
          replace HW := Lib.hid (HW.out.bel hw5)
          have cq : w5.cell? ⟨bb, oo + i * 12, none⟩ = some (.int .i64 q.key) := HQR.out _ hw5 0 _ rfl
          clear d1 d2
          go_upto_region 14 with fail
          go_cut [99] (fun s99 wx => ∃ bv : Bool, s99 = .bool bv ∧ Hid (cellAt s.sz.n s.ms n.dim size v.l i = if bv = true then 4 else if cellOk s.sz.n s.ms n.dim q = false then 2 else 0) ∧ Hid (Bel wr wx) ∧ Hid (SL No W0 wx []) ∧ Hid (SL No w wx [rBlk x 24 s.cs, rBlk y 34 n.cs]))
          case first =>
            by_cases hi0 : 0 < i
            · obtain ⟨p, hp, hpc⟩ := HPQ.out hi0
              have HAT3 : Hid (cellAt s.sz.n s.ms n.dim size v.l i = if decide (q.key ≤ p.key) = true then 4 else if cellOk s.sz.n s.ms n.dim q = false then 2 else 0) := by
                show _ = _
                rw [HAT2.out, hp]
                simp [hi0]
              have cp := hpc _ hw5
              obtain ⟨j, hj⟩ : ∃ j, i = j + 1 := ⟨i - 1, by omega⟩
              rw [show i - 1 = j by omega] at cp
              have e2 : (i : Int) - 1 = j := by omega
              have m0 : (0 : Int) ≤ j := by omega
              have m1 : (j : Int) < v.n := by omega
              have e1 : decide ((0 : Int) < i) = true := by simp <;> omega
              have e1n : decide (0 < i) = true := by simp <;> omega
              have HB5 := Lib.hid hw5
              clear hp hpc HPQ HAT2 hi0 hw5 hj
              have f_cq := fun u : Over w5 => Over.cell cq u
              have f_cp := fun u : Over w5 => Over.cell cp u
              refine wp_region_over (by kernel_rfl) (by kernel_rfl) ?_
              (try simp only [Act.put, List.setIfInBounds_toArray, List.set_cons_zero, List.set_cons_succ])
              repeat (go_big_quiet_step (fail))
              refine wpQuiet_nil ?_
              rintro w6 ⟨⟨_, hw6⟩, rfl⟩
              (try dsimp only)
              replace H := Lib.hid (H.out.bel hw6); (try simp only [List.set_cons_zero, List.set_cons_succ, List.cons_append, List.nil_append, List.eraseIdx_cons_zero, List.eraseIdx_cons_succ, List.setIfInBounds_toArray, World.size_alloc, selR, List.getD_cons_zero, List.getD_cons_succ] at H)
              clear f_cq f_cp cq cp
              go_wp2_with fail
              go_meet
              exact ⟨_, rfl, HAT3, HB5.out.trans hw6, HW.out.bel hw6, H⟩
            · have e1 : decide ((0 : Int) < i) = false := by simp <;> omega
              have e1n : decide (0 < i) = false := by simp <;> omega
              have HAT3 : Hid (cellAt s.sz.n s.ms n.dim size v.l i = if (false : Bool) = true then 4 else if cellOk s.sz.n s.ms n.dim q = false then 2 else 0) := by
                show _ = _
                rw [HAT2.out, if_neg (fun h => hi0 h.1)]
                simp
              have HB5 := Lib.hid hw5
              clear HAT2 HPQ hw5 hi0
              have f_cq := fun u : Over w5 => Over.cell cq u
              refine wp_region_over (by kernel_rfl) (by kernel_rfl) ?_
              (try simp only [Act.put, List.setIfInBounds_toArray, List.set_cons_zero, List.set_cons_succ])
              repeat (go_big_quiet_step (fail))
              refine wpQuiet_nil ?_
              rintro w6 ⟨⟨_, hw6⟩, rfl⟩
              (try dsimp only)
              replace H := Lib.hid (H.out.bel hw6); (try simp only [List.set_cons_zero, List.set_cons_succ, List.cons_append, List.nil_append, List.eraseIdx_cons_zero, List.eraseIdx_cons_succ, List.setIfInBounds_toArray, World.size_alloc, selR, List.getD_cons_zero, List.getD_cons_succ] at H)
              clear f_cq cq
              go_wp2_with fail
              go_meet
              exact ⟨_, rfl, HAT3, HB5.out.trans hw6, HW.out.bel hw6, H⟩
          case rest =>
            clear H HW cq HAT2 HPQ
            obtain ⟨bv, rfl, HAT2, HBX, HW, H⟩ := hcut
            cases bv with
            | true =>
              have HV : Hid (E = 4) := by
                have h4 : LE = 4 := by rw [HLE.out]; exact firstErr_hit hit (by rw [HAT2.out, if_pos rfl]) (by decide)
                show _ = _; rw [HEL.out (by rw [h4]; decide), h4]
              clear HE HAT HLE HAT2 HEL HPV
              go_wp2_with fail
              go_ret
              (try rw [HV.out])
              exact ⟨rfl, H.out.to⟩
            | false =>
              go_upto_region 16 with fail
              have HRQ := HQR.out _ HBX.out
              have hbx := Nat.lt_of_lt_of_le hbb HBX.out.size
              have cd := (H.out.blk 1 rfl).cell 0
              change _ = some (Value.int .i64 n.dim) at cd
              have HB := Lib.hid H.out.to
              have f_cd := fun u : Over _ => Over.cell cd u
              refine wp_region_over (by kernel_rfl) (by kernel_rfl) ?_
              (try simp only [Act.put, List.setIfInBounds_toArray, List.set_cons_zero, List.set_cons_succ])
              repeat (first
                | ((with_reducible show wpQuiet _ _ _ _ (⟨some 100, _, _, _, _, _⟩ :: _) _); refine wpQuiet_load_row (by first | rfl | go_simp) rowShp2 (.tmp 2) rfl _ (0) rfl _ rfl (H.out.blk 0 rfl).lt (H.out.blk 0 rfl).range ?_; simp only [Act.put, List.setIfInBounds_toArray, List.set_cons_zero, List.set_cons_succ])
                | ((with_reducible show wpQuiet _ _ _ _ (⟨some 106, _, _, _, _, _⟩ :: _) _); refine wpQuiet_load_row (by first | rfl | go_simp) rowCl (.tmp 105) rfl bb (oo + i * 12) rfl q.cs rfl hbx HRQ ?_; simp only [Act.put, List.setIfInBounds_toArray, List.set_cons_zero, List.set_cons_succ])
                | ((with_reducible show wpQuiet _ _ _ _ (⟨some 107, _, _, _, _, _⟩ :: _) _); go_big_quiet_step ((go_at_call 38; rename_i u; exact calls_over (HQC.out _ (HB.out.trans u.bel)))))
                | go_big_quiet_step (fail))
              refine wpQuiet_nil ?_
              rintro w5 ⟨⟨_, hw5⟩, rfl⟩
              (try dsimp only)
              replace H := Lib.hid (H.out.bel hw5); (try simp only [List.set_cons_zero, List.set_cons_succ, List.cons_append, List.nil_append, List.eraseIdx_cons_zero, List.eraseIdx_cons_succ, List.setIfInBounds_toArray, World.size_alloc, selR, List.getD_cons_zero, List.getD_cons_succ] at H)
              clear f_cd cd
              replace HW := Lib.hid (HW.out.bel hw5)
              clear HRQ hbx HB HQC
              cases hck : cellOk s.sz.n s.ms n.dim q with
              | false =>
                have HV : Hid (E = 2) := by
                  have h2 : LE = 2 := by rw [HLE.out]; exact firstErr_hit hit (by rw [HAT2.out, if_neg (by simp), if_pos hck]) (by decide)
                  show _ = _; rw [HEL.out (by rw [h2]; decide), h2]
                clear HE HAT HLE HAT2 HEL HPV hck
                go_wp2_with fail
                go_ret
                (try rw [HV.out])
                exact ⟨rfl, H.out.to⟩
              | true =>
                have HLE2 : Hid (LE = firstErr (cellAt s.sz.n s.ms n.dim size v.l) (v.n - (i + 1)) (i + 1)) := by show _ = _; rw [HLE.out]; exact firstErr_next hit (by rw [HAT2.out, if_neg (by simp), if_neg (by rw [hck]; simp)])
                clear HLE HAT2 hck
                go_wp2_with fail
                go_roundg (v.n - (i + 1))
                case rel => exact ⟨i + 1, rfl, by omega, by go_num, HLE2, HW, H⟩
                case measure => rw [Hgi.out]; omega
        · obtain rfl : i = v.n := by omega
          have hL0 : LE = 0 := by rw [HLE.out, Nat.sub_self]; rfl
          clear cd cs cy cz HLE
          subst hL0
          have cl : wr.cell? ⟨y, 1, none⟩ = some (.slice (some ⟨bl, ol, none⟩) n.ls.n n.ls.c) := by have h := (H.out.blk 1 rfl).cell 1; rw [← HAL2.out]; exact h
          by_cases hk0 : 0 < k
          · obtain ⟨p, hp, hpl, hpn, hpc⟩ := HPV.out hk0
            have cp := hpc wr (H.out.to)
            rw [hp] at HAT
            simp only [Option.getD_some] at HAT
            have HAT1 : Hid (listAt s.sz.n s.ms n.dim sz nls k = if p.n < v.n then 14 else 0) := by show _ = _; rw [HAT.out, if_neg (by simp)]; simp [hk0, hpl, hvl.out]
            obtain ⟨j, hj⟩ : ∃ j, k = j + 1 := ⟨k - 1, by omega⟩
            rw [show k - 1 = j by omega] at cp
            have e2 : (k : Int) - 1 = j := by omega
            have m0 : (0 : Int) ≤ j := by omega
            have m1 : (j : Int) < n.ls.n := by omega
            have e1 : decide ((0 : Int) < k) = true := by simp <;> omega
            have e1n : decide (0 < k) = true := by simp <;> omega
            clear hj
            by_cases hlv : p.n < v.n
            · have HV : Hid (E = 14) := by show _ = _; rw [HE.out, HXL.out, firstErr_hit hlt (by rw [HAT1.out, if_pos hlv]) (by decide)]; rfl
              have d3 : decide ((p.n : Int) < v.n) = true := by simp; omega
              have d3n : decide (p.n < v.n) = true := by simp; omega
              clear hp hpc HPV HAT HAT1 HE hk0 hlv HEL
              go_wp2_with fail
              go_ret
              (try rw [HV.out])
              exact ⟨rfl, H.out.to⟩
            · have HZ0 : Hid (listAt xs.length s.ms n.dim sz nls k = 0) := by show _ = _; rw [HXL.out, HAT1.out, if_neg hlv]
              have d3 : decide ((p.n : Int) < v.n) = false := by simp; omega
              have d3n : decide (p.n < v.n) = false := by simp; omega
              clear hp hpc HPV HAT1 hk0 hlv
              have HE2 : Hid (E = if firstErr (listAt xs.length s.ms n.dim sz nls) (n.ls.n - (k + 1)) (k + 1) ≠ 0 then firstErr (listAt xs.length s.ms n.dim sz nls) (n.ls.n - (k + 1)) (k + 1) else if n.all.key ≠ 0 ∨ cellOk xs.length s.ms n.dim n.all = false then 2 else 0) := by show _ = _; rw [HE.out, firstErr_next hlt HZ0.out]
              clear HE HAT HZ0
              go_wp2_with fail
              go_roundg (n.ls.n - (k + 1))
              case rel => exact ⟨k + 1, rfl, by omega, by go_num, HE2, H⟩
              case measure => rw [Hgk.out]; omega
          · have e1 : decide ((0 : Int) < k) = false := by simp <;> omega
            have e1n : decide (0 < k) = false := by simp <;> omega
            have HZ0 : Hid (listAt xs.length s.ms n.dim sz nls k = 0) := by show _ = _; rw [HXL.out, HAT.out, if_neg (by simp), if_neg (fun h => hk0 h.1)]
            clear HPV hk0
            have HE2 : Hid (E = if firstErr (listAt xs.length s.ms n.dim sz nls) (n.ls.n - (k + 1)) (k + 1) ≠ 0 then firstErr (listAt xs.length s.ms n.dim sz nls) (n.ls.n - (k + 1)) (k + 1) else if n.all.key ≠ 0 ∨ cellOk xs.length s.ms n.dim n.all = false then 2 else 0) := by show _ = _; rw [HE.out, firstErr_next hlt HZ0.out]
            clear HE HAT HZ0
            go_wp2_with fail
            go_roundg (n.ls.n - (k + 1))
            case rel => exact ⟨k + 1, rfl, by omega, by go_num, HE2, H⟩
            case measure => rw [Hgk.out]; omega
    · obtain rfl : k = n.ls.n := by omega
      have HE2 : Hid (E = if n.all.key ≠ 0 ∨ cellOk s.sz.n s.ms n.dim n.all = false then 2 else 0) := by show _ = _; rw [HE.out, Nat.sub_self, show firstErr (listAt xs.length s.ms n.dim sz nls) 0 n.ls.n = 0 from rfl, if_neg (by simp), HXL.out]
      have cd : wr.cell? ⟨y, 0, none⟩ = some (.int .i64 n.dim) := (H.out.blk 1 rfl).cell 0
      have ck : wr.cell? ⟨y, 2, none⟩ = some (.int .i64 n.all.key) := (H.out.blk 1 rfl).cell 2
      have HAL : Hid (wr.rangeAt y 2 n.all.cs.toList) := fun j v hv => by
        have := (H.out.blk 1 rfl).range (j + 2) v (by rw [nd_all]; exact hv)
        rw [show 0 + (j + 2) = 2 + j by omega] at this
        exact this
      clear HE
      by_cases hk0 : n.all.key = 0
      · have z1 : (n.all.key != 0) = false := by simpa using hk0
        have HE3 : Hid (E = if cellOk s.sz.n s.ms n.dim n.all = false then 2 else 0) := by show _ = _; rw [HE2.out]; simp [hk0]
        clear HE2 hk0
        go_wp2_with (first | ((with_reducible show wpList _ _ _ (⟨some 130, _, _, _, _, _⟩ :: _) _ _); refine wpList_load_blkG (by first | rfl | go_simp) rowShp2 (.tmp 2) (by rfl) _ (by rfl) (H.out.blk 0 rfl) rfl ?_) | ((with_reducible show wpList _ _ _ (⟨some 134, _, _, _, _, _⟩ :: _) _ _); go_loud (refine wpList_load_rowG (by first | rfl | go_simp) rowCl (.tmp 133) (by rfl) y 2 (by rfl) n.all.cs rfl HAL.out ?_)))
        refine (HC.out _ H.out.to).mono ?_; rintro e w3 ⟨rfl, hb3⟩
        replace H := Lib.hid (H.out.bel hb3); (try simp only [List.set_cons_zero, List.set_cons_succ, List.cons_append, List.nil_append, List.eraseIdx_cons_zero, List.eraseIdx_cons_succ, List.setIfInBounds_toArray, World.size_alloc, selR, List.getD_cons_zero, List.getD_cons_succ] at H)
        clear hb3
        cases hck : cellOk s.sz.n s.ms n.dim n.all with
        | false =>
          have HV : Hid (E = 2) := by show _ = _; rw [HE3.out, if_pos hck]
          clear HE3 hck
          go_wp2_with fail
          go_ret
          (try rw [HV.out])
          exact ⟨rfl, H.out.to⟩
        | true =>
          have HV : Hid (E = 0) := by show _ = _; rw [HE3.out, if_neg (by rw [hck]; simp)]
          clear HE3 hck
          go_wp2_with fail
          go_ret
          (try rw [HV.out])
          exact ⟨rfl, H.out.to⟩
      · have z1 : (n.all.key != 0) = true := by simpa using hk0
        have HV : Hid (E = 2) := by show _ = _; rw [HE2.out, if_pos (.inl hk0)]
        clear HE2 hk0
        go_wp2_with fail
        go_ret
        (try rw [HV.out])
        exact ⟨rfl, H.out.to⟩

end Go.Proofs.Ytlclllkjnhgbjaa
