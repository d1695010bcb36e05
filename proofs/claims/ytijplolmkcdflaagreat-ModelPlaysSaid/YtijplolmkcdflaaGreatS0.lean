/- What follows was written short by a program: the walks that lead to YtijplolmkcdflaaGreatModelPlays. -/
import GoSem.Op.String
import Derived.Test.YtijplolmkcdflaaGreatProg
import Derived.WalkKit
import Derived.WalkLawsBesides
import Derived.WalkSpells
import Derived.Lib.Hide
import Derived.Below
import Derived.Deep.Draws
import Derived.Deep.QuietTactic
import Derived.BigQuiet
import Derived.IntWalk
import Derived.Deep.LoopGhost
import Derived.Outline
import Derived.Lib.SlBytesRow
import Derived.Deep.RegionHeld3
import Derived.OpenShut
import Derived.Laws.BitsAllLaws
import Derived.Laws.Bits64
import Derived.Laws.OwnMore
import Derived.Maps.AppendAt
import Derived.Deep.AppendLies
import Derived.RegionTactic
import Derived.OwnWalk
import Derived.Deep.RegionLaw
import Derived.Laws.Rows
import Derived.Deep.MidRow
import Derived.Laws.ResultCell
import Derived.ProofKit
import Derived.Deep.Slices
import Derived.SizedLaws
import Derived.StillTail
import Derived.Deep.DeepCutAuto
import Derived.Defers
import Derived.Recover
import Derived.Maps.OwnSet
import Derived.Maps.OwnOps
set_option maxHeartbeats 2000000
set_option maxRecDepth 100000
set_option linter.unusedVariables false
set_option linter.unusedSimpArgs false
namespace Go.Proofs.YtijplolmkcdflaaGreat
abbrev CB.{u}:=@List.getElem?_eq_some_iff.{u}
abbrev CU.{u}:=@List.mem_of_getElem?.{u}
abbrev Ak.{u}:=@if_neg.{u}
abbrev Al.{u}:=@if_pos.{u}
abbrev Cn.{u}:=@List.length_append.{u}
abbrev Fp.{u}:=@List.getElem?_eq_getElem.{u}
abbrev Bc:=@Go.bodyPost_ret
abbrev CQ.{u,v}:=@List.length_map.{u,v}
abbrev EN.{u}:=@List.drop_of_length_le.{u}
abbrev Ed.{u,v}:=@List.getElem?_map.{u,v}
abbrev Eg.{u}:=@List.drop_eq_getElem_cons.{u}
abbrev Db:=@Int.toNat_natCast
abbrev Bj:=@Nat.zero_le
abbrev Eo:=@Go.wp_region_held_drew
abbrev EU.{u}:=@List.take_of_length_le.{u}
abbrev Ci:=@Nat.le_refl
abbrev Cf.{u,v}:=@List.map_append.{u,v}
abbrev En.{u}:=@List.length_cons.{u}
abbrev Ef.{u}:=@List.append_assoc.{u}
abbrev FR.{u}:=@List.getElem?_cons_succ.{u}
abbrev Ee.{u}:=@List.mem_singleton.{u}
abbrev Df.{u,v}:=@List.flatMap_cons.{u,v}
abbrev Gg.{u}:=@List.mem_cons_self.{u}
abbrev Ii.{u}:=@List.mem_cons_of_mem.{u}
abbrev Jk.{u}:=@List.getElem?_take_of_lt.{u}
abbrev Eb.{u}:=@List.mem_append.{u}
abbrev JM:=@Go.World.block_lt_of_cell?
abbrev Jj.{u}:=@List.getElem?_eq_none.{u}
abbrev FK.{u}:=@List.length_take.{u}
abbrev LD.{u}:=@List.eq_nil_of_length_eq_zero.{u}
abbrev CS:=@Go.wpQuiet_nil
abbrev Gf:=@Go.World.size_alloc
abbrev FC.{u}:=@List.nil_append.{u}
abbrev Av3:=@Go.wpAnyH_done
abbrev EM.{u,v}:=@List.flatMap_append.{u,v}
abbrev Ih.{u}:=@List.length_drop.{u}
abbrev FJ.{u}:=@List.mem_cons.{u}
abbrev Em.{u,v}:=@List.map_cons.{u,v}
abbrev Nb.{u}:=@Array.all_eq_true_iff_forall_mem.{u}
abbrev KI:=@Nat.lt_of_lt_of_le
abbrev IB:=@Go.IntWalk.i64_in
abbrev EO.{u}:=@List.append_nil.{u}
abbrev FI:=@Nat.zero_add
abbrev CW.{u,v}:=@congrArg.{u,v}
abbrev Na.{u}:=@List.take_append_drop.{u}
abbrev MZ.{u}:=@List.mem_iff_getElem?.{u}
abbrev NK.{u}:=@List.getElem?_set_self.{u}
abbrev EY:=@Go.wpAnyH_ready
abbrev Rh.{u}:=@List.take_succ_eq_append_getElem.{u}
abbrev LC:=@Go.Result.andThen_ok
abbrev QH.{u}:=@List.getElem?_append_left.{u}
abbrev KZ.{u}:=@List.cons_append.{u}
abbrev Po:=@Int.eq_ofNat_of_zero_le
abbrev EX.{u,v}:=@List.map_nil.{u,v}
abbrev QG:=@Go.WideMaps.keyOf_string_mk
abbrev Rf.{u}:=@List.getElem?_append_right.{u}
abbrev Ou.{u}:=@List.getElem?_set_ne.{u}
abbrev IA:=@Nat.le_trans
abbrev Kc.{u,v}:=@List.mem_map.{u,v}
abbrev QF:=@Nat.mul_le_mul_right
abbrev NJ.{u}:=@List.getElem?_drop.{u}
abbrev KH:=@Go.Sem.run_bind
abbrev Kb:=@Nat.add_zero
abbrev Pn.{u}:=@List.take_succ_cons.{u}
abbrev Ka:=@Nat.add_mul
abbrev Re.{u}:=@List.getElem?_toArray.{u}
abbrev LB:=@Go.Sem.run_pure
abbrev Ot.{u}:=@List.length_nil.{u}
abbrev Gt.{u,v}:=@List.flatMap_nil.{u,v}
abbrev TE.{u}:=@List.getElem?_cons_zero.{u}
abbrev QE:=@Go.Maps.string_keyed
abbrev Lx:=@Go.wpAnyH_take
abbrev TD.{u}:=@Array.replicate_zero.{u}
abbrev TB.{u}:=@Array.replicate_succ.{u}
abbrev Vm.{u}:=@Array.getElem?_eq_none.{u}
abbrev QD.{u,v}:=@List.map_toArray.{u,v}
abbrev Rc.{u}:=@List.drop_succ_cons.{u}
abbrev Tz.{u}:=@List.append_toArray.{u}
abbrev Ty:=@Go.Calls.quiet_of_same
abbrev MX:=@Nat.lt_or_ge
abbrev Rb:=@decide_eq_true_eq
abbrev Vl:=@Go.World.cell?_of_block
abbrev Tx.{u}:=@List.mem_of_mem_drop.{u}
abbrev YS.{u}:=@List.getD_eq_getElem?_getD.{u}
abbrev Tw:=@Go.World.ownsRow_nil
abbrev Ra.{u}:=@List.take_add_one.{u}
abbrev Tv.{u}:=@List.size_toArray.{u}
abbrev Tu.{u}:=@List.push_toArray.{u}
abbrev Xw:=@Go.wpList_lookup_own_int
abbrev Xv:=@Go.Lib.run_eql_slice_nil
abbrev Pm.{u}:=@List.take_zero.{u}
abbrev Pj.{u}:=@List.drop_zero.{u}
abbrev Vk:=@Nat.eq_zero_or_pos
abbrev Xu:=@Nat.pow_le_pow_right
abbrev Xt.{u}:=@beq_eq_false_iff_ne.{u}
abbrev Oq:=@Int.le_refl
abbrev Vj:=@Bool.and_eq_true
abbrev Oo:=@Nat.add_comm
abbrev QZ:=@Nat.add_assoc
abbrev Vi:=@Nat.min_eq_left
abbrev Zk.{u}:=@Array.getElem?_setIfInBounds.{u}
abbrev Gu.{u}:=@if_true.{u}
abbrev MP:=@Nat.one_mul
abbrev PW:=@Go.heap_alloc_new
abbrev PV:=@List.mem_range
abbrev Zj.{u}:=@Array.getElem?_eq_some_iff.{u}
abbrev Zi.{u}:=@List.mem_or_eq_of_mem_set.{u}
abbrev Zh.{u}:=@Array.getElem?_eq_getElem.{u}
abbrev Rn.{u}:=@List.length_set.{u}
abbrev Ue:=@of_decide_eq_true
abbrev Ud.{u}:=@List.mem_of_mem_take.{u}
abbrev LQ.{u}:=@List.take_set.{u}
abbrev Rl.{u}:=@List.all_eq_true.{u}
abbrev PU:=@Nat.sub_self
abbrev PT:=@Nat.pow_succ
abbrev WE.{u}:=@List.getElem?_take.{u}
abbrev Zg.{u}:=@Array.getElem?_toList.{u}
abbrev WC.{u}:=@List.flatten_cons.{u}
abbrev PS:=@decide_eq_true
abbrev PQ.{u}:=@List.drop_drop.{u}
abbrev Zf:=@Go.wpList_mapUpdate_own
abbrev Ze.{u}:=@List.pairwise_append.{u}
abbrev Zd.{u}:=@List.length_dropLast.{u}
abbrev Rk:=@Go.wpList_plain
abbrev OW:=@Go.callsIn_wide
abbrev Rj:=@Nat.mul_comm
abbrev Ri.{u,v,w}:=@List.map_map.{u,v,w}
abbrev kG:=@Go.World.cell?_setCell_other
abbrev kF:=@Classical.byContradiction
abbrev Zc.{u}:=@List.flatten_append.{u}
abbrev WB:=@decide_eq_false
abbrev WA.{u}:=@List.nodup_cons.{u}
abbrev Wz.{u,v}:=@List.foldl_cons.{u,v}
abbrev Wy:=@Bool.eq_iff_iff
abbrev Zb:=@Nat.add_sub_cancel
abbrev Za:=@Go.RowKit.Below.heap_setCell
abbrev Uc:=@Go.wp_store_mid
abbrev Ub:=@Go.Addr.add_mid
abbrev YZ.{u}:=@List.ext_getElem?.{u}
abbrev YY:=@Go.wpList_store_mid
abbrev YX:=@Nat.mod_eq_of_lt
abbrev YW:=@Go.run_loadVar_mid
abbrev Wx.{u}:=@List.drop_set_of_lt.{u}
abbrev Ww:=@Nat.zero_mul
abbrev Ua.{u}:=@beq_iff_eq.{u}
abbrev kE:=@of_decide_eq_false
abbrev kD.{u}:=@List.set_cons_zero.{u}
abbrev Wv:=@Go.wpStill_nil
abbrev Wu:=@Nat.mul_one
abbrev kC:=@Nat.lt_trichotomy
abbrev jZ.{u,v,w}:=@Function.comp_def.{u,v,w}
abbrev jY:=@Classical.not_not
abbrev YV:=@Go.plainElem_int
abbrev YU:=@Go.callsIn_of_wp
abbrev YT:=@Bool.true_and
end Go.Proofs.YtijplolmkcdflaaGreat
namespace Go.Proofs.YtijplolmkcdflaaGreat
open Tryz
theorem OP (n:Nat) {P:Program} {ops:Array Oper} {Q:Exit→Act→World→Prop} {o:Op} {t:TypeId} {p:String} {e:Array Edge} {g:Option (Nat×Bool)} {l:List Oper} {a:Act} {w:World} (h:wpList P ops Q (⟨some n,o,t,p,e,g⟩::l) a w):wpList P ops Q (⟨some n,o,t,p,e,g⟩::l) a w:=h
theorem OS (n:Nat) {P:Program} {ops:Array Oper} {Q:Exit→Act→World→Prop} {d:Option Tmp} {ty:TypeId} {y:Operand} {t:TypeId} {p:String} {e:Array Edge} {g:Option (Nat×Bool)} {l:List Oper} {a:Act} {w:World} (h:wpList P ops Q (⟨d,.store ty (.tmp n) y,t,p,e,g⟩::l) a w):wpList P ops Q (⟨d,.store ty (.tmp n) y,t,p,e,g⟩::l) a w:=h
theorem Aa {p:Prop} (h:p):RowKit.Hid p:=h
end Go.Proofs.YtijplolmkcdflaaGreat
namespace Go.RowKit
theorem Hid.Ab {p:Prop} (h:Hid p):p:=h
end Go.RowKit
namespace Go.Proofs.YtijplolmkcdflaaGreat
open Go
theorem LP {α:Type}:(∀ (l:List α) (i:Nat) (a:α),l.toArray.setIfInBounds i a=(l.set i a).toArray)∧(∀ {x:α} {xs:List α} {a:α},(x::xs).set 0 a=a::xs)∧(∀ {x:α} {xs:List α} {i:Nat} {a:α},(x::xs).set (i+1) a=x::xs.set i a):=
 ⟨List.setIfInBounds_toArray,kD,List.set_cons_succ⟩
theorem LG {α:Type}:(∀ {xs:List α} {i:Nat},xs.toArray[i]?=xs[i]?)∧(∀ {a:α} {l:List α},(a::l)[0]?=some a)∧(∀ {a:α} {i:Nat} {l:List α},(a::l)[i+1]?=l[i]?):=
 ⟨Re,TE,FR⟩
def Bg (n:Nat):Nat:=
 if n<128 then 1 else if n<16384 then 2 else if n<2097152 then 3 else if n<268435456 then 4 else
 if n<34359738368 then 5 else if n<4398046511104 then 6 else if n<562949953421312 then 7 else if n<72057594037927936 then 8 else 9
theorem Im (n:Nat):1≤Bg n:=by unfold Bg;(repeat' split)<;>omega
theorem IY (n:Nat):Bg n≤9:=by unfold Bg;(repeat' split)<;>omega
theorem qO {n k:Nat} (h1:1≤k) (h8:k≤8) (hlt:n<2 ^ (7 * k)) (hge:k=1∨2 ^ (7 * (k - 1))≤n):Bg n=k:=by
 obtain rfl|rfl|rfl|rfl|rfl|rfl|rfl|rfl:k=1∨k=2∨k=3∨k=4∨k=5∨k=6∨k=7∨k=8:=by omega
 all_goals
  simp only [Nat.reduceMul,Nat.reduceSub,Nat.reducePow] at hlt hge;unfold Bg
  (repeat' split)<;>omega
theorem aP {n:Nat} (hge:2 ^ (7 * 8)≤n):Bg n=9:=by
 simp only [Nat.reduceMul,Nat.reducePow] at hge;unfold Bg
 (repeat' split)<;>omega
theorem VW {n k:Nat}:n / 2 ^ k=0↔n<2 ^ k:=by
 rw [Nat.div_eq_zero_iff];have:=Nat.two_pow_pos k;omega
theorem Ag6 {n:Nat} (h:Bg n≤8):n<2 ^ (7 * Bg n):=by
 have:=Im n
 revert h
 unfold Bg
 (repeat' split)<;>intro h<;>simp only [Nat.reduceMul,Nat.reducePow]<;>omega
def lead (s:Nat):Nat:=256 - 2 ^ (9 - s)
def be:Nat→Nat→List UInt8
 |0,_=>[]
 |k+1,n=>be k (n / 256)++[UInt8.ofNat (n % 256)]
def Cx (n:Nat):List UInt8:=UInt8.ofNat (lead (Bg n)+n / 256 ^ (Bg n - 1))::be (Bg n - 1) n
theorem JK (k n:Nat):(be k n).length=k:=by
 induction k generalizing n with
 |zero=>rfl
 |succ k ih=>simp [be,ih]
theorem Sj (k n j:Nat) (h:j<k):(be k n)[j]?=some (UInt8.ofNat (n / 256 ^ (k - 1 - j) % 256)):=by
 induction k generalizing n j with
 |zero=>omega
 |succ k ih=>
  simp only [be];by_cases hj:j<k
  ·rw [QH (by simpa [JK] using hj),ih _ _ hj,Nat.div_div_eq_div_mul,←Nat.pow_succ'];rw [show (k - 1 - j).succ=k+1 - 1 - j by omega]
  ·have:j=k:=by omega
   subst this;rw [Rf (by simp [JK])];simp [JK]
theorem Fz (n:Nat):(Cx n).length=Bg n:=by
 have:=Im n;simp [Cx,JK];omega
theorem kK {n:Nat} (hn:n<18446744073709551616):n / 256 ^ (Bg n - 1)<2 ^ (9 - Bg n) / 2∨(Bg n=9∧n / 256 ^ (Bg n - 1)=0):=by
 by_cases h:Bg n≤8
 ·left;have hlt:=Ag6 h;have h1:=Im n
  revert hlt h1 h
  generalize Bg n=k;intro hlt h1 h;obtain rfl|rfl|rfl|rfl|rfl|rfl|rfl|rfl:k=1∨k=2∨k=3∨k=4∨k=5∨k=6∨k=7∨k=8:=by omega
  all_goals
   simp only [Nat.reduceSub,Nat.reducePow,Nat.reduceDiv] at hlt ⊢;omega
 ·right;have:Bg n=9:=by have:=IY n;omega
  rw [this];exact ⟨rfl,Nat.div_eq_of_lt hn⟩
theorem Xl {p:Prop} (h:p:=by omega):p:=h
theorem fC (n j:Nat) (hn:n<18446744073709551616) (h:j<Bg n):
 (Cx n)[j]?=some (UInt8.ofNat ((if j=0 then lead (Bg n) else 0)+n / 256 ^ (Bg n - 1 - j) % 256)):=by
 unfold Cx;cases j with
 |zero=>
  have ht:n / 256 ^ (Bg n - 1)<256:=by
   rcases kK hn with h1|h1
   ·have h2:(2:Nat) ^ (9 - Bg n)≤2 ^ 9:=Xu Xl Xl;simp only [Nat.reducePow] at h2;omega
   ·omega
  rw [Al rfl,Nat.sub_zero,YX ht]
  rfl
 |succ j=>
  rw [FR,Sj _ _ _ Xl];simp
  congr 4
  omega
end Go.Proofs.YtijplolmkcdflaaGreat
namespace Go.Proofs.YtijplolmkcdflaaGreat
open Tryz
open Go
def Mg:List UInt8→Nat
 |[]=>0
 |c::l=>c.toNat * 256 ^ l.length+Mg l
theorem YN (l:List UInt8):Mg l<256 ^ l.length:=by
 induction l with
 |nil=>simp [Mg]
 |cons c l ih=>
  simp only [Mg,En,PT];have:=c.toNat_lt;have h:c.toNat * 256 ^ l.length≤255 * 256 ^ l.length:=QF _ Xl;omega
theorem Yd (a b:List UInt8):Mg (a++b)=Mg a * 256 ^ b.length+Mg b:=by
 induction a with
 |nil=>simp [Mg]
 |cons c a ih=>
  simp only [KZ,Mg,Cn,ih,Nat.pow_add,Ka,Nat.mul_assoc];omega
theorem Ao6 (k n:Nat):Mg (be k n)=n % 256 ^ k:=by
 induction k generalizing n with
 |zero=>simp [be,Mg,Nat.mod_one]
 |succ k ih=>
  rw [be,Yd,ih];simp only [Mg,En,Ot,FI,Nat.pow_one,Nat.pow_zero,Wu,Kb];rw [PT,Rj (256 ^ k) 256,Nat.mod_mul];have:(UInt8.ofNat (n % 256)).toNat=n % 256:=by simp
  omega
theorem Ak2 {a b:List UInt8} (h:a.length=b.length) (hv:Mg a=Mg b):a=b:=by
 induction a generalizing b with
 |nil=>exact (LD (by simpa using h.symm)).symm
 |cons c a ih=>
  cases b with
  |nil=>simp at h
  |cons d b=>
   have h':a.length=b.length:=by simpa using h
   simp only [Mg,←h'] at hv;have ha:=YN a;have hb:=YN b;rw [←h'] at hb;have e:c.toNat=d.toNat:=by
    have h1:(c.toNat * 256 ^ a.length+Mg a) / 256 ^ a.length=(d.toNat * 256 ^ a.length+Mg b) / 256 ^ a.length:=by rw [hv]
    rw [Rj,Rj d.toNat,Nat.mul_add_div (Nat.pow_pos Xl),Nat.mul_add_div (Nat.pow_pos Xl),Nat.div_eq_of_lt ha,Nat.div_eq_of_lt hb] at h1;omega
   have e1:c=d:=UInt8.toNat_inj.1 e;subst e1;rw [ih h' Xl]
theorem jL {n:Nat} (hn:n<18446744073709551616):Mg (Cx n)=lead (Bg n) * 256 ^ (Bg n - 1)+n:=by
 have hlt:lead (Bg n)+n / 256 ^ (Bg n - 1)<256:=by
  have h1:=Im n;have h2:=IY n;unfold lead;rcases kK hn with h|⟨h,h'⟩
  ·have h3:(2:Nat) ^ (9 - Bg n)≤2 ^ 8:=Xu Xl Xl;have h4:=Nat.two_pow_pos (9 - Bg n);simp only [Nat.reducePow] at h3;omega
  ·rw [h',h];simp
 simp only [Cx,Mg,JK,Ao6];have:(UInt8.ofNat (lead (Bg n)+n / 256 ^ (Bg n - 1))).toNat=lead (Bg n)+n / 256 ^ (Bg n - 1):=by simp [YX hlt]
 rw [this,Ka,QZ];have:=Nat.div_add_mod n (256 ^ (Bg n - 1));rw [Rj] at this;omega
theorem mD {n:Nat} (hn:n<18446744073709551616):∃ c,(Cx n).head?=some c∧lead (Bg n)≤c.toNat∧(Bg n<9→c.toNat<lead (Bg n+1)):=by
 have h1:=Im n;have h2:=IY n;refine ⟨_,rfl,?_⟩;have hlt:lead (Bg n)+n / 256 ^ (Bg n - 1)<256∧(Bg n<9→lead (Bg n)+n / 256 ^ (Bg n - 1)<lead (Bg n+1)):=by
  unfold lead;have h3:(2:Nat) ^ (9 - Bg n)≤2 ^ 8:=Xu Xl Xl;simp only [Nat.reducePow] at h3;have h5:=Nat.two_pow_pos (9 - Bg n);rcases kK hn with h|⟨h,h'⟩
  ·refine ⟨Xl,fun h9=>?_⟩;have h4:(2:Nat) ^ (9 - Bg n)=2 ^ (9 - (Bg n+1)) * 2:=by rw [←PT];congr 1;omega
   omega
  ·rw [h',h];simp
 have:(UInt8.ofNat (lead (Bg n)+n / 256 ^ (Bg n - 1))).toNat=lead (Bg n)+n / 256 ^ (Bg n - 1):=by simp [YX hlt.1]
 rw [this];exact ⟨Nat.le_add_right _ _,hlt.2⟩
theorem iR {s t:Nat} (h:s<t) (ht:t≤9):lead (s+1)≤lead t:=by
 unfold lead;have:(2:Nat) ^ (9 - t)≤2 ^ (9 - (s+1)):=Xu Xl Xl;omega
def BX (c:Nat):Nat:=
 if c<128 then 1 else if c<192 then 2 else if c<224 then 3 else if c<240 then 4 else if c<248 then 5 else if c<252 then 6 else if c<254 then 7 else if c<255 then 8 else 9
theorem NC (c:Nat):1≤BX c:=by unfold BX;(repeat' split)<;>omega
theorem MJ (c:Nat):BX c≤9:=by unfold BX;(repeat' split)<;>omega
theorem UN:∀ c:Nat,c<256→lead (BX c)≤c∧(BX c<9→c<lead (BX c+1))∧(BX c=9→c=255)∧lead (BX c)≤255:=by decide+kernel
theorem Y4:∀ c:Nat,c<256→∀ s:Nat,s<10→(decide (1≤s) && decide (lead s≤c) && (!decide (s<9)||decide (c<lead (s+1))))=true→BX c=s:=by decide+kernel
theorem Ai5 (c:Nat) (hc:c<256) (s:Nat) (hs:s<10) (h1:1≤s) (h2:lead s≤c) (h3:s<9→c<lead (s+1)):BX c=s:=by
 apply Y4 c hc s hs;by_cases h9:s<9
 ·simp [h1,h2,h9,h3 h9]
 ·simp [h1,h2,h9]
theorem jA:∀ c:Nat,c<256→c - lead (BX c)<2 ^ (8 - BX c):=by decide+kernel
def OY (c:Nat) (r:List UInt8):Nat:=(c - lead (BX c)) * 256 ^ (BX c - 1)+Mg (r.take (BX c - 1))
def Dh:List UInt8→Nat × Nat × Bool
 |[]=>(0,0,false)
 |c::r=>if r.length+1<BX c.toNat then (0,0,false) else if Bg (OY c.toNat r)=BX c.toNat then (OY c.toNat r,BX c.toNat,true) else (0,0,false)
theorem take_len {r:List UInt8} {k:Nat} (h:k≤r.length):(r.take k).length=k:=by rw [FK];omega
theorem kI (c:UInt8) (r:List UInt8) (h:¬ r.length+1<BX c.toNat):OY c.toNat r<18446744073709551616:=by
 have h1:=NC c.toNat;have h2:=MJ c.toNat;have h3:=jA c.toNat c.toNat_lt;have h4:=YN (r.take (BX c.toNat - 1));rw [take_len Xl] at h4;unfold OY;generalize c.toNat - lead (BX c.toNat)=d at *;generalize Mg (r.take (BX c.toNat - 1))=v at *;generalize BX c.toNat=s at *;obtain rfl|rfl|rfl|rfl|rfl|rfl|rfl|rfl|rfl:s=1∨s=2∨s=3∨s=4∨s=5∨s=6∨s=7∨s=8∨s=9:=by omega
 all_goals
  simp only [Nat.reduceSub,Nat.reducePow] at *;omega
theorem jM (c:UInt8) (r:List UInt8) (h:¬ r.length+1<BX c.toNat):Mg ((c::r).take (BX c.toNat))=lead (BX c.toNat) * 256 ^ (BX c.toNat - 1)+OY c.toNat r:=by
 have h1:=NC c.toNat;have h2:=(UN c.toNat c.toNat_lt).1;obtain ⟨k,hk⟩:∃ k,BX c.toNat=k+1:=⟨BX c.toNat - 1,Xl⟩;unfold OY;rw [hk] at h ⊢ h2;rw [Pn,Mg,take_len Xl,Zb];have:c.toNat * 256 ^ k=lead (k+1) * 256 ^ k+(c.toNat - lead (k+1)) * 256 ^ k:=by rw [←Ka];congr 1;omega
 omega
theorem Za3 {p:Prop} (h:p:=by simp;omega):p:=h
theorem sH (c:UInt8) (r:List UInt8) (h:¬ r.length+1<BX c.toNat):Cx (OY c.toNat r)=(c::r).take (BX c.toNat)↔Bg (OY c.toNat r)=BX c.toNat:=by
 have hl:((c::r).take (BX c.toNat)).length=BX c.toNat:=take_len Za3;constructor
 ·intro e;rw [←Fz,e,hl]
 ·intro e;apply Ak2 (by rw [Fz,hl,e]);rw [jL (kI c r h),jM c r h,e]
theorem qN (l:List UInt8):(Dh l).1<18446744073709551616:=by
 unfold Dh;split
 ·decide
 ·rename_i c r;by_cases h:r.length+1<BX c.toNat
  ·rw [Al h];decide
  ·rw [Ak h];by_cases h':Bg (OY c.toNat r)=BX c.toNat
   ·rw [Al h'];exact kI c r h
   ·rw [Ak h'];decide
theorem Ux (l:List UInt8):(Dh l).2.1≤l.length∧(Dh l).2.1≤9∧((Dh l).2.2=true→1≤(Dh l).2.1):=by
 unfold Dh;split
 ·simp
 ·rename_i c r;have:=MJ c.toNat;have:=NC c.toNat;by_cases h:r.length+1<BX c.toNat
  ·rw [Al h];simp
  ·rw [Ak h];by_cases h':Bg (OY c.toNat r)=BX c.toNat
   ·rw [Al h'];simp;omega
   ·rw [Ak h'];simp
theorem xG {n:Nat} (hn:n<18446744073709551616) (t:List UInt8):Dh (Cx n++t)=(n,Bg n,true):=by
 obtain ⟨c,hc,hc1,hc2⟩:=mD hn;have h1:=Im n;have h2:=IY n;obtain ⟨r,hr⟩:∃ r,Cx n=c::r:=by
  cases h:Cx n with
  |nil=>rw [h] at hc;simp at hc
  |cons d r=>rw [h] at hc;simp at hc;subst hc;exact ⟨r,rfl⟩
 have hs:BX c.toNat=Bg n:=Ai5 c.toNat c.toNat_lt _ Xl h1 hc1 hc2;have hrl:r.length=Bg n - 1:=by
  have:=Fz n;rw [hr] at this;simp at this;omega
 have hlen:¬ (r++t).length+1<BX c.toNat:=by rw [hs];simp;omega
 have hb:=jM c (r++t) hlen;have htk:(c::(r++t)).take (BX c.toNat)=Cx n:=by
  rw [hs,hr,←KZ,List.take_append_of_le_length Za3,EU Za3]
 rw [htk,jL hn,hs] at hb;have hv:OY c.toNat (r++t)=n:=by omega
 rw [hr,KZ,Dh,Ak hlen,hv,hs,Al rfl]
theorem Uw {l:List UInt8} (h:(Dh l).2.2=true):l.take (Dh l).2.1=Cx (Dh l).1∧(Dh l).2.1=Bg (Dh l).1:=by
 unfold Dh at h ⊢;split at h
 ·simp at h
 ·rename_i c r;by_cases h1:r.length+1<BX c.toNat
  ·rw [Al h1] at h;simp at h
  ·rw [Ak h1] at h ⊢;by_cases h':Bg (OY c.toNat r)=BX c.toNat
   ·simp only [Al h'];exact ⟨((sH c r h1).2 h').symm,h'.symm⟩
   ·rw [Ak h'] at h;simp at h
theorem RQ {l:List UInt8} (h:(Dh l).2.2=false):Dh l=(0,0,false):=by
 unfold Dh at h ⊢;split at h
 ·rfl
 ·rename_i c r;by_cases h1:r.length+1<BX c.toNat
  ·simp only [Al h1]
  ·rw [Ak h1] at h;simp only [Ak h1];by_cases h':Bg (OY c.toNat r)=BX c.toNat
   ·rw [Al h'] at h;simp at h
   ·simp only [Ak h']
end Go.Proofs.YtijplolmkcdflaaGreat
namespace Go.Proofs.YtijplolmkcdflaaGreat
open Tryz
open Go.RowKit
theorem IJ {k:IntKind} {a b:Int} (h:a=b):Ending.returned (.int k a)=.returned (.int k b):=by rw [h]
theorem ZQ {a b:Bool} (h:a=b):Ending.returned (.bool a)=.returned (.bool b):=by rw [h]
theorem WJ (l:List UInt8) (i:Nat) (h:i<(⟨l.toArray⟩:ByteArray).size):(⟨l.toArray⟩:ByteArray)[i]'h=l[i]'(by simpa [ByteArray.size] using h):=by
 simp [ByteArray.getElem_eq_getElem_data]
theorem Ch (a b:List UInt8):((⟨a.toArray⟩:ByteArray)++⟨b.toArray⟩)=⟨(a++b).toArray⟩:=by
 apply ByteArray.ext;simp
theorem nZ (c:UInt8) (b:List UInt8):((⟨#[c]⟩:ByteArray)++⟨b.toArray⟩)=⟨(c::b).toArray⟩:=Ch [c] b
theorem Ms (l:List UInt8) (a b:Nat):(⟨l.toArray⟩:ByteArray).extract a b=⟨((l.drop a).take (b - a)).toArray⟩:=by
 apply ByteArray.ext;apply Array.toList_inj.1;rw [Lib.extract_data]
theorem ZU {P:Program} {f:FuncId} {args:Array Value} {w:World} {a n:Nat} {v:Value}
 (h:Calls P f args (w.drewN (a+n)) fun e w'=>e=.returned v∧w'=w.drewN (a+n)):
 Calls P f args (w.drewN (a+n)) fun e w''=>e=.returned v∧∃ m,w''=w.drewN (a+m):=
 h.mono fun _ _ ⟨he,hm⟩=>⟨he,n,hm⟩
def Ai (w w':World):Prop:=Below w.heap.size w w'
theorem Ai.refl (w:World):Ai w w:=Below.refl _ _
theorem Ai.size {w w':World} (h:Ai w w'):w.heap.size≤w'.heap.size:=Below.size h
theorem Ai.trans {a b c:World} (h:Ai a b) (k:Ai b c):Ai a c:=Below.trans h (Below.mono k h.size)
theorem Ai.alloc {a w:World} (h:Ai a w) (o:Obj):Ai a (w.alloc o):=Below.alloc h h.size o
theorem Ai.drew {a w:World} (h:Ai a w):Ai a w.drew:=Below.drew h
theorem Ai.drewN {a w:World} (h:Ai a w) (n:Nat):Ai a (w.drewN n):=⟨h.os,h.tape,h.output,h.size,h.block⟩
theorem Ai.setCell {a w:World} (h:Ai a w) {p:Addr} (hp:a.heap.size≤p.block) (u:Value):Ai a (w.setCell p u):=Below.setCell h hp u
theorem Ai.grown {a w w':World} {row:Option Nat} (h:Ai a w) (hg:w.grownBy w' row) (hr:∀ k,row=some k→a.heap.size≤k):Ai a w':=Below.grown h hg h.size hr
theorem Ai.cell {w w':World} (h:Ai w w') {p:Addr} (hp:p.block<w.heap.size):w'.cell? p=w.cell? p:=Below.cell h hp
theorem Ai.frozen {w w':World} (h:Ai w w') {p:Addr} (hp:p.block<w.heap.size):w'.frozen? p=w.frozen? p:=Below.frozen h hp
theorem fJ {n k:Nat} (h:((n:Int) / 2 ^ k==0)=true):n<2 ^ k:=by
 have h1:(n:Int) / ((2 ^ k:Nat):Int)=0:=by simpa using h
 rw [←Int.natCast_ediv] at h1;exact VW.1 Xl
theorem mM {n k:Nat} (h:((n:Int) / 2 ^ k==0)=false):2 ^ k≤n:=by
 have h1:¬ (n:Int) / ((2 ^ k:Nat):Int)=0:=by simpa using h
 rw [←Int.natCast_ediv] at h1;have h2:¬ n / 2 ^ k=0:=by omega
 rw [VW] at h2;omega
theorem ZB (x:Int) (w:World) (h0:0≤x):
 Calls prog 190 #[.int .u64 x] w fun e w'=>e=.returned (.int .i64 (Bg x.toNat:Nat))∧w=w':=by
 obtain ⟨n,rfl⟩:=Po h0;rw [Db];clear h0;go_enter func190,ntmps190;go_wp2;go_loop [3] (fun i=>∃ k:Nat,1≤k∧k≤9∧i=.int .i64 k∧Hid (k=1∨2^(7*(k-1))≤n)) (fun i=>9 - (intOf i).toNat);case atStart=>exact ⟨1,Xl,Xl,rfl,Or.inl rfl⟩
 case round=>
  obtain ⟨k,hk1,hk2,rfl,hd⟩:=hrel;by_cases hlt:k<9
  ·go_wp2
   ·have h:((n:Int) / 2 ^ (7 * k)==0)=true:=by assumption
    have:=qO hk1 Xl (fJ h) hd.Ab;go_ret;exact ⟨IJ Xl,rfl⟩
   ·have h:((n:Int) / 2 ^ (7 * k)==0)=false:=by assumption
    have:=mM h;go_round;case rel=>exact ⟨k+1,Xl,Xl,by go_num,Or.inr this⟩
    case measure=>simp [intOf];omega
  ·have hk:k=9:=by omega
   have hN:Hid (Bg n=9):=aP (by rcases hd.Ab with h|h;omega;subst hk;exact h);clear hd hk;go_wp2;go_ret;exact ⟨IJ (by have:=hN.Ab;omega),rfl⟩
theorem An6 (s:Nat) (h1:1≤s) (h2:s≤9):((255 * 2 ^ (9 - s) % 256:Int))=(lead s:Nat):=by
 obtain rfl|rfl|rfl|rfl|rfl|rfl|rfl|rfl|rfl:s=1∨s=2∨s=3∨s=4∨s=5∨s=6∨s=7∨s=8∨s=9:=by omega
 all_goals decide
theorem Xe (x:Int) (w:World) (h1:1≤x) (h2:x≤9):
 Calls prog 191 #[.int .i64 x] w fun e w'=>e=.returned (.int .u8 (lead x.toNat:Nat))∧w=w':=by
 obtain ⟨s,rfl⟩:=Po (show 0≤x by omega);rw [Db];go_enter func191,ntmps191;go_wp2;go_ret;exact ⟨IJ (An6 s Xl Xl),rfl⟩
def Mi (s n t j:Nat):Nat:=if t≤j∧j<s then n / 256 ^ (s - 1 - j) % 256 else 0
def putCells (s n t:Nat):Array Value:=((List.range 9).map fun j=>Value.int .u8 (Mi s n t j:Nat)).toArray
theorem Km (s n t:Nat):(putCells s n t).size=9:=by simp [putCells]
theorem Lg (s n t j:Nat) (h:j<9):(putCells s n t)[j]?=some (Value.int .u8 (Mi s n t j:Nat)):=by simp [putCells,h]
theorem ZW (s n:Nat):putCells s n s=#[.int .u8 0,.int .u8 0,.int .u8 0,.int .u8 0,.int .u8 0,.int .u8 0,.int .u8 0,.int .u8 0,.int .u8 0]:=by
 have h:∀ j,Mi s n s j=0:=fun j=>by unfold Mi;rw [Ak Xl]
 simp [putCells,h,List.range_succ]
theorem eZ (s n t:Nat) (h:t<s) (hs:s≤9):(putCells s n (t+1)).setIfInBounds t (.int .u8 (n / 256 ^ (s - 1 - t) % 256:Nat))=putCells s n t:=by
 apply Array.ext_getElem?;intro j;rw [Zk];by_cases hj:j<9
 ·rw [Lg _ _ _ _ hj,Lg _ _ _ _ hj,Km];by_cases e:t=j
  ·subst e;rw [Al rfl,Al hj];unfold Mi;rw [Al Xl]
  ·rw [Ak e];unfold Mi;by_cases c:t≤j∧j<s
   ·rw [Al Xl,Al c]
   ·rw [Ak Xl,Ak c]
 ·rw [Ak Xl,Vm (by rw [Km];omega),Vm (by rw [Km];omega)]
def Kt (n:Nat):Array Value:=((List.range 9).map fun j=>Value.int .u8 (((Cx n).getD j 0).toNat:Nat)).toArray
theorem fE (n:Nat):(Kt n).size=9:=by simp [Kt]
theorem VT (n j:Nat) (h:j<9):(Kt n)[j]?=some (Value.int .u8 (((Cx n).getD j 0).toNat:Nat)):=by simp [Kt,h]
theorem An2:∀ s:Nat,s<9→1≤s→∀ a:Nat,a<2 ^ (8 - s)→bits .or .u8 (a:Int) (lead s:Nat)=((lead s+a:Nat):Int):=by decide+kernel
theorem SB {n:Nat} (hn:n<18446744073709551616):Mi (Bg n) n 0 0=n / 256 ^ (Bg n - 1)∧(Cx n).getD 0 0=UInt8.ofNat (lead (Bg n)+n / 256 ^ (Bg n - 1))∧lead (Bg n)+n / 256 ^ (Bg n - 1)<256∧(Bg n<9→n / 256 ^ (Bg n - 1)<2 ^ (8 - Bg n))∧(Bg n=9→n / 256 ^ (Bg n - 1)=0):=by
 have h1:=Im n;have h2:=IY n;have ht:n / 256 ^ (Bg n - 1)<2 ^ (8 - Bg n)∨(Bg n=9∧n / 256 ^ (Bg n - 1)=0):=by
  rcases kK hn with h|h
  ·by_cases h9:Bg n=9
   ·rw [h9] at h;simp at h
   ·left;rwa [show 9 - Bg n=8 - Bg n+1 by omega,PT,Nat.mul_div_cancel _ Xl] at h
  ·exact .inr h
 have hlt:lead (Bg n)+n / 256 ^ (Bg n - 1)<256:=by
  unfold lead;rcases ht with h|⟨h,h'⟩
  ·by_cases h9:Bg n=9
   ·rw [h9] at h ⊢;simp at h ⊢;omega
   ·have h3:2 ^ (9 - Bg n)=2 ^ (8 - Bg n) * 2:=by rw [←PT];congr 1;omega
    have h4:(2:Nat) ^ (8 - Bg n)≤2 ^ 7:=Xu Xl Xl;simp only [Nat.reducePow] at h4;omega
  ·rw [h',h];simp
 refine ⟨?_,rfl,hlt,?_,?_⟩
 ·unfold Mi;rw [Al Xl,Nat.sub_zero];exact YX Xl
 ·intro h;rcases ht with h'|h'
  ·exact h'
  ·omega
 ·intro h;rcases ht with h'|h'
  ·rw [h] at h' ⊢;simp at h';exact Nat.div_eq_of_lt hn
  ·exact h'.2
theorem VC {n:Nat} (hn:n<18446744073709551616):(putCells (Bg n) n 0).setIfInBounds 0 (.int .u8 (lead (Bg n)+n / 256 ^ (Bg n - 1):Nat))=Kt n:=by
 have h1:=Im n;have h2:=IY n;obtain ⟨_,e2,e3,_,_⟩:=SB hn;apply Array.ext_getElem?;intro j;rw [Zk];by_cases hj:j<9
 ·rw [Lg _ _ _ _ hj,VT _ _ hj,Km];by_cases e:0=j
  ·subst e;rw [Al rfl,Al hj,e2];simp [YX e3]
  ·rw [Ak e];unfold Mi;by_cases c:j<Bg n
   ·have:=fC n j hn c;rw [Al Xl,YS,this];simp [show ¬ j=0 by omega]
   ·rw [Ak Xl,YS,Jj (by rw [Fz];omega)];simp
 ·rw [Ak Xl,Vm (by rw [Km];omega),Vm (by rw [fE];omega)]
theorem sZ (n:Nat) (w w':World) (hw:∀ i,w'.cell? ⟨w.heap.size,i,none⟩=(Kt n)[i]?) (cap:Nat) (s:Nat) (hs:Bg n=s):
 (convert 163 9 (.slice (some ⟨w.heap.size,0,none⟩) s cap)).run prog w'=.ok (.string ⟨(Cx n).toArray⟩) w':=by
 have h2:=IY n;have hsz:(⟨(Cx n).toArray⟩:ByteArray).size=s:=by simp [ByteArray.size,Fz,hs]
 have h:=Lib.run_convert_whole (P:=prog) w' 163 5 9 underlying163 underlying5 underlying9 w.heap.size 0 ⟨(Cx n).toArray⟩ (fun i hi=>by
  have hi':i<Bg n:=by rw [hs,←hsz];exact hi
  rw [FI,hw,VT _ _ Xl];have:(⟨(Cx n).toArray⟩:ByteArray)[i]=(Cx n).getD i 0:=by
   simp [ByteArray.getElem_eq_getElem_data,YS,Fp (show i<(Cx n).length by rw [Fz];exact hi')]
  rw [this]) cap
 rw [hsz] at h;exact h
theorem As4 {n:Nat} (hn:n<18446744073709551616) (h9:Bg n<9):
 (putCells (Bg n) n 0).setIfInBounds 0 (.int .u8 (bits .or .u8 (Mi (Bg n) n 0 0:Nat) (lead (Bg n):Nat)))=Kt n:=by
 obtain ⟨e1,_,_,e4,_⟩:=SB hn;rw [e1,An2 _ h9 (Im n) _ (e4 h9),VC hn]
theorem Af1 {n:Nat} (hn:n<18446744073709551616) (h9:Bg n=9):
 (putCells (Bg n) n 0).setIfInBounds 0 (.int .u8 (lead (Bg n):Nat))=Kt n:=by
 obtain ⟨_,_,_,_,e5⟩:=SB hn;rw [←VC hn,e5 h9]
 rfl
theorem len9:prog.arrayLen 275=9:=by kernel_rfl
theorem Za0 {p:Prop} (h:p:=by kernel_rfl):p:=h
theorem As3 (a:Addr) (s:Nat) (hs:s≤9) (W:World):(Instr.sliceAt 275 (.pointer (some a)) none (some (.int .i64 s)) none).run prog W=.ok (.slice (some a) s 9) W:=by
 have hz:∀ w,(sizeOf (prog.elem 275)).run prog w=.ok 1 w:=fun _=>by kernel_rfl
 rw [run_sliceAt_array_h W 275 a Za0 .i64 s Xl (by rw [len9];omega),hz];simp [len9,slicedAt,Addr.add]
theorem kY (x:Int) (w:World) (h0:0≤x) (hx:x<18446744073709551616):
 Calls prog 166 #[.int .u64 x] w fun e w'=>e=.returned (.string ⟨(Cx x.toNat).toArray⟩)∧Ai w w':=by
 obtain ⟨n,rfl⟩:=Po h0;rw [Db];have hn:n<18446744073709551616:=by omega
 clear h0 hx;have hs1:=Im n;have hs2:=IY n;have Hn:=Aa hn;clear hn;go_enter func166,ntmps166;go_wp2_with (go_at_call 190;refine (ZB _ _ Xl).mono ?_;rintro e w' ⟨rfl,rfl⟩);rw [←ZW (Bg n) n];obtain ⟨s,Hs⟩:∃ s,Hid (Bg n=s):=⟨_,rfl⟩;rw [Hs.Ab] at hs1 hs2;rw [Hs.Ab];go_loopw [0,5] (fun m i wr=>∃ t:Nat,t≤s∧i=.int .i64 ((t:Int) - 1)∧m=.int .u64 (n / 256 ^ (s - t):Nat)∧wr=w.alloc (.cells (putCells s n t) 275)) (fun _ i _=>(intOf i+1).toNat);case atStart=>exact ⟨s,Xl,rfl,by simp,rfl⟩
 case round=>
  obtain ⟨t,ht,rfl,rfl,rfl⟩:=hrel;cases t with
  |succ t=>
   have hg:=Lg s n (t+1) t Xl;go_wp2;go_roundw;case rel=>
    refine ⟨t,Xl,rfl,?_,?_⟩
    ·rw [show s - t=s - (t+1)+1 by omega,PT,←Nat.div_div_eq_div_mul];simp
    ·rw [←eZ s n t Xl hs2,show s - 1 - t=s - (t+1) by omega];simp
   case measure=>simp [intOf]
  |zero=>
   have hg:=Lg s n 0 0 Xl;by_cases h9:s<9
   ·go_wp2;go_region_with (go_at_call 191;refine (Xe _ _ Xl Xl).mono ?_;rintro e w' ⟨rfl,rfl⟩);all_goals
     have q1:=As4 Hn (by rw [Hs.Ab];exact h9);have q3:=sZ n w (w.alloc (.cells (Kt n) 275)).drew (fun i=>by simp) 9 s Hs.Ab;rw [Hs.Ab] at q1;rw [q1];clear q1;have q4:=As3 ⟨w.heap.size,0,none⟩ s Xl;go_wp2;go_ret;exact ⟨rfl,((Ai.refl _).alloc _).drew⟩
   ·obtain rfl:s=9:=by omega
    have q1:=Af1 Hn Hs.Ab;rw [Hs.Ab] at q1;have q3:=sZ n w (w.alloc (.cells (Kt n) 275)) (fun i=>by simp) 9 9 Hs.Ab;clear h9;go_wp2_with (go_at_call 191;refine (Xe _ _ Xl Xl).mono ?_;rintro e w' ⟨rfl,rfl⟩;simp only [show Int.toNat 9=9 from rfl]);go_ret;exact ⟨rfl,(Ai.refl _).alloc _⟩
def FV (i:Int):Nat:=if i<0 then (2 * (-i - 1)+1).toNat else (2 * i).toNat
def FN (n:Nat):Int:=if n % 2=1 then -((n / 2:Nat):Int) - 1 else ((n / 2:Nat):Int)
theorem fB (i:Int):FN (FV i)=i:=by
 unfold FV FN;by_cases h:i<0
 ·rw [Al h,Al Xl];omega
 ·rw [Ak h,Ak Xl];omega
theorem TL (n:Nat):FV (FN n)=n:=by
 unfold FV FN;by_cases h:n % 2=1
 ·rw [Al h,Al Xl];omega
 ·rw [Ak h,Ak Xl];omega
theorem qP {i:Int} (h0:-9223372036854775808≤i) (h1:i≤9223372036854775807):FV i<18446744073709551616:=by
 unfold FV;by_cases h:i<0
 ·rw [Al h];omega
 ·rw [Ak h];omega
theorem Ac0 (x:Int) (h0:-9223372036854775808≤x) (h1:x≤9223372036854775807):bits .xor .i64 (-1) x=-x - 1:=by
 show IntKind.i64.wrap ((BitVec.ofInt 64 (-1) ^^^ BitVec.ofInt 64 x).toNat:Int)=_;rw [show BitVec.ofInt 64 (-1)=BitVec.allOnes 64 from rfl,BitVec.allOnes_xor,BitVec.toNat_not,BitVec.toNat_ofInt,IntKind.wrap_i64];simp only [Nat.reducePow];omega
theorem xD (a:Int) (h0:0≤a) (h1:a * 2<18446744073709551616):bits .or .u64 (a * 2) 1=a * 2+1:=by
 obtain ⟨n,rfl⟩:=Po h0;have h:=u64_or_nat (n * 2) 1 Xl Xl;rw [Nat.or_comm,nat_join1' (n * 2) 1 Xl Xl] at h;have e:((n * 2:Nat):Int)=(n:Int) * 2:=by omega
 have e1:((1:Nat):Int)=1:=rfl;rw [e,e1] at h;rw [h];omega
theorem Ai9 (x:Int) (w:World) (h0:-9223372036854775808≤x) (h1:x≤9223372036854775807):
 Calls prog 192 #[.int .i64 x] w fun e w'=>e=.returned (.int .u64 (FV x:Nat))∧w=w':=by
 by_cases h:x<0
 ·have q1:=Ac0 x h0 h1;have q3:Hid (bits BinOp.or IntKind.u64 (IntKind.u64.wrap (IntKind.u64.wrap (-x - 1) * 2)) 1=(FV x:Int)):=by
   show _=_;rw [IntKind.wrap_u64,IntKind.wrap_u64,Int.emod_eq_of_lt Xl Xl,Int.emod_eq_of_lt Xl Xl,xD (-x - 1) Xl Xl];unfold FV;rw [Al h];omega
  have b1:0≤-x - 1:=by omega
  have b2:-x - 1≤9223372036854775807:=by omega
  go_enter func192,ntmps192;go_wp2;go_ret;exact ⟨IJ q3.Ab,rfl⟩
 ·have q3:Hid ((FV x:Int)=x * 2):=by show _=_;unfold FV;rw [Ak h];omega
  go_enter func192,ntmps192;go_wp2;go_ret;exact ⟨IJ q3.symm,rfl⟩
theorem vJ (x:Int) (w:World) (h0:0≤x) (h1:x<18446744073709551616):
 Calls prog 168 #[.int .u64 x] w fun e w'=>e=.returned (.int .i64 (FN x.toNat))∧w=w':=by
 obtain ⟨n,rfl⟩:=Po h0;rw [Db];have b1:(0:Int)≤(n:Int) / 2:=by omega
 have b2:(n:Int) / 2≤9223372036854775807:=by omega
 have q1:=Ac0 ((n:Int) / 2) Xl Xl;by_cases h:n % 2=1
 ·have q2:(bits BinOp.and IntKind.u64 (n:Int) 1==1)=true:=by rw [and_one_u64 _ Xl Xl];simp;omega
  have q3:Hid (FN n=-((n:Int) / 2) - 1):=by show _=_;unfold FN;rw [Al h];omega
  clear h0 h1 h;go_enter func168,ntmps168;go_wp2;go_ret;exact ⟨IJ q3.symm,rfl⟩
 ·have q2:(bits BinOp.and IntKind.u64 (n:Int) 1==1)=false:=by rw [and_one_u64 _ Xl Xl];simp;omega
  have q3:Hid (FN n=(n:Int) / 2):=by show _=_;unfold FN;rw [Ak h];omega
  clear h0 h1 h;go_enter func168,ntmps168;go_wp2;go_ret;exact ⟨IJ q3.symm,rfl⟩
theorem oL (x:Int) (w:World) (h0:0≤x) (h1:x<18446744073709551616):
 Calls prog 158 #[.int .u64 x] w fun e w'=>e=.returned (.int .i64 (FN x.toNat))∧w=w':=by
 obtain ⟨n,rfl⟩:=Po h0;rw [Db];have b1:(0:Int)≤(n:Int) / 2:=by omega
 have b2:(n:Int) / 2≤9223372036854775807:=by omega
 by_cases h:n % 2=1
 ·have q2:((n:Int) % 2==0)=false:=by simp;omega
  have q3:Hid (FN n=-((n:Int) / 2) - 1):=by show _=_;unfold FN;rw [Al h];omega
  clear h0 h1 h;go_enter func158,ntmps158;go_wp2;go_ret;exact ⟨IJ q3.symm,rfl⟩
 ·have q2:((n:Int) % 2==0)=true:=by simp;omega
  have q3:Hid (FN n=(n:Int) / 2):=by show _=_;unfold FN;rw [Ak h];omega
  clear h0 h1 h;go_enter func158,ntmps158;go_wp2;go_ret;exact ⟨IJ q3.symm,rfl⟩
theorem wT (x:Int) (w:World) (h0:-9223372036854775808≤x) (h1:x≤9223372036854775807):
 Calls prog 167 #[.int .i64 x] w fun e w'=>e=.returned (.string ⟨(Cx (FV x)).toArray⟩)∧Ai w w':=by
 have hf:=qP h0 h1;go_enter func167,ntmps167;go_wp2_with fail;refine (Ai9 _ _ h0 h1).mono ?_;rintro e w1 ⟨rfl,rfl⟩;have Hf:=Aa hf;clear h0 h1 hf;go_wp2_with fail;refine (kY _ _ Xl (by have:=Hf.Ab;omega)).mono ?_;rintro e w2 ⟨rfl,hb⟩;rw [Db];go_wp2;go_ret;exact ⟨rfl,hb⟩
attribute [local go_sem] WJ
theorem R9:∀ b:Nat,b<256→(if bits BinOp.and IntKind.u8 (b:Int) 128=0 then BX b=1 else BX b=1+BX (b * 2 % 256)):=by decide+kernel
theorem qJ (x:Int) (w:World) (h0:0≤x) (h1:x<256):
 Calls prog 195 #[.int .u8 x] w fun e w'=>e=.returned (.int .i64 ((BX x.toNat:Nat) - 1:Int))∧w=w':=by
 obtain ⟨c,rfl⟩:=Po h0;rw [Db];have hc:=MJ c;go_enter func195,ntmps195;go_wp2;go_loop [0,3] (fun b n=>∃ k p:Nat,p<256∧k+BX p≤9∧n=.int .i64 k∧b=.int .u8 p∧Hid (k+BX p=BX c)) (fun b _=>BX (intOf b).toNat);case atStart=>exact ⟨0,c,Xl,Xl,rfl,rfl,by show _=_;omega⟩
 case round=>
  obtain ⟨k,p,hp,hk,rfl,rfl,hd⟩:=hrel;have hst:=R9 p hp;by_cases hb:bits BinOp.and IntKind.u8 (p:Int) 128=0
  ·rw [Al hb] at hst;have q1:(bits BinOp.and IntKind.u8 (p:Int) 128 !=0)=false:=by simp [hb]
   have hq:Hid ((k:Int)=(BX c:Int) - 1):=by have:=hd.Ab;show _=_;omega
   clear hb hst hd;go_wp2;go_ret;exact ⟨IJ hq.Ab,rfl⟩
  ·rw [Ak hb] at hst;have q1:(bits BinOp.and IntKind.u8 (p:Int) 128 !=0)=true:=by simp [hb]
   have Hst:=Aa hst;clear hb hst;go_wp2;go_round;case rel=>exact ⟨k+1,p * 2 % 256,Xl,by have:=Hst.Ab;omega,by go_num,by simp,by have:=Hst.Ab;have:=hd.Ab;show _=_;omega⟩
   case measure=>have:=Hst.Ab;simp only [intOf,Db];rw [show ((p:Int) * 2 % 256).toNat=p * 2 % 256 by omega];omega
theorem take_nil (w:World):Calls prog 175 #[.string ⟨([]:List UInt8).toArray⟩] w fun e w'=>e=.returned (.tuple #[.int .u64 0,.int .i64 0,.bool false])∧w=w':=by
 go_enter func175,ntmps175;go_wp2;go_ret3;exact ⟨rfl,rfl⟩
theorem vS (c:UInt8) (r:List UInt8) (w:World) (hr:r.length≤140737488351231) (h:r.length+1<BX c.toNat):Calls prog 175 #[.string ⟨(c::r).toArray⟩] w fun e w'=>e=.returned (.tuple #[.int .u64 0,.int .i64 0,.bool false])∧w=w':=by
 have hc:=MJ c.toNat;have hc':=c.toNat_lt;go_enter func175,ntmps175;go_wp2_with fail;refine (qJ _ _ Xl Xl).mono ?_;rintro e w1 ⟨rfl,rfl⟩;go_wp2;go_ret3;exact ⟨rfl,rfl⟩
theorem uC:∀ c:Nat,c<256→bits BinOp.andNot IntKind.u8 (c:Int) ((lead (BX c):Nat):Int)=((c - lead (BX c):Nat):Int):=by decide+kernel
theorem yF (x:Int) (w:World) (h1:1≤x) (h2:x≤9):
 Calls prog 191 #[.int .i64 x] w fun e w'=>e=.returned (.int .u8 (lead x.toNat:Nat))∧w'=w:=
 (Xe x w h1 h2).mono fun _ _ h=>⟨h.1,h.2.symm⟩
def ZV (d:Nat) (r:List UInt8) (k:Nat):Nat:=d * 256 ^ k+Mg (r.take k)
theorem WR (d:Nat) (r:List UInt8):ZV d r 0=d:=by simp [ZV,Mg]
theorem iE (d:Nat) (r:List UInt8) (k:Nat) (h:k<r.length):ZV d r (k+1)=ZV d r k * 256+r[k].toNat:=by
 unfold ZV;rw [Rh h,Yd];simp only [Mg,En,Ot,FI,Nat.pow_zero,Wu,Kb,PT,Ka,Nat.mul_assoc];omega
theorem zU (c:Nat) (hc:c<256) (r:List UInt8) (k:Nat) (h:k+1<BX c) (hk:k≤r.length):ZV (c - lead (BX c)) r k<72057594037927936:=by
 have h2:=MJ c;have h3:=jA c hc;have h4:=YN (r.take k);rw [take_len hk] at h4;unfold ZV;generalize c - lead (BX c)=d at *;generalize Mg (r.take k)=v at *;generalize BX c=s at *;have h5:(d+1) * 256 ^ k≤2 ^ (8 - s) * 256 ^ k:=QF _ h3;have h6:2 ^ (8 - s) * 256 ^ k≤2 ^ (8 - s) * 256 ^ (s - 2):=Nat.mul_le_mul_left _ (Xu Xl Xl);have h7:2 ^ (8 - s) * 256 ^ (s - 2)≤72057594037927936:=by
  obtain rfl|rfl|rfl|rfl|rfl|rfl|rfl|rfl:s=2∨s=3∨s=4∨s=5∨s=6∨s=7∨s=8∨s=9:=by omega
  all_goals decide
 rw [Ka] at h5;omega
theorem qH (p b:Nat) (hp:p<72057594037927936) (hb:b<256):bits .or .u64 ((p:Int) * 256) (b:Int)=((p * 256+b:Nat):Int):=by
 have h:=u64_or_nat (p * 256) b Xl Xl;rw [Nat.or_comm,nat_join8' (p * 256) b Xl Xl] at h;rw [←h];simp
theorem I9 (c:UInt8) (r:List UInt8) (w:World) (hr:r.length≤140737488351231) (h:¬ r.length+1<BX c.toNat):
 Calls prog 175 #[.string ⟨(c::r).toArray⟩] w fun e w'=>e=.returned (.tuple #[.int .u64 ((Dh (c::r)).1:Nat),.int .i64 ((Dh (c::r)).2.1:Nat),.bool (Dh (c::r)).2.2])∧Ai w w':=by
 have hc:=MJ c.toNat;have hc1:=NC c.toNat;have hc':=c.toNat_lt;have q1:=uC c.toNat hc';have hd:c.toNat - lead (BX c.toNat)≤255:=by omega
 obtain ⟨d,Hd⟩:∃ d,Hid (c.toNat - lead (BX c.toNat)=d):=⟨_,rfl⟩;rw [Hd.Ab] at q1 hd;have Hl:=Aa (zU c.toNat hc' r);have He:Hid (OY c.toNat r=ZV d r (BX c.toNat - 1)):=by show _=_;unfold OY ZV;rw [Hd.Ab]
 have Hf:Hid (Dh (c::r)=if Bg (OY c.toNat r)=BX c.toNat then (OY c.toNat r,BX c.toNat,true) else (0,0,false)):=by show _=_;rw [Dh,Ak h]
 rw [Hd.Ab] at Hl;have hd0:decide ((r.length:Int)+1<((BX c.toNat:Nat):Int))=false:=by simp;omega
 go_enter func175,ntmps175;go_wp2_with fail;refine (qJ _ _ Xl Xl).mono ?_;rintro e w1 ⟨rfl,rfl⟩;go_wp2_with fail;go_quiet ((go_at_call 191;exact Ty (yF _ _ Xl Xl)));rw [Db];have q2:(((BX c.toNat:Nat):Int)==9)=decide (BX c.toNat=9):=by rw [Wy];simp;omega
 have e9:BX c.toNat=9→d=0:=by
  intro e;have:=(UN c.toNat hc').2.2.1 e;rw [←Hd.Ab,e,this]
  rfl
 clear hd0;obtain ⟨s,Hs⟩:∃ s,Hid (BX c.toNat=s):=⟨_,rfl⟩;rw [Hs.Ab] at hc hc1 h Hl He Hf q2 e9 ⊢;obtain ⟨b9,q3,q4⟩:∃ b,((s:Int)==9)=b∧Hid (b=true→d=0):=⟨_,rfl,fun hb=>e9 (by simpa [q2] using hb)⟩;clear q1 q2 e9;cases b9;all_goals
  go_wp2_with fail;go_loop [6,7] (fun n i=>∃ k p:Nat,k+1≤s∧i=.int .i64 ((k:Int)+1)∧n=.int .u64 p∧Hid (p=ZV d r k)) (fun _ i=>s - (intOf i).toNat);case atStart=>first|exact ⟨0,d,Xl,by simp,rfl,(WR d r).symm⟩|exact ⟨0,0,Xl,by simp,rfl,by rw [WR];exact (q4 (by first|rfl|trivial)).symm⟩
  case round=>
   obtain ⟨k,p,hk,rfl,rfl,hp⟩:=hrel;by_cases hlt:k+1<s
   ·have hkr:k<r.length:=by omega
    have b1:p<72057594037927936:=by rw [hp.Ab];exact Hl k hlt Xl
    have b2:=r[k].toNat_lt;have q5:=qH p r[k].toNat b1 b2;have Hst:=Aa (iE d r k hkr);go_wp2;go_round;case rel=>exact ⟨k+1,p * 256+r[k].toNat,Xl,by go_num,by go_num,by rw [hp.Ab];exact Hst.symm⟩
    case measure=>simp [intOf];omega
   ·have hks:k+1=s:=by omega
    have Hp:Hid (OY c.toNat r=p):=by show _=_;rw [He.Ab,hp.Ab,←hks];rfl
    rw [Hp.Ab] at Hf;clear hp He hks;by_cases hz:Bg p=s
    ·have Hz:=Aa hz;have q6:(((Bg p:Nat):Int) !=(s:Int))=false:=by simp [hz]
     clear hz;go_wp2_with (go_at_call 190;refine (ZB _ _ Xl).mono ?_;rintro e w2 ⟨rfl,rfl⟩;rw [Db]);go_ret3;rw [Hf.Ab,Al Hz.Ab];exact ⟨rfl,(Ai.refl w).drewN _⟩
    ·have Hz:=Aa hz;have q6:(((Bg p:Nat):Int) !=(s:Int))=true:=by simp;omega
     clear hz;go_wp2_with (go_at_call 190;refine (ZB _ _ Xl).mono ?_;rintro e w2 ⟨rfl,rfl⟩;rw [Db]);go_ret3;rw [Hf.Ab,Ak Hz.Ab];exact ⟨rfl,(Ai.refl w).drewN _⟩
theorem Ac8 (l:List UInt8) (w:World) (hl:l.length≤140737488351232):
 Calls prog 175 #[.string ⟨l.toArray⟩] w fun e w'=>e=.returned (.tuple #[.int .u64 ((Dh l).1:Nat),.int .i64 ((Dh l).2.1:Nat),.bool (Dh l).2.2])∧Ai w w':=by
 cases l with
 |nil=>exact (take_nil w).mono fun _ _ h=>⟨h.1,h.2 ▸ Ai.refl w⟩
 |cons c r=>
  have hr:r.length≤140737488351231:=by simpa using hl
  by_cases h:r.length+1<BX c.toNat
  ·refine (vS c r w hr h).mono fun _ _ h'=>⟨?_,h'.2 ▸ Ai.refl w⟩
   rw [Dh,Al h];exact h'.1
  ·exact I9 c r w hr h
end Go.Proofs.YtijplolmkcdflaaGreat
namespace Go.Proofs.YtijplolmkcdflaaGreat
open Tryz
open Go.RowKit
theorem IV (a:Addr) (n:Nat):(a.add n).block=a.block:=by unfold Addr.add;split<;>rfl
theorem UU (a:Addr) (i j:Nat):(a.add i).add j=a.add (i+j):=by
 unfold Addr.add;by_cases hi:i=0<;>by_cases hj:j=0<;>simp [hi,hj,QZ]
def Reads (w:World) (B size:Nat) (A:Option Addr) (n:Nat) (xs:List Value):Prop:=
 xs.length=n * size∧(0<n→∃ ad,A=some ad∧ad.block<B∧∀ j u,xs[j]?=some u→w.cell? (ad.add j)=some u)
section
variable {w w' : World} {B B' size n : Nat} {A : Option Addr} {xs : List Value}
theorem Reads.at_ {k:Nat} (h:Reads w B 1 A n xs) (hk:k<n):∃ ad u,A=some ad∧ad.block<B∧xs[k]?=some u∧w.cell? (ad.add k)=some u:=by
 obtain ⟨ad,e,hb,hc⟩:=h.2 Xl;have hl:k<xs.length:=by have:=h.1;omega
 exact ⟨ad,xs[k],e,hb,Fp hl,hc k _ (Fp hl)⟩
theorem Reads.keep (h:Reads w B size A n xs) (hk:∀ p:Addr,p.block<B→w'.cell? p=w.cell? p):Reads w' B size A n xs:=
 ⟨h.1,fun hn=>by
  obtain ⟨ad,e,hb,hc⟩:=h.2 hn;exact ⟨ad,e,hb,fun j u hu=>(hk _ (by rw [IV];exact hb)).trans (hc j u hu)⟩⟩
theorem Reads.more (h:Reads w B size A n xs) (hB:B≤B'):Reads w B' size A n xs:=
 ⟨h.1,fun hn=>by
  obtain ⟨ad,e,hb,hc⟩:=h.2 hn;exact ⟨ad,e,Xl,hc⟩⟩
theorem Reads.below (h:Reads w B size A n xs) (hb:Below B w w'):Reads w' B size A n xs:=h.keep fun _ hp=>hb.cell hp
theorem Reads.drew (h:Reads w B size A n xs):Reads w.drew B size A n xs:=h
theorem Reads.drewN (h:Reads w B size A n xs) (k:Nat):Reads (w.drewN k) B size A n xs:=h
theorem Reads.alloc (h:Reads w B size A n xs) (hB:B≤w.heap.size) (o:Obj):Reads (w.alloc o) B size A n xs:=h.keep fun p hp=>World.cell?_alloc_lt w o p Xl
theorem Reads.setCell (h:Reads w B size A n xs) {p:Addr} (hB:B≤p.block) (u:Value):Reads (w.setCell p u) B size A n xs:=
 h.keep fun q hq=>kG w p q u (fun e=>by subst e;omega)
theorem Reads.grown (h:Reads w B size A n xs) {row:Option Nat} (hg:w.grownBy w' row) (hB:B≤w.heap.size) (hr:∀ g,row=some g→B≤g):Reads w' B size A n xs:=
 h.keep fun p hp=>Vl (hg.block p.block Xl (fun e=>by have:=hr _ e.symm;omega))
theorem Reads.cut (h:Reads w B size A n xs) {k cap:Nat} (hk:k≤n) (hc:n≤cap):
 Reads w B size (if cap=k then A else A.map (·.add (k * size))) (n - k) (xs.drop (k * size)):=by
 refine ⟨by rw [Ih,h.1,Nat.sub_mul],fun hn=>?_⟩;obtain ⟨ad,rfl,hb,hcell⟩:=h.2 Xl;rw [Ak Xl];refine ⟨ad.add (k * size),rfl,by rw [IV];exact hb,fun j u hu=>?_⟩;rw [UU];exact hcell _ u (by rw [←hu,NJ])
theorem Reads.BC {base:Nat} {e:TypeId} {c:Nat} (h:w.ownsRow base e size (.slice A n c) n xs):Reads w w.heap.size size A n xs:=by
 refine ⟨h.1,fun hn=>?_⟩;obtain ⟨g,cap,hv,_,hlt⟩:=h.form hn;have hA:A=some ⟨g,0,none⟩:=by injection hv
 subst hA;exact ⟨_,rfl,hlt,h.cells (g:=g) rfl⟩
end
section
variable {P : Program} (w : World)
theorem Vt (base:Nat) (t ty e:TypeId) (i:TypeInfo) (size:Nat) (ht:P.underlying t=some (.slice e)) (hi:P.info? e=some i)
 (v:Value) (n:Nat) (xs:List Value) (hown:w.ownsRow base e size v n xs) (c:Nat):(Builtin.append_ #[t,t] ty #[v,.slice none 0 c]).run P w=.ok v w:=by
 rcases hown.2 with ⟨rfl,rfl⟩|⟨g,cap,cur,rfl,_,_,hnc,_⟩
 ·simp [Builtin.append_,run_underlying ht,sizeOf,typeInfo,hi,Builtin.lenOf,Builtin.firstCells]
 ·simp [Builtin.append_,run_underlying ht,sizeOf,typeInfo,hi,Builtin.lenOf,Builtin.firstCells,hnc,storeCells]
theorem Gj (base:Nat) (t ty e:TypeId) (i:TypeInfo) (z:Value) (size bytes:Nat) (ht:P.underlying t=some (.slice e)) (hi:P.info? e=some i) (hz:i.zero=some z)
 (hsize:i.size=size) (hby:i.bytes=bytes) (hzs:z.cells.size=size) (hsz:0<size)
 (v:Value) (n:Nat) (xs:List Value) (hown:w.ownsRow base e size v n xs)
 (B:Nat) (A:Option Addr) (m c:Nat) (news:List Value) (hr:Reads w B size A m news) (h1:∀ u ∈ news,u.oneCell'=true)
 (h63:n+m≤maxLen) (hbytes:(n+m) * bytes≤140737488355328) (hbase:base≤w.heap.size):
 ∃ v' w',(Builtin.append_ #[t,t] ty #[v,.slice A m c]).run P w=.ok v' w'∧w'.ownsRow base e size v' (n+m) (xs++news)∧w.grownBy w' v.ownBlock∧
  (v'.ownBlock=v.ownBlock∨v'.ownBlock=some w.heap.size):=by
 rcases A with _|ad
 ·have hm:m=0:=by
   rcases Vk m with h0|h0
   ·exact h0
   ·obtain ⟨ad,h,_⟩:=hr.2 h0;cases h
  subst hm;have hn:news=[]:=LD (by simpa using hr.1);subst hn;exact ⟨v,w,Vt w base t ty e i size ht hi v n xs hown c,by simpa using hown,World.grownBy.refl w _,.inl rfl⟩
 ·have hcells:∀ j u,news[j]?=some u→w.cell? (ad.add j)=some u:=by
   intro j u hu;rcases Vk m with h0|h0
   ·subst h0;have hn:news=[]:=LD (by simpa using hr.1);subst hn;simp at hu
   ·obtain ⟨ad',h,_,hc⟩:=hr.2 h0;injection h with h;subst h;exact hc j u hu
  obtain ⟨v',w',hrun,h2,h3,_,h5⟩:=run_append_own_at (P:=P) w base t ty e i z size bytes ht hi hz hsize hby hzs hsz v n xs hown ad m c news hr.1 hcells h1 h63 hbytes hbase;exact ⟨v',w',hrun,h2,h3,h5⟩
theorem OX {o:Oper} {a:Act} {K:Act→World→Prop} {Q:Exit→Act→World→Prop} (s x:Operand) (t:TypeId)
 (ho:o.op=.call { callee:=.builtin .append,args:=#[s,x],argTypes:=#[t,t] })
 (base:Nat) (e:TypeId) (i:TypeInfo) (z:Value) (size bytes:Nat) (ht:P.underlying t=some (.slice e)) (hi:P.info? e=some i) (hz:i.zero=some z)
 (hsize:i.size=size) (hby:i.bytes=bytes) (hzs:z.cells.size=size) (hsz:0<size)
 (v:Value) (n:Nat) (xs:List Value) (hs:a.eval s=v) (hown:w.ownsRow base e size v n xs)
 (B:Nat) (A:Option Addr) (m c:Nat) (news:List Value) (hx:a.eval x=.slice A m c) (hr:Reads w B size A m news) (h1:∀ u ∈ news,u.oneCell'=true)
 (h63:n+m≤maxLen) (hbytes:(n+m) * bytes≤140737488355328) (hbase:base≤w.heap.size)
 (h:∀ v' w',w'.ownsRow base e size v' (n+m) (xs++news)→w.grownBy w' v.ownBlock→(v'.ownBlock=v.ownBlock∨v'.ownBlock=some w.heap.size)→K (a.put o.dst v') w'):o.wp P a w K Q:=by
 obtain ⟨v',w',hrun,h2,h3,h4⟩:=Gj (P:=P) w base t o.type e i z size bytes ht hi hz hsize hby hzs hsz v n xs hown B A m c news hr h1 h63 hbytes hbase;unfold Oper.wp execOp;simp only [ho,resolve,invoke,builtin,KH,LB,LC,QD,Em,EX,hs,hx,hrun];exact h v' w' h2 h3 h4
end
def Rd (w:World) (size:Nat) (A:Option Addr) (n:Nat) (xs:List Value):Prop:=Reads w w.heap.size size A n xs
theorem Rd.Av {w w':World} {size n:Nat} {A:Option Addr} {xs:List Value} (h:Rd w size A n xs) (hb:Ai w w'):Rd w' size A n xs:=(Reads.below h hb).more hb.size
theorem Rd.BC {w:World} {base:Nat} {e:TypeId} {size n c:Nat} {A:Option Addr} {xs:List Value} (h:w.ownsRow base e size (.slice A n c) n xs):Rd w size A n xs:=Reads.BC h
theorem Rd.nil {w:World} {size:Nat} {A:Option Addr}:Rd w size A 0 []:=⟨by simp,fun h=>absurd h Xl⟩
theorem Rd.int {w:World} {A:Option Addr} {n k:Nat} {kd:IntKind} {zs:List Int} (h:Rd w 1 A n (zs.map (Value.int kd))) (hk:k<n):
 ∃ ad z,A=some ad∧zs[k]?=some z∧w.cell? (ad.add k)=some (.int kd z):=by
 obtain ⟨ad,u,e,_,hx,hc⟩:=Reads.at_ h hk;rw [Ed] at hx;cases hz:zs[k]? with
 |none=>rw [hz] at hx;cases hx
 |some z=>
  rw [hz] at hx;simp at hx;subst hx;exact ⟨ad,z,e,rfl,hc⟩
theorem Rd.len {w:World} {A:Option Addr} {n:Nat} {xs:List Value} (h:Rd w 1 A n xs):xs.length=n:=by have:=h.1;omega
structure Cy (P:Program) (t e:TypeId) (size bytes:Nat):Prop where
 ht:P.underlying t=some (.slice e)
 hi:∃ i z,P.info? e=some i∧i.zero=some z∧i.size=size∧i.bytes=bytes∧z.cells.size=size
 pos:0<size
theorem Cy.mk' {P:Program} {t e:TypeId} {size bytes:Nat} {z:Value} (ht:P.underlying t=some (.slice e))
 (h:(P.info? e).map (fun i=>(i.zero,i.size,i.bytes))=some (some z,size,bytes)) (hz:z.cells.size=size) (pos:0<size):Cy P t e size bytes:=by
 obtain ⟨i0,hi0,hz0,hz1,hz2⟩:=info_parts h;exact ⟨ht,⟨i0,z,hi0,hz0,hz1,hz2,hz⟩,pos⟩
theorem Ao {w:World} {base:Nat} {e:TypeId} {size n:Nat} {v:Value} {xs:List Value} (h:w.ownsRow base e size v n xs):∃ A c,v=.slice A n c∧n≤c:=by
 rcases h.2 with ⟨rfl,rfl⟩|⟨g,cap,cur,rfl,_,_,hc,_⟩
 ·exact ⟨_,_,rfl,Ci _⟩
 ·exact ⟨_,_,rfl,hc⟩
theorem AV {w:World} {g m size:Nat} {cs:Array Value} {e:TypeId} (hb:w.heap[g]?=some (.cells cs e (0,0))) (hcs:cs.size=m * size):Reads w w.heap.size size (some ⟨g,0,none⟩) m cs.toList:=by
 refine ⟨by simpa using hcs,fun _=>⟨_,rfl,?_,fun j u hu=>?_⟩⟩
 ·rcases MX g w.heap.size with h|h
  ·exact h
  ·rw [Vm h] at hb;cases hb
 ·have ha:(⟨g,0,none⟩:Addr).add j=⟨g,j,none⟩:=by
   unfold Addr.add;split
   ·rename_i h;subst h;rfl
   ·simp
  rw [ha,cell_of_row w g j cs e (0,0) hb];simpa using hu
theorem mP {w0 w w':World} {e:TypeId} {size n:Nat} {v:Value} {xs:List Value} (hB:Ai w0 w) (hown:w.ownsRow w0.heap.size e size v n xs) (hg:w.grownBy w' v.ownBlock):Ai w0 w':=
 hB.grown hg fun k hk=>(hown.lt k hk).1
section
variable {P : Program} {w : World}
theorem Zn {o:Oper} {a:Act} {K:Act→World→Prop} {Q:Exit→Act→World→Prop} (s x:Operand) (t:TypeId)
 (ho:o.op=.call { callee:=.builtin .append,args:=#[s,x],argTypes:=#[t,t] })
 {e:TypeId} {size bytes:Nat} (E:Cy P t e size bytes) (w0:World) (hB:Ai w0 w)
 (v:Value) (n:Nat) (xs:List Value) (hs:a.eval s=v) (hown:w.ownsRow w0.heap.size e size v n xs)
 (A:Option Addr) (m c:Nat) (news:List Value) (hx:a.eval x=.slice A m c) (hr:Rd w size A m news) (h1:∀ u ∈ news,u.oneCell'=true)
 (h63:n+m≤maxLen) (hbytes:(n+m) * bytes≤140737488355328)
 (h:∀ v' w',w'.ownsRow w0.heap.size e size v' (n+m) (xs++news)→Ai w0 w'→w.grownBy w' v.ownBlock→(v'.ownBlock=v.ownBlock∨v'.ownBlock=some w.heap.size)→K (a.put o.dst v') w'):o.wp P a w K Q:=by
 obtain ⟨i,z,hi,hz,hsz,hby,hzs⟩:=E.hi;exact OX w s x t ho w0.heap.size e i z size bytes E.ht hi hz hsz hby hzs E.pos v n xs hs hown w.heap.size A m c news hx hr h1 h63 hbytes hB.size fun v' w' h2 h3 h4=>h v' w' h2 (mP hB hown h3) h3 h4
theorem CL {ops:Array Oper} {rest:List Oper} {o:Oper} {a:Act} {Q:Exit→Act→World→Prop} (hgd:o.guard=none) (s x:Operand) (t:TypeId)
 (ho:o.op=.call { callee:=.builtin .append,args:=#[s,x],argTypes:=#[t,t] })
 {e:TypeId} {size bytes:Nat} (E:Cy P t e size bytes) (w0:World) (hB:Ai w0 w)
 (v:Value) (n:Nat) (xs:List Value) (hs:a.eval s=v) (hown:w.ownsRow w0.heap.size e size v n xs)
 (A:Option Addr) (m c:Nat) (news:List Value) (hx:a.eval x=.slice A m c) (hr:Rd w size A m news) (h1:∀ u ∈ news,u.oneCell'=true)
 (h63:n+m≤maxLen) (hbytes:(n+m) * bytes≤140737488355328)
 (h:∀ v' w',w'.ownsRow w0.heap.size e size v' (n+m) (xs++news)→Ai w0 w'→w.grownBy w' v.ownBlock→(v'.ownBlock=v.ownBlock∨v'.ownBlock=some w.heap.size)→wpList P ops Q rest (a.put o.dst v') w'):wpList P ops Q (o::rest) a w:=
 Rk hgd fun _ hK=>Zn s x t ho E w0 hB v n xs hs hown A m c news hx hr h1 h63 hbytes fun v' w' h2 h3 h4 h5=>hK _ _ (h v' w' h2 h3 h4 h5)
theorem kL {ops:Array Oper} {o:Oper} {a:Act} {K:Act→World→Prop} {Q:Exit→Act→World→Prop} {X:Prop} (hgd:o.guard=none) (s x:Operand) (t:TypeId)
 (ho:o.op=.call { callee:=.builtin .append,args:=#[s,x],argTypes:=#[t,t] })
 {e:TypeId} {size bytes:Nat} (E:Cy P t e size bytes) (w0:World) (hB:Ai w0 w)
 (v:Value) (n:Nat) (xs:List Value) (hs:a.eval s=v) (hown:w.ownsRow w0.heap.size e size v n xs)
 (A:Option Addr) (m c:Nat) (news:List Value) (hx:a.eval x=.slice A m c) (hr:Rd w size A m news) (h1:∀ u ∈ news,u.oneCell'=true)
 (h63:n+m≤maxLen) (hbytes:(n+m) * bytes≤140737488355328)
 (h:∀ v' w',w'.ownsRow w0.heap.size e size v' (n+m) (xs++news)→Ai w0 w'→w.grownBy w' v.ownBlock→(v'.ownBlock=v.ownBlock∨v'.ownBlock=some w.heap.size)→K (a.put o.dst v') w'):
 if Region.wanted o (yielded ops a.tmps)=true then Oper.wp P o a w K Q else X:=by
 have hw:Region.wanted o (yielded ops a.tmps)=true:=by simp [Region.wanted,hgd]
 rw [Al hw];exact Zn s x t ho E w0 hB v n xs hs hown A m c news hx hr h1 h63 hbytes h
end
theorem EL {w w':World} (h:Ai w w') (row:Option Nat):w.grownBy w' row:=⟨h.os,h.tape,h.output,h.size,fun i hi _=>h.block i hi⟩
theorem uH {p:Prop} (h:p:=by simp):p:=h
theorem Ig {w w':World} {base:Nat} {e:TypeId} {size n:Nat} {v:Value} {xs:List Value} (h:w.ownsRow base e size v n xs) (hb:Ai w w'):w'.ownsRow base e size v n xs:=by
 refine h.kept (EL hb none) ?_;cases v.ownBlock with
 |none=>exact .inl rfl
 |some k=>exact .inr uH
theorem Ik (w:World) (e:TypeId) (cs:Array Value) (m size:Nat) (h:cs.size=m * size):Rd (w.alloc (.cells cs e)) size (some ⟨w.heap.size,0,none⟩) m cs.toList:=
 AV (PW _ _) h
def Bh (w:World) (g:Nat) (t:TypeId) (cs:Array Value):Prop:=w.heap[g]?=some (.cells cs t (0,0))
section
variable {w w' : World} {g : Nat} {t : TypeId} {cs : Array Value}
theorem Bh.lt (h:Bh w g t cs):g<w.heap.size:=by
 rcases MX g w.heap.size with hlt|hge
 ·exact hlt
 ·unfold Bh at h;rw [Vm hge] at h;cases h
theorem Bh.cell (h:Bh w g t cs) (i:Nat):w.cell? ⟨g,i,none⟩=cs[i]?:=cell_of_row w g i cs t (0,0) h
theorem Bh.Ap {w:World} {g:Nat} {t:TypeId} {cs:Array Value} (h:Bh w g t cs) (i:Nat) {v:Option Value} (e:cs[i]?=v:=by simp only [LG];rfl):w.cell? ⟨g,i,none⟩=v:=(h.cell i).trans e
theorem Bh.frozen (h:Bh w g t cs) (i:Nat):w.frozen? ⟨g,i,none⟩=false:=by
 unfold Bh at h;simp [World.frozen?,h]
theorem Bh.new (w:World) (t:TypeId) (cs:Array Value):Bh (w.alloc (.cells cs t)) w.heap.size t cs:=PW w _
theorem Bh.drew (h:Bh w g t cs):Bh w.drew g t cs:=h
theorem Bh.drewN (h:Bh w g t cs) (n:Nat):Bh (w.drewN n) g t cs:=h
theorem Bh.alloc (h:Bh w g t cs) (o:Obj):Bh (w.alloc o) g t cs:=(Below.heap_alloc w o g h.lt).trans h
theorem Bh.Iy (h:Bh w g t cs) (i:Nat) (u:Value):Bh (w.setCell ⟨g,i,none⟩ u) g t (cs.setIfInBounds i u):=by
 unfold Bh at h ⊢;simp [World.setCell,Array.getElem?_modify,h]
theorem Bh.far (h:Bh w g t cs) {p:Addr} (hp:g≠p.block) (u:Value):Bh (w.setCell p u) g t cs:=(Za w p u g hp).trans h
theorem Bh.below {B:Nat} (h:Bh w g t cs) (hb:Below B w w') (hg:g<B):Bh w' g t cs:=(hb.block g hg).trans h
theorem Bh.grown {row:Option Nat} (h:Bh w g t cs) (hb:w.grownBy w' row) (hg:some g≠row):Bh w' g t cs:=(hb.block g h.lt hg).trans h
theorem Bh.ne_ {g':Nat} {t':TypeId} {cs':Array Value} (h:Bh w g t cs) (h':Bh w g' t' cs') (hne:t≠t'):g≠g':=by
 rintro rfl;unfold Bh at h h';rw [h] at h';injection h' with h';injection h' with _ ht;exact hne ht
theorem IL {base:Nat} {e:TypeId} {size n:Nat} {v:Value} {xs:List Value} (h:w.ownsRow base e size v n xs) (hg:Bh w g t cs) (hne:e≠t):v.ownBlock≠some g:=by
 rcases h.2 with ⟨rfl,_⟩|⟨g',cap,cur,rfl,_,hh,_⟩
 ·simp [Value.ownBlock]
 ·intro he;have:g'=g:=by simpa [Value.ownBlock] using he
  subst this;exact Bh.ne_ (t:=e) hh hg hne rfl
end
theorem Bh.Av {w w':World} {g:Nat} {t:TypeId} {cs:Array Value} (h:Bh w g t cs) (hb:Ai w w'):Bh w' g t cs:=h.below hb h.lt
theorem Ru (l:List UInt8) (a:Nat):(⟨l.toArray⟩:ByteArray).extract a l.length=⟨(l.drop a).toArray⟩:=by
 rw [Ms,EU uH]
theorem Zu (l:List UInt8) (b:Nat):(⟨l.toArray⟩:ByteArray).extract 0 b=⟨(l.take b).toArray⟩:=by
 rw [Ms];simp
structure Over (w:World) where
 wd:World
 Av:Ai w wd
instance (w:World):Nonempty (Over w):=⟨⟨w,Ai.refl w⟩⟩
section
variable {P : Program} {w : World}
theorem Zb3 {p:Prop} (h:p:=by simpa using h):p:=h
theorem Am {id:Nat} {Q:Exit→Act→World→Prop} {a:Act} {l:List Oper} (h:wpQuiet P l.toArray (fun w'=>∃ u:Over w,w'=u.wd) (fun a'=>∀ w',(∃ u:Over w,w'=u.wd)→Q .normal a' w') l a) (hm:P.follows .mixedOrders=true:=by kernel_rfl) (hB:Region.lexB .any l.toArray=true:=by kernel_rfl):(Code.region id l.toArray true).wp P Q a w:=
 wp_region_quiet (C:=fun w'=>∃ u:Over w,w'=u.wd) hm hB ⟨⟨_,(Ai.refl w).drew⟩,rfl⟩ Zb3
theorem AB {f:FuncId} {args:Array Value} {u:Over w} {v:Value} (h:Calls P f args u.wd fun e w'=>e=.returned v∧Ai u.wd w'):
 Calls P f args u.wd fun e w''=>e=.returned v∧∃ m:Over w,w''=m.wd:=
 h.mono fun _ w' ⟨he,hm⟩=>⟨he,⟨w',u.Av.trans hm⟩,rfl⟩
theorem GA {f:FuncId} {args:Array Value} {u:Over w} {v:Value} (h:Calls P f args u.wd fun e w'=>e=.returned v∧u.wd=w'):
 Calls P f args u.wd fun e w''=>e=.returned v∧∃ m:Over w,w''=m.wd:=
 h.mono fun _ w' ⟨he,hm⟩=>⟨he,u,hm.symm⟩
theorem Over.cell {p:Addr} {v:Value} (h:w.cell? p=some v) (u:Over w):u.wd.cell? p=some v:=(u.Av.cell (JM _ _ h)).trans h
end
theorem Bh.range {w:World} {g:Nat} {t:TypeId} {cs:Array Value} (h:Bh w g t cs):w.rangeAt g 0 cs.toList:=fun j v hv=>by
 rw [FI,h.cell];simpa using hv
theorem Bh.there {w:World} {g:Nat} {t:TypeId} {cs:Array Value} (h:Bh w g t cs) {n:Nat} (hn:n≤cs.size):w.there g 0 n:=fun j hj=>by
 rw [FI,h.cell,h.frozen];exact ⟨by rw [Zh Xl];rfl,rfl⟩
structure Ep (P:Program) (ty:TypeId) (n:Nat):Prop where
 hu:∃ d,P.underlying ty=some d∧d.isRow=true
 hi:(P.info? ty).map (·.size)=some n
section
variable {P : Program}
theorem Zb6 {p:Prop} (h:p:=by rw [R.hi];simp [hn]):p:=h
theorem Af {ops:Array Oper} {rest:List Oper} {op:Oper} {a:Act} {w:World} {Q:Exit→Act→World→Prop} (hgd:op.guard=none) {ty:TypeId} {n:Nat} (R:Ep P ty n) (x:Operand) (ho:op.op=.load ty x)
 (b o:Nat) (hx:a.eval x=.pointer (some ⟨b,o,none⟩)) (cs:Array Value) (hn:cs.size=n) (hc:w.rangeAt b o cs.toList)
 (h:wpList P ops Q rest (a.put op.dst (.agg cs)) w):wpList P ops Q (op::rest) a w:=by
 obtain ⟨d,hu,hd⟩:=R.hu;exact wpList_load_mid hgd ty x ho b o hx cs.toList d hc hu hd Zb6 Zb3
theorem CY {ops:Array Oper} {rest:List Oper} {op:Oper} {a:Act} {w:World} {Q:Exit→Act→World→Prop} (hgd:op.guard=none) {ty:TypeId} {n:Nat} (R:Ep P ty n) (x:Operand) (ho:op.op=.load ty x)
 (g:Nat) (hx:a.eval x=.pointer (some ⟨g,0,none⟩)) {t:TypeId} {cs:Array Value} (hb:Bh w g t cs) (hn:cs.size=n)
 (h:wpList P ops Q rest (a.put op.dst (.agg cs)) w):wpList P ops Q (op::rest) a w:=
 Af hgd R x ho g 0 hx cs hn hb.range h
theorem Ca {ops:Array Oper} {rest:List Oper} {op:Oper} {a:Act} {w:World} {Q:Exit→Act→World→Prop} (hw:Region.wanted op (yielded ops a.tmps)=true) {ty:TypeId} {n:Nat} (R:Ep P ty n) (x:Operand) (ho:op.op=.load ty x)
 (g:Nat) (hx:a.eval x=.pointer (some ⟨g,0,none⟩)) {t:TypeId} {cs:Array Value} (hb:Bh w g t cs) (hn:cs.size=n)
 (h:wpList P ops Q rest (a.put op.dst (.agg cs)) w):wpList P ops Q (op::rest) a w:=by
 obtain ⟨d,hu,hd⟩:=R.hu;refine wpList_step fun K hK=>?_;rw [Al hw];exact wp_load_mid ty x ho g 0 hx cs.toList d hb.range hu hd Zb6 (hK _ _ Zb3)
theorem Dy (w:World) (g:Nat):∀ (vs:List Value) (o:Nat),w.grownBy (w.setCells g o vs) (some g)
 |[],o=>World.grownBy.refl w _
 |v::vs,o=>by
  have h1:w.grownBy (w.setCell ⟨g,o,none⟩ v) (some g):=
   ⟨rfl,rfl,rfl,by simp [World.setCell],fun i hi hne=>Za w _ _ i (fun e=>hne (by rw [e]))⟩
  have h2:=Dy (w.setCell ⟨g,o,none⟩ v) g vs (o+1);exact h1.trans h2
def Ea (cs:Array Value):Nat→List Value→Array Value
 |_,[]=>cs
 |o,v::vs=>Ea (cs.setIfInBounds o v) (o+1) vs
theorem Ow:∀ (vs:List Value) (o:Nat) (cs:Array Value),(Ea cs o vs).size=cs.size
 |[],_,_=>rfl
 |v::vs,o,cs=>by rw [Ea,Ow vs];simp
theorem Qe:∀ (vs:List Value) (o:Nat) (cs:Array Value) (j:Nat),j<cs.size→(Ea cs o vs)[j]?=if o≤j∧j<o+vs.length then vs[j - o]? else cs[j]?
 |[],o,cs,j,hj=>by rw [Ak uH,Ea]
 |v::vs,o,cs,j,hj=>by
  rw [Ea,Qe vs (o+1) _ j (by simpa using hj)];by_cases h1:o+1≤j∧j<o+1+vs.length
  ·rw [Al h1,Al (by simp only [En];omega),show j - o=(j - (o+1))+1 by omega,FR]
  ·rw [Ak h1,Zk];by_cases h2:o=j
   ·subst h2;rw [Al rfl,Al hj,Al uH];simp
   ·rw [Ak h2,Ak (by simp only [En];omega)]
theorem Jq (cs cs':Array Value) (h:cs.size=cs'.size):Ea cs 0 cs'.toList=cs':=by
 apply Array.ext_getElem?;intro j;by_cases hj:j<cs.size
 ·rw [Qe _ _ _ _ hj,Al Za3];simp
 ·rw [Vm (by rw [Ow];omega),Vm Xl]
theorem Bh.Ea {t:TypeId}:∀ (vs:List Value) (o:Nat) {w:World} {g:Nat} {cs:Array Value},Bh w g t cs→Bh (w.setCells g o vs) g t (Proofs.YtijplolmkcdflaaGreat.Ea cs o vs)
 |[],o,_,_,_,h=>h
 |v::vs,o,_,_,_,h=>Bh.Ea vs (o+1) (h.Iy o v)
theorem Ze2 {p:Prop} (h:p:=by rw [R.hi,hn']):p:=h
theorem Ae {ops:Array Oper} {rest:List Oper} {op:Oper} {a:Act} {w:World} {Q:Exit→Act→World→Prop} (hgd:op.guard=none) {ty:TypeId} {n:Nat} (R:Ep P ty n) (x y:Operand) (ho:op.op=.store ty x y)
 (g:Nat) (hx:a.eval x=.pointer (some ⟨g,0,none⟩)) {t:TypeId} {cs:Array Value} (hb:Bh w g t cs) (hn:cs.size=n) (cs':Array Value) (hn':cs'.size=n) (hy:a.eval y=.agg cs') (h1:cs'.all (·.oneCell')=true)
 (h:∀ w',Bh w' g t cs'→w.grownBy w' (some g)→wpList P ops Q rest (a.put op.dst undef) w'):wpList P ops Q (op::rest) a w:=by
 refine YY hgd ty x y ho g 0 cs' hx hy (hb.there Xl) Ze2 h1 (h _ ?_ (Dy w g _ _));have:=Bh.Ea cs'.toList 0 hb;rwa [Jq cs cs' Xl] at this
theorem Ai.DN {a w w':World} {g:Nat} (h:Ai a w) (hg:w.grownBy w' (some g)) (hr:a.heap.size≤g):Ai a w':=h.grown hg fun k e=>by injection e with e;omega
end
theorem Au {P:Program} {fn:Func} {p u:Tmp} {ty:TypeId} {n:Nat} (h:fn.results=#[.cell p ty,.tmp u]) (R:Ep P ty n) {tmps:Array Value} {w:World} {g:Nat} {t:TypeId} {cs:Array Value}
 (hp:tmps.getD p undef=.pointer (some ⟨g,0,none⟩)) (hb:Bh w g t cs) (hn:cs.size=n):
 (results fn tmps).run P w=.ok (.tuple #[.agg cs,tmps.getD u undef]) w:=by
 obtain ⟨d,hu,hd⟩:=R.hu;rw [results_cell_tmp h,hp];simp only [asAddr,LB,LC];rw [YW w g 0 ty cs.toList d hb.range hu hd Zb6];simp
theorem An1 {i:Nat} (h:i≤56):(2:Nat) ^ i≤72057594037927936:=by
 have:(2:Nat) ^ i≤2 ^ 56:=Xu Xl h;simpa using this
theorem jN (x:Int) (w:World) (h0:0≤x) (h1:x≤8):
 Calls prog 129 #[.int .i64 x] w fun e w'=>e=.returned (.int .u64 ((2 ^ (7 * x.toNat):Nat):Int))∧w=w':=by
 obtain ⟨s,rfl⟩:=Po h0;rw [Db];go_enter func129,ntmps129;go_wp2;go_loop [3,4] (fun n i=>∃ k p:Nat,k≤7 * s∧i=.int .i64 k∧n=.int .u64 p∧Hid (p=2 ^ k)) (fun _ i=>7 * s - (intOf i).toNat);case atStart=>exact ⟨0,1,Xl,rfl,rfl,rfl⟩
 case round=>
  obtain ⟨k,p,hk,rfl,rfl,hp⟩:=hrel;by_cases hlt:k<7 * s
  ·have hb:p≤72057594037927936:=by rw [hp.Ab];exact An1 Xl
   go_wp2;go_round;case rel=>exact ⟨k+1,p * 2,Xl,by go_num,by go_num,by show _=_;rw [hp.Ab,PT]⟩
   case measure=>simp [intOf];omega
  ·have:k=7 * s:=by omega
   have hq:Hid (p=2 ^ (7 * s)):=by rw [←this];exact hp
   clear hp this;go_wp2;go_ret;exact ⟨IJ (by simp [hq.Ab]),rfl⟩
theorem V5:∀ k:Nat,k<9→1≤k→lead k+128 / 2 ^ (k - 1)=lead (k+1)∧128 / 2 ^ (k - 1) / 2=128 / 2 ^ k∧lead k≤255∧128 / 2 ^ (k - 1)≤128:=by decide
theorem iA (x:Int) (w:World) (h0:1≤x) (h1:x≤9):
 Calls prog 87 #[.int .i64 x] w fun e w'=>e=.returned (.int .i64 (lead x.toNat:Nat))∧w=w':=by
 obtain ⟨s,rfl⟩:=Po (show 0≤x by omega);rw [Db];go_enter func87,ntmps87;go_wp2;go_loop [3,4,5] (fun n b i=>∃ k p q:Nat,1≤k∧k≤s∧i=.int .i64 k∧n=.int .i64 p∧b=.int .i64 q∧Hid (p=lead k∧q=128 / 2 ^ (k - 1))) (fun _ _ i=>s - (intOf i).toNat);case atStart=>exact ⟨1,0,128,Xl,Xl,rfl,rfl,rfl,rfl,rfl⟩
 case round=>
  obtain ⟨k,p,q,hk1,hk,rfl,rfl,rfl,hp⟩:=hrel;by_cases hlt:k<s
  ·obtain ⟨s1,s2,s3,s4⟩:=V5 k Xl hk1;have b1:p≤255:=by rw [hp.1];exact s3
   have b2:q≤128:=by rw [hp.2];exact s4
   have S:Hid (p+q=lead (k+1)∧q / 2=128 / 2 ^ k):=by rw [hp.1,hp.2];exact ⟨s1,s2⟩
   clear s1 s2 s3 s4;go_wp2;go_round;case rel=>exact ⟨k+1,p+q,q / 2,Xl,Xl,by go_num,by go_num,by go_num,S.1,S.2⟩
   case measure=>simp [intOf];omega
  ·have:k=s:=by omega
   have hq:Hid (p=lead s):=by rw [←this];exact hp.1
   clear hp this;go_wp2;go_ret;exact ⟨IJ (by simp [hq.Ab]),rfl⟩
theorem M6 (x:Int) (w:World) (h0:0≤x):
 Calls prog 86 #[.int .u64 x] w fun e w'=>e=.returned (.int .i64 (Bg x.toNat:Nat))∧w=w':=by
 obtain ⟨n,rfl⟩:=Po h0;rw [Db];clear h0;go_enter func86,ntmps86;go_wp2;go_loop [3] (fun i=>∃ k:Nat,1≤k∧k≤9∧i=.int .i64 k∧Hid (k=1∨2^(7*(k-1))≤n)) (fun i=>9 - (intOf i).toNat);case atStart=>exact ⟨1,Xl,Xl,rfl,Or.inl rfl⟩
 case round=>
  obtain ⟨k,hk1,hk2,rfl,hd⟩:=hrel;by_cases hlt:k<9
  ·obtain ⟨p,hp⟩:∃ p:Nat,Hid (2 ^ (7 * k)=p):=⟨_,rfl⟩;by_cases hc:p≤n
   ·go_wp2_with (go_at_call 129;refine (jN _ _ Xl Xl).mono ?_;rintro e w' ⟨rfl,rfl⟩;rw [Db,hp.Ab]);go_round;case rel=>exact ⟨k+1,Xl,Xl,by go_num,Or.inr (by rw [Zb,hp.Ab];exact hc)⟩
    case measure=>simp [intOf];omega
   ·have hN:Hid (Bg n=k):=qO hk1 Xl (by rw [hp.Ab];omega) hd.Ab;go_wp2_with (go_at_call 129;refine (jN _ _ Xl Xl).mono ?_;rintro e w' ⟨rfl,rfl⟩;rw [Db,hp.Ab]);go_ret;exact ⟨IJ (by have:=hN.Ab;omega),rfl⟩
  ·have hk:k=9:=by omega
   have hN:Hid (Bg n=9):=aP (by rcases hd.Ab with h|h;omega;subst hk;exact h);clear hd hk;go_wp2;go_ret;exact ⟨IJ (by have:=hN.Ab;omega),rfl⟩
theorem Ao7 (k n:Nat):be (k+1) n=UInt8.ofNat (n / 256 ^ k % 256)::be k n:=by
 apply YZ;intro j;by_cases hj:j<k+1
 ·rw [Sj _ _ _ hj];cases j with
  |zero=>simp
  |succ j=>rw [FR,Sj _ _ _ Xl];simp;congr 4;omega
 ·rw [Jj (by rw [JK];omega),Jj (by simp [JK];omega)]
theorem Ar3 (x:Int) (h0:0≤x) (h1:x<256) (W:World):
 (convert 163 9 (.slice (some ⟨W.heap.size,0,none⟩) 1 1)).run prog (W.alloc (.cells #[.int .u8 x] 5))=.ok (.string ⟨[UInt8.ofNat x.toNat].toArray⟩) (W.alloc (.cells #[.int .u8 x] 5)):=by
 exact Lib.run_convert_whole (P:=prog) _ 163 5 9 underlying163 underlying5 underlying9 W.heap.size 0 ⟨[UInt8.ofNat x.toNat].toArray⟩ (fun i hi=>by
  have hi':i=0:=by
   have:i<1:=hi;omega
  subst hi';have:(⟨[UInt8.ofNat x.toNat].toArray⟩:ByteArray)[0]=UInt8.ofNat x.toNat:=rfl;rw [this];have e:((UInt8.ofNat x.toNat).toNat:Int)=x:=by
   rw [UInt8.toNat_ofNat'];omega
  rw [e];simp) 1
theorem An4 (n s:Nat) (h:Bg n=s) (c:Nat) (hc:c=lead s+n / 256 ^ (s - 1)) (l:List UInt8) (hl:l=be (s - 1) n):UInt8.ofNat c::l=Cx n:=by
 subst h hc hl
 rfl
theorem Ae2 {n:Nat} (hn:n<18446744073709551616):n / 256 ^ (Bg n - 1)≤255∧lead (Bg n)+n / 256 ^ (Bg n - 1)<256:=by
 obtain ⟨_,_,e3,_,_⟩:=SB hn;omega
theorem Vv (x:Int) (w:World) (h0:0≤x) (hx:x<18446744073709551616):
 Calls prog 53 #[.int .u64 x] w fun e w'=>e=.returned (.string ⟨(Cx x.toNat).toArray⟩)∧Ai w w':=by
 obtain ⟨n,rfl⟩:=Po h0;rw [Db];have hn:n<18446744073709551616:=by omega
 clear h0 hx;have hs1:=Im n;have hs2:=IY n;have Hn:=Aa hn;clear hn;go_enter func53,ntmps53;go_wp2_with (go_at_call 86;refine (M6 _ _ Xl).mono ?_;rintro e w' ⟨rfl,rfl⟩);obtain ⟨s,Hs⟩:∃ s,Hid (Bg n=s):=⟨_,rfl⟩;rw [Hs.Ab] at hs1 hs2;rw [Hs.Ab];go_loopw [0,4,5] (fun m o i wr=>∃ (t p:Nat) (l:List UInt8),1≤t∧t≤s∧i=.int .i64 t∧m=.int .u64 p∧o=.string ⟨l.toArray⟩∧Ai w wr∧Hid (p=n / 256 ^ (t - 1)∧l=be (t - 1) n)) (fun _ _ i _=>s - (intOf i).toNat);case atStart=>exact ⟨1,n,[],Xl,Xl,rfl,rfl,rfl,Ai.refl _,uH,rfl⟩
 case round=>
  obtain ⟨t,p,l,ht1,ht,rfl,rfl,rfl,hB,hp⟩:=hrel;by_cases hlt:t<s
  ·have c1:=Ar3 ((p:Int) % 256) Xl Xl;have hl:l.length≤9:=by rw [hp.2,JK];omega
   have hpn:p≤18446744073709551615:=by
    have h1:=Hn.Ab;have h2:p≤n:=by rw [hp.1];exact Nat.div_le_self _ _
    omega
   go_wp2;go_roundw;case rel=>
    refine ⟨t+1,p / 256,UInt8.ofNat (p % 256)::l,Xl,Xl,by go_num,by go_num,?_,hB.alloc _,?_,?_⟩
    ·rw [nZ]
    ·rw [hp.1,Nat.div_div_eq_div_mul,←PT,show (t - 1).succ=t+1 - 1 by omega]
    ·rw [hp.1,hp.2,show t+1 - 1=t - 1+1 by omega,Ao7]
   case measure=>simp [intOf];omega
  ·have hts:t=s:=by omega
   have Hp:Hid (p=n / 256 ^ (s - 1)∧l=be (s - 1) n):=by rw [←hts];exact hp
   have htop:p≤255∧lead s+p<256:=by rw [Hp.1,←Hs.Ab];exact Ae2 Hn.Ab
   have hl:l.length≤9:=by rw [Hp.2,JK];omega
   clear hp hts;obtain ⟨b1,b2⟩:=htop;obtain ⟨q,Hq⟩:∃ q:Nat,Hid (lead s=q):=⟨_,rfl⟩;rw [Hq.Ab] at b2;have c1:=Ar3 ((q:Int)+p) Xl Xl;go_wp2_with (go_at_call 87;refine (iA _ _ Xl Xl).mono ?_;rintro e w' ⟨rfl,rfl⟩;rw [Db,Hq.Ab]);go_ret;have hfin:=An4 n s Hs (q+p) (by rw [Hq.Ab,←Hp.1]) l Hp.2;rw [←hfin];refine ⟨?_,hB.alloc _⟩;show Ending.returned (.string _)=_;rw [nZ,UInt8.ofNat_add]
attribute [local go_sem] WJ
theorem wK (x:Int) (w:World) (h1:1≤x) (h2:x≤9):
 Calls prog 87 #[.int .i64 x] w fun e w'=>e=.returned (.int .i64 (lead x.toNat:Nat))∧w'=w:=
 (iA x w h1 h2).mono fun _ _ h=>⟨h.1,h.2.symm⟩
theorem L9 (w:World):Calls prog 188 #[.string ⟨([]:List UInt8).toArray⟩] w fun e w'=>e=.returned (.tuple #[.int .u64 0,.int .i64 0,.bool false])∧Ai w w':=by
 go_enter func188,ntmps188;go_wp2;go_loopw [5] (fun i wr=>∃ k:Nat,1≤k∧k≤10∧i=.int .i64 k∧Ai w wr) (fun i _=>10 - (intOf i).toNat);case atStart=>exact ⟨1,Xl,Xl,rfl,Ai.refl _⟩
 case round=>
  obtain ⟨k,hk1,hk2,rfl,hB⟩:=hrel;by_cases hlt:k≤9
  ·have d1:0<k:=by omega
   go_wp2_with fail;go_quiet (fail);go_wp2;go_roundw;case rel=>exact ⟨k+1,Xl,Xl,by go_num,hB.drewN _⟩
   case measure=>simp [intOf];omega
  ·go_wp2;go_ret3;exact ⟨rfl,hB⟩
theorem LX (k:Nat) (w:World) (h1:1≤k) (h2:k≤9):
 Calls prog 87 #[.int .i64 k] w fun e w'=>e=.returned (.int .i64 (lead k:Nat))∧w'=w:=by
 have:=wK k w Xl Xl;rwa [Db] at this
theorem ZN (k:Nat) (w:World) (h2:k+1≤9):
 Calls prog 87 #[.int .i64 ((k:Int)+1)] w fun e w'=>e=.returned (.int .i64 (lead (k+1):Nat))∧w'=w:=by
 have:=LX (k+1) w Xl Xl;rwa [show ((k+1:Nat):Int)=(k:Int)+1 by omega] at this
theorem ext_toList (l:List UInt8) (k:Nat):(ByteArray.extract ⟨l.toArray⟩ 0 k).toList=l.take k:=by
 rw [Ms,ByteArray.toList_eq];simp
theorem vY (c k:Nat) (hc:c<256) (h1:1≤k) (h9:k≤9):(c<lead k∧BX c<k)∨(lead k≤c∧k<9∧lead (k+1)≤c∧k<BX c)∨(lead k≤c∧BX c=k∧(k<9→c<lead (k+1))):=by
 obtain ⟨l1,l2,l3,_⟩:=UN c hc;have p1:=NC c;have p2:=MJ c;rcases kC (BX c) k with h|h|h
 ·have:=iR h h9;left;refine ⟨?_,h⟩;have:=l2 Xl;omega
 ·subst h;exact .inr (.inr ⟨l1,rfl,l2⟩)
 ·have h2:=iR h p2;have h3:lead k≤lead (k+1):=by
   unfold lead;have:(2:Nat) ^ (9 - (k+1))≤2 ^ (9 - k):=Xu Xl Xl;omega
  exact .inr (.inl ⟨Xl,Xl,Xl,h⟩)
theorem Zh3 {p:Prop} (h:p:=by
 go_wp2;go_roundw;case rel=>exact ⟨k+1,Xl,Xl,by go_num,hB.drewN _,Hn⟩
 case measure=>simp [intOf];omega
):p:=h
theorem wG (c:UInt8) (r:List UInt8) (w:World) (hr:r.length≤140737488351231):
 Calls prog 188 #[.string ⟨(c::r).toArray⟩] w fun e w'=>e=.returned (.tuple #[.int .u64 ((Dh (c::r)).1:Nat),.int .i64 ((Dh (c::r)).2.1:Nat),.bool (Dh (c::r)).2.2])∧Ai w w':=by
 have hc':=c.toNat_lt;go_enter func188,ntmps188;go_wp2;go_loopw [5] (fun i wr=>∃ k:Nat,1≤k∧k≤10∧i=.int .i64 k∧Ai w wr∧Hid (BX c.toNat<k→Dh (c::r)=(0,0,false))) (fun i _=>10 - (intOf i).toNat);case atStart=>exact ⟨1,Xl,Xl,rfl,Ai.refl _,fun h=>by have:=NC c.toNat;omega⟩
 case round=>
  obtain ⟨k,hk1,hk2,rfl,hB,Hk⟩:=hrel;by_cases hlt:k≤9
  ·by_cases hA:r.length+1<k
   ·have Hn:Hid (BX c.toNat<k+1→Dh (c::r)=(0,0,false)):=by
     intro h;rcases MX (BX c.toNat) k with h'|h'
     ·exact Hk h'
     ·rw [Dh,Al Xl]
    have d1:decide ((r.length:Int)+1<(k:Int))=true:=by simp;omega
    clear Hk;go_wp2_with fail;go_quiet (fail);exact Zh3
   ·have d1:decide ((r.length:Int)+1<(k:Int))=false:=by simp;omega
    rcases vY c.toNat k hc' hk1 hlt with ⟨h1,h2⟩|⟨h1,h2,h3,h4⟩|⟨h1,h2,h3⟩
    ·have Hn:Hid (BX c.toNat<k+1→Dh (c::r)=(0,0,false)):=fun _=>Hk h2
     clear Hk;go_wp2_with fail;go_quiet ((go_at_call 87;exact Ty (LX _ _ Xl Xl)));exact Zh3
    ·have Hn:Hid (BX c.toNat<k+1→Dh (c::r)=(0,0,false)):=fun h=>by omega
     have d2:decide (c.toNat<lead k)=false:=by simp;omega
     have d3:decide (lead (k+1)≤c.toNat)=true:=by simp;omega
     have d4:decide ((k:Int)<9)=true:=by simp;omega
     have wr1:IntKind.i64.wrap ((k:Int)+1)=(k:Int)+1:=IB _ Xl;have wr0:IntKind.i64.wrap (c.toNat:Int)=(c.toNat:Int):=IB _ Xl;clear Hk;go_wp2_with fail;go_quiet (first|(go_at_call 87;exact Ty (LX _ _ Xl Xl))|(go_at_call 87;exact Ty (ZN _ _ Xl)));clear wr1 wr0;exact Zh3
    ·have H3:=Aa h3;have dk9:decide ((k:Int)≤9)=true:=by simp;omega
     have d2:decide (c.toNat<lead k)=false:=by simp;omega
     have wr0:IntKind.i64.wrap (c.toNat:Int)=(c.toNat:Int):=IB _ Xl;have h2':=Aa h2;clear Hk h3 h2;go_wp2_with fail;have hcl:(c.toNat:Int) - ((lead k:Nat):Int)=((c.toNat - lead k:Nat):Int):=by omega
     have wr2:IntKind.i64.wrap ((c.toNat:Int) - ((lead k:Nat):Int))=(c.toNat:Int) - ((lead k:Nat):Int):=IB _ Xl;have wr3:IntKind.u64.wrap ((c.toNat - lead k:Nat):Int)=((c.toNat - lead k:Nat):Int):=by rw [IntKind.wrap_u64];omega
     rcases MX k 9 with k9|k9;case' inl=>
      have h4:=H3 k9;have d3:decide (lead (k+1)≤c.toNat)=false:=by simp;omega
      have d4:decide ((k:Int)<9)=true:=by simp;omega
      have wr1:IntKind.i64.wrap ((k:Int)+1)=(k:Int)+1:=IB _ Xl;go_quiet (first|(go_at_call 87;exact Ty (LX _ _ Xl Xl))|(go_at_call 87;exact Ty (ZN _ _ Xl)));go_wp2_with fail;go_quiet (first|(go_at_call 87;exact ZU (LX _ _ Xl Xl)));clear wr0 wr1 wr2 wr3 hcl d3 d4 h4;go_wp2_with fail
     case' inr=>
      have d3:decide ((k:Int)<9)=false:=by simp;omega
      go_quiet (first|(go_at_call 87;exact Ty (LX _ _ Xl Xl)));go_wp2_with fail;go_quiet (first|(go_at_call 87;exact ZU (LX _ _ Xl Xl)));clear wr0 wr2 wr3 hcl d3;go_wp2_with fail
     all_goals
      obtain ⟨d,Hd⟩:∃ d:Nat,Hid (c.toNat - lead k=d):=⟨_,rfl⟩;rw [Hd.Ab,World.drewN_drewN];clear d2 H3;go_loop [6,7] (fun n i=>∃ j p:Nat,j+1≤k∧i=.int .i64 ((j:Int)+1)∧n=.int .u64 p∧Hid (p=ZV d r j)) (fun _ i=>k - (intOf i).toNat);case atStart=>exact ⟨0,d,Xl,uH,rfl,(WR d r).symm⟩
      case round=>
       obtain ⟨j,p,hj,rfl,rfl,hp⟩:=hrel;by_cases hjk:j+1<k
       ·have hkr:j<r.length:=by omega
        have b1:p<72057594037927936:=by
         have:=zU c.toNat hc' r j (by rw [h2'.Ab];omega) Xl;rw [h2'.Ab,Hd.Ab] at this;rw [hp.Ab];exact this
        have b2:=r[j].toNat_lt;have Hst:=Aa (iE d r j hkr);go_wp2;go_round;case rel=>exact ⟨j+1,p * 256+r[j].toNat,Xl,by go_num,by go_num,by rw [hp.Ab];exact Hst.symm⟩
        case measure=>simp [intOf];omega
       ·have hjk':j+1=k:=by omega
        have Hp:Hid (OY c.toNat r=p):=by
         show OY c.toNat r=p;unfold OY;rw [h2'.Ab,Hd.Ab,hp.Ab,←hjk']
         rfl
        have Hlt:Hid (p<18446744073709551616):=by rw [←Hp.Ab];exact kI c r (by rw [h2'.Ab];exact hA)
        clear hp hjk';have hA':¬ r.length+1<BX c.toNat:=by rw [h2'.Ab];exact hA
        have HF:=Aa (sH c r hA');have HN:Hid (Dh (c::r)=if Bg p=k then (p,k,true) else (0,0,false)):=by
         show _=_;rw [Dh,Ak hA',h2'.Ab,Hp.Ab]
        rw [h2'.Ab,Hp.Ab] at HF;clear hA';by_cases hz:Bg p=k
        ·have q7:(Cx p==(ByteArray.extract ⟨(c::r).toArray⟩ 0 k).toList)=true:=by
          rw [ext_toList,Ua];exact HF.2 hz
         have Hf:Hid (Dh (c::r)=(p,k,true)):=by show _=_;rw [HN.Ab,Al hz]
         clear hz HF HN;go_wp2_with fail;go_region_with (go_at_call 53;refine (Vv _ _ Xl (by have:=Hlt.Ab;omega)).mono ?_;rintro e w3 ⟨rfl,hb⟩;rw [Db]);all_goals
          go_wp2;go_ret3;rw [Hf.Ab];exact ⟨rfl,(hB.drewN _).trans hb⟩
        ·have q7:(Cx p==(ByteArray.extract ⟨(c::r).toArray⟩ 0 k).toList)=false:=by
          rw [ext_toList,Xt];exact fun h=>hz (HF.1 h)
         have Hn:Hid (BX c.toNat<k+1→Dh (c::r)=(0,0,false)):=fun _=>by rw [HN.Ab,Ak hz]
         clear hz HF HN;go_wp2_with fail;go_region_with (go_at_call 53;refine (Vv _ _ Xl (by have:=Hlt.Ab;omega)).mono ?_;rintro e w3 ⟨rfl,hb⟩;rw [Db]);all_goals
          go_wp2;go_roundw;case rel=>exact ⟨k+1,Xl,Xl,by go_num,(hB.drewN _).trans hb,Hn⟩
          case measure=>simp [intOf];omega
  ·have Hn:Hid (Dh (c::r)=(0,0,false)):=Hk (by have:=MJ c.toNat;omega);clear Hk;go_wp2;go_ret3;rw [Hn.Ab];exact ⟨rfl,hB⟩
theorem Zd1 {p:Prop} (h:p:=by simpa using hl):p:=h
theorem M3 (l:List UInt8) (w:World) (hl:l.length≤140737488351232):
 Calls prog 188 #[.string ⟨l.toArray⟩] w fun e w'=>e=.returned (.tuple #[.int .u64 ((Dh l).1:Nat),.int .i64 ((Dh l).2.1:Nat),.bool (Dh l).2.2])∧Ai w w':=by
 cases l with
 |nil=>exact L9 w
 |cons c r=>exact wG c r w Zd1
end Go.Proofs.YtijplolmkcdflaaGreat
namespace Go.Proofs.YtijplolmkcdflaaGreat
open Tryz
open Go.RowKit Go.ChangeShapes Go.WideShapes
structure E5 where
 A:Option Addr
 n:Nat
 c:Nat
 zs:List Int
def E5.v (x:E5):Value:=.slice x.A x.n x.c
structure E5.ok (k:IntKind) (w:World) (x:E5):Prop where
 rd:Rd w 1 x.A x.n (x.zs.map (Value.int k))
 wf:∀ z ∈ x.zs,(Lit.int k z).wf=true
 le:x.n≤x.c
 cap:x.c≤maxLen
section
variable {H : Type} {enc : TypeId × Value → H} {P : Program} {w : World} {base b0 : Nat} {spare : Nat → Bool} {held : Bool} {r : Reach}
end
end Go.Proofs.YtijplolmkcdflaaGreat
namespace Go.Proofs.YtijplolmkcdflaaGreat
open Tryz
open Go.RowKit Go.ChangeShapes Go.WideShapes Go.Deep
theorem zQ {w:World} {ad:Addr} {u:Value} (h:w.cell? (ad.add 0)=some u):ad=⟨ad.block,ad.off,none⟩:=by
 obtain ⟨b,o,sp⟩:=ad;have h1:=World.cell?_spot h;simp [Addr.add] at h1;subst h1
 rfl
def Wl {H:Type} (P:Program) (t:TypeId) (d:DataW H):Prop:=∀ n ∈ d.weights P t,n≤140737488351232
theorem gM {H:Type} {P:Program} {e:TypeId}:∀ {l:List (DataW H)} {d:DataW H},d ∈ l→∀ n ∈ d.weights P e,n ∈ DataW.weightsAll P e l
 |a::l,d,hd,n,hn=>by
  rw [DataW.weightsAll,Eb];rcases FJ.1 hd with rfl|h
  ·exact .inl hn
  ·exact .inr (gM h n hn)
theorem Wl.arg {H:Type} {P:Program} {ts:List TypeId} {ds:List (DataW H)} (h:(DataW.weightsEach P ts ds).all (·≤reachBytes)=true) {j:Nat} {t:TypeId} {d:DataW H} (ht:ts[j]?=some t) (hd:ds[j]?=some d):Wl P t d:=fun n hn=>by
 have:=Rl.1 h _ (DataW.weights_mem_each ht hd n hn);exact Ue this
def Tf (P:Program) (t:TypeId) {α:Type} (E:World→List Value→α→Prop):Prop:=
 ∀ {H:Type} {enc:TypeId × Value→H} {w:World} {base:Nat} {spare:Nat→Bool} {held:Bool} {fuel:Nat} {cs:List Value} {x:DataW H × List MemPlace},
  DataW.trod enc P w base spare held fuel t cs=some x→Wl P t x.1→∃ y:α,E w cs y
theorem sS {α:Type} {n:Nat} {p:Nat→α→Prop} (h:∀ i,i<n→∃ a,p i a):∃ l:List α,l.length=n∧∀ i a,l[i]?=some a→p i a:=by
 induction n with
 |zero=>exact ⟨[],rfl,uH⟩
 |succ n ih=>
  obtain ⟨l,hl,hp⟩:=ih fun i hi=>h i Xl
  obtain ⟨a,ha⟩:=h n Xl;refine ⟨l++[a],by simp [hl],fun i b hb=>?_⟩;rcases MX i l.length with h1|h1
  ·rw [QH h1] at hb;exact hp i b hb
  ·rw [Rf h1] at hb;have:i=n:=by
    have:i - l.length<[a].length:=by
     rcases MX (i - l.length) [a].length with h2|h2
     ·exact h2
     ·rw [Jj h2] at hb;cases hb
    simp at this;omega
   subst this;rw [hl] at hb;simp at hb;subst hb;exact ha
section
variable {P : Program}
theorem R5 {t:TypeId} {k:IntKind} (ht:P.underlying t=some (.int k)):Tf P t (fun _ cs (n:Int)=>cs=[.int k n]∧(Lit.int k n).wf=true):=by
 intro H enc w base spare held fuel cs x h hz;obtain ⟨n,hc,_,hw⟩:=DataW.trod_int ht h;exact ⟨n,hc,hw⟩
structure SlOf (w:World) (size bytes:Nat) {α:Type} (E:World→List Value→α→Prop) (A:Option Addr) (n c:Nat) (l:List α):Prop where
 len:l.length=n
 le:n≤c
 cap:c≤maxLen
 reach:n * bytes≤140737488351232
 at_:∀ i a,l[i]?=some a→∃ b o cs,A=some ⟨b,o,none⟩∧b<w.heap.size∧cs.length=size∧E w cs a∧∀ j u,cs[j]?=some u→w.cell? ⟨b,o+i * size+j,none⟩=some u
theorem qI {t e:TypeId} {size bytes:Nat} {α:Type} {E:World→List Value→α→Prop} (ht:P.underlying t=some (.slice e)) (hC:P.cellsOf e=size) (hby:P.bytesOf e=bytes) (hs:0<size) (he:Tf P e E):
 Tf P t (fun w cs (l:List α)=>∃ A n c,cs=[.slice A n c]∧SlOf w size bytes E A n c l):=by
 intro H enc w base spare held fuel cs x h hz;rcases open_slice ht h with ⟨hcs,_⟩|⟨a,len,cap,m,n,D,Pl,hcs,hb,hl,hm,hmm,hxe,hi⟩
 ·exact ⟨[],none,0,0,hcs,⟨rfl,Ci _,Bj _,uH,uH⟩⟩
 ·have hlm:len≤m:=by rw [hmm];split<;>omega
  have hz2:Wl P t (.slice ((List.range len).map D) ((List.range (m - len)).map fun j=>D (len+j))):=by rw [hxe] at hz;exact hz
  have hrb:len * bytes≤140737488351232:=by
   have h1:=hz2 ((((List.range len).map D).length+((List.range (m - len)).map fun j=>D (len+j)).length) * P.bytesOf e) (by simp only [DataW.weights,ht];exact Gg);simp only [CQ,List.length_range,hby] at h1;exact IA (QF _ Xl) h1
  have hze:∀ i,i<len→Wl P e (D i):=fun i hi n hn=>hz2 n (by
   simp only [DataW.weights,ht];exact Ii _ (List.mem_append_left _ (gM (Kc.2 ⟨i,PV.2 hi,rfl⟩) n hn)))
  have key:∀ i,i<len→∃ y:α,∃ cs',cs'.length=size∧E w cs' y∧∀ j u,cs'[j]?=some u→w.cell? ((a.add (i * size)).add j)=some u:=by
   intro i hil;obtain ⟨cs',hc,ht'⟩:=hi i Xl;rw [hC] at hc;obtain ⟨_,hcl,hat⟩:=World.cells?_some hc;obtain ⟨y,hy⟩:=he ht' (hze i hil);refine ⟨y,cs',hcl,hy,fun j u hu=>?_⟩;have hj:j<size:=by
    rcases MX j size with h'|h'
    ·exact h'
    ·rw [Jj Xl] at hu;cases hu
   rw [hat j hj];exact hu
  obtain ⟨l,hll,hlp⟩:=sS key;refine ⟨l,some a,len,cap,hcs,⟨hll,hl,hm,hrb,fun i y hy=>?_⟩⟩;have hil:i<len:=by
   rcases MX i len with h'|h'
   ·exact h'
   ·rw [Jj Xl] at hy;cases hy
  obtain ⟨cs',hcl,hE,hat⟩:=hlp i y hy;obtain ⟨_,cs0,hcl0,_,hat0⟩:=key 0 Xl;have h0:w.cell? (a.add 0)=some (cs0[0]'Xl):=by
   have:=hat0 0 _ (Fp Xl);rw [Ww,UU] at this;exact this
  have hs0:=zQ h0;have hblk:=JM _ _ h0;rw [IV] at hblk;refine ⟨a.block,a.off,cs',by rw [←hs0],hblk,hcl,hE,fun j u hu=>?_⟩;have:=hat j u hu;rw [UU,hs0,Ub] at this;rw [QZ];exact this
theorem sK {H:Type} {enc:TypeId × Value→H} {w:World} {base:Nat} {spare:Nat→Bool} {held:Bool} {fuel:Nat} {cs:List Value} {x:DataW H × List MemPlace} {t:TypeId} {fs:Array Field}
 (ht:P.underlying t=some (.struct fs)) (h:DataW.trod enc P w base spare held fuel t cs=some x) (hz:Wl P t x.1) {α:Type} {E:World→List Value→α→Prop} (i:Nat) (f:Field) (hf:fs[i]?=some f) (hE:Tf P f.type E) {size:Nat} (hC:P.cellsOf f.type=size):
 ∃ y:α,E w ((cs.drop f.offset).take size) y:=by
 obtain ⟨xs,n,_,hxe,_,hxl,hg⟩:=DataW.trod_struct ht h;have h1:=hg i f hf;have hi:i<fs.size:=(Zj.1 hf).1;rw [hC,Fp Xl] at h1;refine hE h1 fun m hm=>hz m ?_
 rw [hxe];simp only [DataW.weights,ht];exact DataW.weights_mem_each (j:=i) (by rw [Ed,Zg,hf];rfl) (by rw [Ed,Fp Xl];rfl) m hm
theorem vU {H:Type} {enc:TypeId × Value→H} {w:World} {base:Nat} {spare:Nat→Bool} {held:Bool} {fuel:Nat} {cs:List Value} {x:DataW H × List MemPlace} {t:TypeId} {fs:Array Field}
 (ht:P.underlying t=some (.struct fs)) (h:DataW.trod enc P w base spare held fuel t cs=some x) {size:Nat} (hC:P.cellsOf t=size):cs.length=size:=by
 obtain ⟨xs,n,_,_,hl,_,_⟩:=DataW.trod_struct ht h;omega
end
theorem lI {P:Program} {t:TypeId} (ht:P.underlying t=some .string):Tf P t (fun _ cs (l:List UInt8)=>cs=[.string ⟨l.toArray⟩]∧l.length≤140737488351232):=by
 intro H enc w base spare held fuel cs x h hz;obtain ⟨s,hc,hxe,hs⟩:=DataW.trod_string ht h;exact ⟨s.data.toList,by rw [hc],hz _ (by rw [hxe];simp [DataW.weights])⟩
theorem sJ {α:Type} (f:α→Value) (l:List α):(l.flatMap fun a=>[f a])=l.map f:=by
 induction l with
 |nil=>rfl
 |cons a l ih=>rw [Df,ih];rfl
end Go.Proofs.YtijplolmkcdflaaGreat
namespace Go.Proofs.YtijplolmkcdflaaGreat
open Tryz
open Go.RowKit
def AZ (x:Int):Prop:=-9223372036854775808≤x∧x≤9223372036854775807
instance (x:Int):Decidable (AZ x):=by unfold AZ;infer_instance
def Uf (x:Int):Int × Bool:=if AZ x then (x,true) else (0,false)
theorem Zl {x:Int} (h:AZ x):Uf x=(x,true):=by rw [Uf,Al h]
theorem Zm {x:Int} (h:¬ AZ x):Uf x=(0,false):=by rw [Uf,Ak h]
def Cu (a b:Int):Int × Bool:=Uf (a+b)
theorem Wi (a b:Int) (w:World) (ha:AZ a) (hb:AZ b):
 Calls prog 143 #[.int .i64 a,.int .i64 b] w fun e w'=>e=.returned (.tuple #[.int .i64 (Cu a b).1,.bool (Cu a b).2])∧w=w':=by
 unfold AZ at ha hb;obtain ⟨a0,a1⟩:=ha;obtain ⟨b0,b1⟩:=hb;by_cases h:AZ (a+b)
 ·have HX:Hid (Cu a b=(a+b,true)):=Zl h;unfold AZ at h;obtain ⟨h0,h1⟩:=h;rcases Int.lt_trichotomy b 0 with hs|hs|hs
  ·go_enter func143,ntmps143;go_wp2;go_ret2;rw [HX.Ab];exact ⟨rfl,rfl⟩
  ·subst hs;go_enter func143,ntmps143;go_wp2;go_ret2;rw [HX.Ab];exact ⟨uH,rfl⟩
  ·go_enter func143,ntmps143;go_wp2;go_ret2;rw [HX.Ab];exact ⟨rfl,rfl⟩
 ·have HX:Hid (Cu a b=(0,false)):=Zm h;unfold AZ at h;rcases Int.lt_trichotomy b 0 with hs|hs|hs
  ·have h':a+b < -9223372036854775808:=by omega
   clear h;go_enter func143,ntmps143;go_wp2;go_ret2;rw [HX.Ab];exact ⟨rfl,rfl⟩
  ·omega
  ·have h':9223372036854775807<a+b:=by omega
   clear h;go_enter func143,ntmps143;go_wp2;go_ret2;rw [HX.Ab];exact ⟨rfl,rfl⟩
theorem I8 {n:Int} (h:n.tmod 4294967296<0):n.tmod 4294967296=n % 4294967296 - 4294967296:=by
 have e:=Int.tmod_eq_emod (a:=n) (b:=4294967296);split at e
 ·omega
 ·simp at e;omega
theorem I7 {n:Int} (h:¬ n.tmod 4294967296<0):n.tmod 4294967296=n % 4294967296:=by
 have e:=Int.tmod_eq_emod (a:=n) (b:=4294967296);split at e
 ·omega
 ·simp at e;omega
theorem bigK {n:Int} (h0:-9223372036854775808≤n) (h1:n≤9223372036854775807):wrap64 ((wrap64 (n - n % 4294967296)).tdiv 4294967296)=n / 4294967296:=by
 rw [IntWalk.wrap64_in (n - n % 4294967296) ⟨Xl,Xl⟩,show n - n % 4294967296=4294967296 * (n / 4294967296) by omega,Int.mul_tdiv_cancel_left _ Xl,IntWalk.wrap64_in _ ⟨Xl,Xl⟩]
theorem u6 (n:Int) (w:World) (hn:AZ n):
 Calls prog 159 #[.int .i64 n] w fun e w'=>e=.returned (.tuple #[.int .i64 (n / 4294967296),.int .i64 (n % 4294967296)])∧w=w':=by
 unfold AZ at hn;obtain ⟨a0,a1⟩:=hn;by_cases h:n.tmod 4294967296<0
 ·go_enter func159,ntmps159;go_wp2;go_ret2;refine ⟨?_,rfl⟩;show Ending.returned (.tuple #[.int .i64 (wrap64 ((wrap64 (n - wrap64 (n.tmod 4294967296+4294967296))).tdiv 4294967296)),.int .i64 (wrap64 (n.tmod 4294967296+4294967296))])=_;rw [I8 h,Int.sub_add_cancel,IntWalk.wrap64_in (n % 4294967296) ⟨Xl,Xl⟩,bigK a0 a1]
 ·go_enter func159,ntmps159;go_wp2;go_ret2;refine ⟨?_,rfl⟩;show Ending.returned (.tuple #[.int .i64 (wrap64 ((wrap64 (n - n.tmod 4294967296)).tdiv 4294967296)),.int .i64 (n.tmod 4294967296)])=_;rw [I7 Xl,bigK a0 a1]
theorem Zt7 {p:Prop} (h:p:=by have HX:Hid (Uf (h * 4294967296+l)=(0,false)):=Zm (by unfold AZ;have:=hE.Ab;omega);clear hE;go_wp2;go_ret2;rw [HX.Ab];exact ⟨rfl,rfl⟩):p:=h
theorem Za5 {p:Prop} (h:p:=by unfold AZ;omega):p:=h
theorem J8 (h l:Int) (w:World) (h0:-4294967296≤h) (h1:h≤4294967294) (l0:0≤l) (l1:l≤8589934590):
 Calls prog 160 #[.int .i64 h,.int .i64 l] w fun e w'=>
  e=.returned (.tuple #[.int .i64 (Uf (h * 4294967296+l)).1,.bool (Uf (h * 4294967296+l)).2])∧w=w':=by
 go_enter func160,ntmps160;go_wp2;go_loopg [0,1] 1 (fun g x y wr=>∃ i j:Int,wr=w∧x=.int .i64 i∧y=.int .i64 j∧-4294967296≤i∧i≤4294967295 - (g:Int)∧0≤j∧j<4294967296+4294967296 * (g:Int)∧g≤1∧Hid (i * 4294967296+j=h * 4294967296+l));case atStart=>exact ⟨h,l,rfl,rfl,rfl,h0,Xl,l0,Xl,Xl,rfl⟩
 case round=>
  obtain ⟨i,j,rfl,rfl,rfl,i0,i1,j0,j1,hg,hE⟩:=hrel;by_cases hge:4294967296≤j
  ·have hg1:1≤gk:=by omega
   go_wp2;go_roundg 0;case rel=>exact ⟨i+1,j - 4294967296,rfl,rfl,rfl,Xl,Xl,Xl,Xl,Xl,by have:=hE.Ab;show _=_;omega⟩
   case measure=>omega
  ·have hj:j<4294967296:=by omega
   have hi:i≤4294967295:=by omega
   clear hge i1 j1;go_wp2;go_loopg [0,1] 0 (fun g x y wx=>wx=wr∧x=.int .i64 i∧y=.int .i64 j);case atStart=>exact ⟨rfl,rfl,rfl⟩
   case round=>
    obtain ⟨rfl,rfl,rfl⟩:=hrel;by_cases c1:i < -2147483648
    ·exact Zt7
    ·by_cases c2:2147483647<i
     ·exact Zt7
     ·have HX:Hid (Uf (h * 4294967296+l)=(i * 4294967296+j,true)):=by rw [←hE.Ab];exact Zl Za5
      go_wp2;go_ret2;rw [HX.Ab];exact ⟨rfl,rfl⟩
theorem Lf (a b:Int) (w:World) (ha:AZ a) (hb:AZ b):
 Calls prog 116 #[.int .i64 a,.int .i64 b] w fun e w'=>e=.returned (.tuple #[.int .i64 (Cu a b).1,.bool (Cu a b).2])∧w=w':=by
 have HA:=Aa ha;have HB:=Aa hb;unfold AZ at ha hb;have f1:-2147483648≤a / 4294967296∧a / 4294967296≤2147483647:=by omega
 have f2:-2147483648≤b / 4294967296∧b / 4294967296≤2147483647:=by omega
 have f3:0≤a % 4294967296∧a % 4294967296≤4294967295:=by omega
 have f4:0≤b % 4294967296∧b % 4294967296≤4294967295:=by omega
 have E:Hid ((a / 4294967296+b / 4294967296) * 4294967296+(a % 4294967296+b % 4294967296)=a+b):=by show _=_;omega
 clear ha hb;obtain ⟨p,hp⟩:∃ p,Hid (a / 4294967296=p):=⟨_,rfl⟩;obtain ⟨q,hq⟩:∃ q,Hid (b / 4294967296=q):=⟨_,rfl⟩;obtain ⟨r,hr⟩:∃ r,Hid (a % 4294967296=r):=⟨_,rfl⟩;obtain ⟨t,ht⟩:∃ t,Hid (b % 4294967296=t):=⟨_,rfl⟩;rw [hp.Ab] at f1 E;rw [hq.Ab] at f2 E;rw [hr.Ab] at f3 E;rw [ht.Ab] at f4 E;obtain ⟨f1,f1'⟩:=f1;obtain ⟨f2,f2'⟩:=f2;obtain ⟨f3,f3'⟩:=f3;obtain ⟨f4,f4'⟩:=f4;go_enter func116,ntmps116;go_wp2_with fail;refine (u6 _ _ HA.Ab).mono ?_;rintro e w1 ⟨rfl,rfl⟩;rw [hp.Ab,hr.Ab];go_wp2_with fail;refine (u6 _ _ HB.Ab).mono ?_;rintro e w1 ⟨rfl,rfl⟩;rw [hq.Ab,ht.Ab];go_wp2_with fail;refine (J8 _ _ _ Xl Xl Xl Xl).mono ?_;rintro e w1 ⟨rfl,rfl⟩;rw [E.Ab];obtain ⟨⟨z,ok⟩,Hz⟩:∃ z,Hid (Cu a b=z):=⟨_,rfl⟩;rw [show Uf (a+b)=(z,ok) from Hz.Ab];go_wp2;go_ret2;rw [Hz.Ab];exact ⟨rfl,rfl⟩
end Go.Proofs.YtijplolmkcdflaaGreat
namespace Go.Proofs.YtijplolmkcdflaaGreat
open Tryz
open Go.RowKit Go.ChangeShapes Go.WideShapes Go.Deep
class AY (α:Type) where
 size:Nat
 bytes:Nat
 cells:α→List Value
 ok:World→α→Prop
 len:∀ a,(cells a).length=size
 pos:0<size
 mono:∀ {w w':World} {a:α},Ai w w'→ok w a→ok w' a
structure Row (α:Type) where
 A:Option Addr
 n:Nat
 c:Nat
 l:List α
def Row.v {α:Type} (x:Row α):Value:=.slice x.A x.n x.c
structure Row.ok {α:Type} [AY α] (w:World) (x:Row α):Prop where
 rd:Rd w (AY.size α) x.A x.n (x.l.flatMap AY.cells)
 all:∀ a ∈ x.l,AY.ok w a
 le:x.n≤x.c
 cap:x.c≤maxLen
 reach:x.n * AY.bytes α≤140737488351232
section
variable {α : Type} [AY α] {w w' : World} {x : Row α}
theorem Row.ok.mono (h:x.ok w) (hb:Ai w w'):x.ok w':=⟨h.rd.Av hb,fun a ha=>AY.mono hb (h.all a ha),h.le,h.cap,h.reach⟩
theorem Fu (l:List α):(l.flatMap AY.cells).length=l.length * AY.size α:=by
 induction l with
 |nil=>simp
 |cons a m ih=>rw [Df,Cn,ih,AY.len,En,Ka];omega
theorem NG (l:List α) (k j:Nat) (a:α) (h:l[k]?=some a) (hj:j<AY.size α):(l.flatMap AY.cells)[k * AY.size α+j]?=(AY.cells a)[j]?:=by
 induction l generalizing k with
 |nil=>simp at h
 |cons b m ih=>
  rw [Df];cases k with
  |zero=>
   simp at h;subst h;rw [Ww,FI,QH (by rw [AY.len];exact hj)]
  |succ k=>
   simp at h;rw [Rf (by rw [AY.len,Ka];omega),AY.len,←ih k h]
   congr 1
   rw [Ka];omega
theorem Il {A:Option Addr} {n:Nat} {l:List α} (h:Rd w (AY.size α) A n (l.flatMap AY.cells)):l.length=n:=by
 have:=h.1;rw [Fu] at this;exact Nat.eq_of_mul_eq_mul_right AY.pos this
theorem Row.ok.len (h:x.ok w):x.l.length=x.n:=Il h.rd
theorem Row.ok.size (h:x.ok w):x.n≤9223372036854775807:=by have:=h.le;have:=h.cap;unfold maxLen at this;omega
theorem iB {A:Option Addr} {n k:Nat} {l:List α} (h:Rd w (AY.size α) A n (l.flatMap AY.cells)) (hk:k<n):
 ∃ b o a,A=some ⟨b,o,none⟩∧b<w.heap.size∧l[k]?=some a∧∀ j u,(AY.cells a)[j]?=some u→w.cell? ⟨b,o+k * AY.size α+j,none⟩=some u:=by
 have hl:=Il h;obtain ⟨ad,e,hb,hc⟩:=h.2 Xl;have hp:0<AY.size α:=AY.pos;have h0:w.cell? (ad.add 0)=some (((l.flatMap AY.cells))[0]'(by rw [Fu,hl];exact Nat.mul_pos Xl hp)):=hc 0 _ (Fp _);have hs:=zQ h0;refine ⟨ad.block,ad.off,l[k]'Xl,by rw [e,←hs],hb,Fp _,fun j u hu=>?_⟩;have hj:j<AY.size α:=by
  rcases MX j (AY.size α) with h'|h'
  ·exact h'
  ·rw [Jj (by rw [AY.len];exact h')] at hu;cases hu
 have:=hc (k * AY.size α+j) u (by rw [NG l k j _ (Fp Xl) hj];exact hu);rw [hs,Ub] at this;rw [QZ];exact this
theorem Row.ok.at_ (h:x.ok w) {k:Nat} (hk:k<x.n):
 ∃ b o a,x.A=some ⟨b,o,none⟩∧x.l[k]?=some a∧AY.ok w a∧∀ j u,(AY.cells a)[j]?=some u→w.cell? ⟨b,o+k * AY.size α+j,none⟩=some u:=by
 obtain ⟨b,o,a,e,_,ha,hc⟩:=iB h.rd hk;exact ⟨b,o,a,e,ha,h.all a (CU ha),hc⟩
def jR (P:Program) (t:TypeId) (α:Type) [AY α]:Prop:=Tf P t (fun w cs (a:α)=>cs=AY.cells a∧AY.ok w a)
instance At1:AY (Row α) where
 size:=1
 bytes:=24
 cells x:=[x.v]
 ok w x:=x.ok w
 len _:=rfl
 pos:=Nat.zero_lt_one
 mono hb h:=h.mono hb
theorem R3 {P:Program} {t e:TypeId} (ht:P.underlying t=some (.slice e)) (hC:P.cellsOf e=AY.size α) (hby:P.bytesOf e=AY.bytes α) (he:jR P e α):jR P t (Row α):=by
 intro H enc w base spare held fuel cs x h hz;obtain ⟨l,A,n,c,hcs,hS⟩:=qI ht hC hby AY.pos he h hz;refine ⟨⟨A,n,c,l⟩,hcs,⟨⟨by rw [Fu,hS.len],fun hn=>?_⟩,fun a ha=>?_,hS.le,hS.cap,hS.reach⟩⟩
 ·have hl:=hS.len;obtain ⟨b,o,cs0,e,hb,_,_,_⟩:=hS.at_ 0 (l[0]'(by simp only at hn;omega)) (Fp _);refine ⟨_,e,hb,fun j u hu=>?_⟩;have hj:j<n * AY.size α:=by
   rcases MX j (n * AY.size α) with h'|h'
   ·exact h'
   ·rw [Jj (by rw [Fu,hl];omega)] at hu;cases hu
  have hk:j / AY.size α<n:=Nat.div_lt_of_lt_mul (by rw [Rj];exact hj);have hjm:j / AY.size α * AY.size α+j % AY.size α=j:=by rw [Rj];exact Nat.div_add_mod j _
  have hla:l[j / AY.size α]?=some (l[j / AY.size α]'Xl):=Fp Xl;obtain ⟨b',o',cs',e',_,_,⟨hcs,_⟩,hat⟩:=hS.at_ (j / AY.size α) _ hla;rw [e] at e';injection e' with e';injection e' with e1 e2;subst e1 e2;rw [←hjm,NG l _ _ _ hla (Nat.mod_lt _ AY.pos),←hcs] at hu;have:=hat _ _ hu;rw [Ub];rw [QZ,hjm] at this;exact this
 ·obtain ⟨i,hi,rfl⟩:=List.getElem_of_mem ha;obtain ⟨_,_,_,_,_,_,⟨_,ho⟩,_⟩:=hS.at_ i _ (Fp hi);exact ho
theorem open_row {P:Program} {t e:TypeId} (ht:P.underlying t=some (.slice e)) (hC:P.cellsOf e=AY.size α) (hby:P.bytesOf e=AY.bytes α) (he:jR P e α)
 {H:Type} {enc:TypeId × Value→H} {w:World} {base b0:Nat} {spare:Nat→Bool} {held:Bool} {r:Reach} {v:Value} {d:DataW H} {p:List MemPlace}
 (hv:Value.okWide P w r b0 t v) (h:DataW.Trod enc P w base spare held t v d p) (hz:Wl P t d):∃ x:Row α,v=x.v∧x.ok w:=by
 obtain ⟨a0,len0,cap0,rfl⟩:=okWide_slice ht hv;obtain ⟨fuel,hf⟩:=h;obtain ⟨x,hx,ho⟩:=R3 ht hC hby he hf hz;refine ⟨x,?_,ho⟩;simpa [Value.cells,AY.cells] using hx
end
instance At2:AY Int where
 size:=1
 bytes:=8
 cells n:=[.int .i64 n]
 ok _ n:=AZ n
 len _:=rfl
 pos:=Nat.zero_lt_one
 mono _ h:=h
instance Aq6:AY (List UInt8) where
 size:=1
 bytes:=16
 cells l:=[.string ⟨l.toArray⟩]
 ok _ l:=l.length≤140737488351232
 len _:=rfl
 pos:=Nat.zero_lt_one
 mono _ h:=h
instance Aq7:AY Bool where
 size:=1
 bytes:=1
 cells b:=[.bool b]
 ok _ _:=True
 len _:=rfl
 pos:=Nat.zero_lt_one
 mono _ h:=h
theorem R6 {P:Program} {t:TypeId} (ht:P.underlying t=some (.int .i64)):jR P t Int:=by
 intro H enc w base spare held fuel cs x h hz;obtain ⟨n,hc,hw⟩:=R5 ht h hz;exact ⟨n,hc,bounds_i64 hw⟩
theorem xE {P:Program} {t:TypeId} (ht:P.underlying t=some .string):jR P t (List UInt8):=lI ht
theorem Gz (l:List Int):l.flatMap AY.cells=l.map (Value.int .i64):=sJ _ l
theorem IQ (l:List (List UInt8)):l.flatMap AY.cells=l.map (fun t=>Value.string ⟨t.toArray⟩):=sJ _ l
theorem Row.ok.ints {w:World} {x:Row Int} (h:x.ok w):Rd w 1 x.A x.n (x.l.map (Value.int .i64)):=by have:=h.rd;rwa [Gz] at this
theorem Row.ok.texts {w:World} {x:Row (List UInt8)} (h:x.ok w):Rd w 1 x.A x.n (x.l.map (fun t=>Value.string ⟨t.toArray⟩)):=by have:=h.rd;rwa [IQ] at this
end Go.Proofs.YtijplolmkcdflaaGreat
namespace Go.Proofs.YtijplolmkcdflaaGreat
open Tryz
open Go.RowKit
theorem Vr (w:World) (t:TypeId):∀ (vs:List Value) (o:Nat) (cs:Array Value),(w.alloc (.cells cs t)).setCells w.heap.size o vs=w.alloc (.cells (Ea cs o vs) t)
 |[],o,cs=>rfl
 |v::vs,o,cs=>by
  rw [World.setCells,World.setCell_alloc_at _ _ _ _ _ rfl,Vr w t vs (o+1),Ea]
section
variable {P : Program}
theorem WG {ops:Array Oper} {rest:List Oper} {op:Oper} {a:Act} {w:World} {Q:Exit→Act→World→Prop} (hgd:op.guard=none) {ty:TypeId} {n:Nat} (R:Ep P ty n) (x y:Operand) (ho:op.op=.store ty x y)
 {t:TypeId} {cs:Array Value} (hx:a.eval x=.pointer (some ⟨w.heap.size,0,none⟩)) (hn:cs.size=n) (cs':Array Value) (hn':cs'.size=n) (hy:a.eval y=.agg cs') (h1:cs'.all (·.oneCell')=true)
 (h:wpList P ops Q rest (a.put op.dst undef) (w.alloc (.cells cs' t))):wpList P ops Q (op::rest) a (w.alloc (.cells cs t)):=by
 have hb:Bh (w.alloc (.cells cs t)) w.heap.size t cs:=Bh.new w t cs;refine YY hgd ty x y ho w.heap.size 0 cs' hx hy (hb.there Xl) Ze2 h1 ?_;rw [Vr,Jq cs cs' Xl];exact h
end
section
variable {w : World} {size n : Nat} {A : Option Addr} {xs : List Value}
theorem Rd.take (h:Rd w size A n xs) {k:Nat} (hk:k≤n):Rd w size A k (xs.take (k * size)):=by
 refine ⟨by rw [FK,h.1];exact Vi (QF _ hk),fun h0=>?_⟩;obtain ⟨ad,e,hb,hc⟩:=h.2 Xl;refine ⟨ad,e,hb,fun j u hu=>?_⟩;rw [WE] at hu;split at hu
 ·exact hc j u hu
 ·cases hu
theorem Rd.drop (h:Rd w size A n xs) {k cap:Nat} (hk:k≤n) (hc:n≤cap):Rd w size (if cap=k then A else A.map (·.add (k * size))) (n - k) (xs.drop (k * size)):=Reads.cut h hk hc
end
section
variable {α : Type} [AY α]
theorem Xd (l:List α) (k:Nat):(l.flatMap AY.cells).take (k * AY.size α)=(l.take k).flatMap AY.cells:=by
 induction l generalizing k with
 |nil=>simp
 |cons a l ih=>
  cases k with
  |zero=>simp
  |succ k=>
   rw [Df,Pn,Df,Ka,MP,List.take_append,AY.len];rw [EU (by rw [AY.len];omega),Zb,ih]
theorem jH (l:List α) (k:Nat):(l.flatMap AY.cells).drop (k * AY.size α)=(l.drop k).flatMap AY.cells:=by
 induction l generalizing k with
 |nil=>simp
 |cons a l ih=>
  cases k with
  |zero=>simp
  |succ k=>
   rw [Df,Rc,Ka,MP,List.drop_append,AY.len];rw [EN (by rw [AY.len];omega),Zb,ih,FC]
theorem NP {w:World} {A:Option Addr} {n k:Nat} {l:List α} (h:Rd w (AY.size α) A n (l.flatMap AY.cells)) (hk:k<n):
 ∃ b o a,A=some ⟨b,o,none⟩∧b<w.heap.size∧l[k]?=some a∧w.rangeAt b (o+k * AY.size α) (AY.cells a):=by
 obtain ⟨b,o,a,e,hb,ha,hc⟩:=iB h hk;exact ⟨b,o,a,e,hb,ha,fun j v hv=>hc j v hv⟩
end
theorem Oz {α:Type} [AY α] {w:World} {A:Option Addr} {n k:Nat} {l:List α} (h1:AY.size α=1) (h:Rd w (AY.size α) A n (l.flatMap AY.cells)) (hk:k<n):
 ∃ b o a,A=some ⟨b,o,none⟩∧l[k]?=some a∧∀ u,AY.cells a=[u]→w.cell? ⟨b,o+k,none⟩=some u:=by
 obtain ⟨b,o,a,e,_,ha,hc⟩:=iB h hk;refine ⟨b,o,a,e,ha,fun u hu=>?_⟩;have:=hc 0 u (by rw [hu];rfl);rw [h1,Wu] at this;exact this
theorem Row.ok.int {w:World} {x:Row Int} (h:x.ok w) {k:Nat} (hk:k<x.n):∃ b o z,x.A=some ⟨b,o,none⟩∧x.l[k]?=some z∧AZ z∧w.cell? ⟨b,o+k,none⟩=some (.int .i64 z):=by
 obtain ⟨b,o,z,e,hz,hc⟩:=Oz rfl h.rd hk;exact ⟨b,o,z,e,hz,h.all z (CU hz),hc _ rfl⟩
def Apart (u v:Value):Prop:=∀ b,u.ownBlock=some b→v.ownBlock≠some b
theorem Apart.symm {u v:Value} (h:Apart u v):Apart v u:=fun b hv hu=>h b hu hv
section
variable {w w' : World} {base : Nat} {e e' : TypeId} {size n size' n' : Nat} {u v v' : Value} {xs ys : List Value}
theorem lG (h:w.ownsRow base e size v n xs) {b:Nat} (hb:v.ownBlock=some b):b<w.heap.size:=(h.lt b hb).2
theorem Jh (h:w.ownsRow base e size v n xs) {b:Nat} (hb:v.ownBlock=some b):base≤b:=(h.lt b hb).1
theorem YH (h:w.ownsRow base e size v n xs) {b:Nat} (hb:v.ownBlock=some b):∃ cs,Bh w b e cs:=by
 rcases h.2 with ⟨rfl,_⟩|⟨g,cap,cur,rfl,_,hh,_⟩
 ·simp [Value.ownBlock] at hb
 ·have:g=b:=by simpa [Value.ownBlock] using hb
  subst this;exact ⟨cur,hh⟩
theorem Ye (hu:w.ownsRow base e size u n xs) (hv:w.ownsRow base e' size' v n' ys) (hne:e≠e'):Apart u v:=fun b h1 h2=>by
 obtain ⟨cs,hc⟩:=YH hu h1;obtain ⟨ds,hd⟩:=YH hv h2;exact Bh.ne_ hc hd hne rfl
theorem iN (h:w.ownsRow base e size u n xs) (hg:w.grownBy w' v.ownBlock) (ha:Apart u v):w'.ownsRow base e size u n xs:=by
 refine h.kept hg ?_;cases hu:u.ownBlock with
 |none=>exact .inl rfl
 |some k=>exact .inr (fun e=>ha k hu e.symm)
end
theorem VR:∀ (vs:List Value) (k off:Nat) (cells:Array Value),(vs.zipIdx k).foldl (fun cs (x:Value × Nat)=>cs.setIfInBounds (off+x.2) x.1) cells=Ea cells (off+k) vs
 |[],k,off,cells=>rfl
 |v::vs,k,off,cells=>by
  rw [List.zipIdx_cons,Wz,VR vs (k+1) off,Ea,QZ]
theorem Z5 (place:Nat→Option (Nat × Nat)) (cells:Array Value) (i:Nat) (v:Value) (rest:List (Nat × Value)) (off size:Nat) (hp:place i=some (off,size)) (hs:v.cells.size=size) (hb:off+size≤cells.size):
 Instr.fill place cells ((i,v)::rest)=Instr.fill place (Ea cells off v.cells.toList) rest:=by
 have e:v.cells.zipIdx.foldl (fun cs (x:Value × Nat)=>cs.setIfInBounds (off+x.2) x.1) cells=Ea cells off v.cells.toList:=by
  have:=VR v.cells.toList 0 off cells;rw [Kb] at this;rw [←this,←Array.foldl_toList,Array.toList_zipIdx]
 rw [Instr.fill,hp];simp only;rw [Ak Za3];exact CW (fun c=>Instr.fill place c rest) e
section
variable {P : Program}
theorem MQ {t e:TypeId} {size bytes:Nat} (E:Cy P t e size bytes) (v:Value) (hv:v.cells.size=size) (hs:size≤1000) (w:World):
 (Instr.buildSlice t 1 #[(0,v)]).run P w=.ok (.slice (some ⟨w.heap.size,0,none⟩) 1 1) (w.alloc (.cells v.cells e)):=by
 obtain ⟨i,z,hi,hz,hsz,hby,hzs⟩:=E.hi;have hp:=E.pos;have hl:¬ 16777216<size:=by omega
 have hf:Instr.fill (fun i=>some (i * size,size)) ((Array.range size).map (z.cells[· % z.cells.size]!)) [(0,v)]=some v.cells:=by
  rw [Z5 _ _ _ _ _ 0 size uH hv uH];rw [Jq _ _ (by simp [hv])]
  rfl
 simp only [Instr.buildSlice,KH,run_underlying E.ht,LC,sizeOf,typeInfo,zeroValue];simp [hi,hz,hsz,hl,newRow];rw [Ak Xl];simp [hf]
theorem AP {ops:Array Oper} {rest:List Oper} {o:Oper} {a:Act} {w:World} {Q:Exit→Act→World→Prop} (hgd:o.guard=none) {t e:TypeId} {size bytes:Nat} (E:Cy P t e size bytes) (x:Operand) (ho:o.op=.buildSlice t 1 #[(0,x)])
 (cs:Array Value) (hx:a.eval x=.agg cs) (hv:cs.size=size) (hs:size≤1000)
 (h:wpList P ops Q rest (a.put o.dst (.slice (some ⟨w.heap.size,0,none⟩) 1 1)) (w.alloc (.cells cs e))):wpList P ops Q (o::rest) a w:=by
 refine Rk hgd fun K hK=>?_;unfold Oper.wp execOp;have hr:=MQ E (.agg cs) hv hs w;simp only [ho,QD,Em,EX,hx,KH,hr,LC,LB];exact hK _ _ h
end
section
variable {P : Program}
theorem QL {op:BinOp} {t:TypeId} {x y:Operand} {xs ys:Array Value} {w:World} (hg:P.eqGuardType P.depth t=false):(eqGuard op t x y (.agg xs) (.agg ys)).run P w=.ok () w:=by
 unfold eqGuard;cases op<;>simp [hg]
theorem Jo {ops:Array Oper} {rest:List Oper} {op:Oper} {a:Act} {w:World} {Q:Exit→Act→World→Prop} (hw:Region.wanted op (yielded ops a.tmps)=true) (bo:BinOp) (t t2:TypeId) (x y:Operand) (ho:op.op=.binOp bo t x y t2)
 {xs ys:Array Value} (hx:a.eval x=.agg xs) (hy:a.eval y=.agg ys) (hg:P.eqGuardType P.depth t=false) {b:Bool} (hrun:(binOp bo t (.agg xs) (.agg ys)).run P w=.ok (.bool b) w)
 (h:wpList P ops Q rest (a.put op.dst (.bool b)) w):wpList P ops Q (op::rest) a w:=by
 refine wpList_step fun K hK=>?_;rw [Al hw];unfold Oper.wp execOp;simp only [ho,hx,hy,KH,QL hg,LC,hrun,LB];exact hK _ _ h
end
section
variable {P : Program} {ops : Array Oper} {md : Region.Mode} {C : World → Prop}
def Zq (P:Program) (md:Region.Mode) (ops:Array Oper) (C:World→Prop) (n:Nat) (L:Array Bool→Act→Prop):Nat→Array Bool→Act→Prop
 |0,done,a=>L done a
 |f+1,done,a=>Region.ready md ops done≠[]∧∀ i ∈ Region.ready md ops done,i<n∧qOp P ops C i (Zq P md ops C n L f (done.setIfInBounds i true)) a
theorem QJ {n g:Nat} {L:Array Bool→Act→Prop} {Q:Exit→Act→World→Prop} (hL:∀ done a w,C w→L done a→wpAny P md ops Q g done a w):
 ∀ (f:Nat) (done:Array Bool) (a:Act) (w:World),C w→Zq P md ops C n L f done a→wpAny P md ops Q (f+g) done a w
 |0,_,_,_,hC,h=>by rw [FI];exact hL _ _ _ hC h
 |f+1,_,_,_,hC,h=>by
  rw [Nat.add_right_comm];exact ⟨fun h0=>absurd h0 h.1,fun i hi=>wpOp_of_qOp hC (fun a' w' hC' h'=>QJ hL f _ a' w' hC' h') (h.2 i hi).2⟩
theorem xR {n i:Nat} {oi:Oper} {v:Value} {L:Array Bool→Act→Prop} (hi:ops[i]?=some oi) (hsel:∀ (j:Nat) (o:Oper) cs b,ops[j]?=some o→o.op≠.select cs b)
 (wait:∀ done,HeadInv md ops n done→done.getD i true=false→∀ j ∈ Region.ready md ops done,j<n) (hdone:∀ done a,L done a→∀ j ∈ Region.ready md ops done,n≤j) (f:Nat):
 ∀ (done:Array Bool) (a:Act),HeadInv md ops n done→
  (∀ j oj,ops[j]?=some oj→j≠i→done.getD j true=false→(∀ e ∈ oj.after,Region.binds md e=true→e.on≠i)→oi.apart ops oj=true)→
  i ∈ Region.ready md ops done→YieldsIn P ops C oi v a→
  Zq P md ops C n L f (done.setIfInBounds i true) (a.put oi.dst v)→Zq P md ops C n L (f+1) done a:=by
 induction f with
 |zero=>
  intro done a inv _ hr hy H;refine ⟨List.ne_nil_of_mem hr,fun j hj=>?_⟩;have hjn:=wait done inv (mem_ready.1 hr).1 j hj;refine ⟨hjn,?_⟩;by_cases e:j=i
  ·subst e;exact hy.qOp hi H
  ·exact absurd (hdone _ _ H j (ready_mono hj e)) Xl
 |succ f ih=>
  intro done a inv hfree hr hy H;have hun:=(mem_ready.1 hr).1;refine ⟨List.ne_nil_of_mem hr,fun j hj=>?_⟩;have hjn:=wait done inv hun j hj;refine ⟨hjn,?_⟩;by_cases e:j=i
  ·subst e;exact hy.qOp hi H
  ·obtain ⟨hjun,oj,hoj,hall⟩:=mem_ready.1 hj;have key:=qOp_put hoj (hfree j oj hoj e hjun fun x hx hb hon=>by
    have:=hall x hx hb;rw [hon,getD_both hun] at this;cases this) (fun cs b=>hsel i oi cs b hi) (fun cs b=>hsel j oj cs b hoj) hy (H.2 j (ready_mono hj e)).2
   refine qOp_mono (fun a' h3=>ih (done.setIfInBounds j true) a' (inv.set hj hjn) (fun k ok hk hki hu hno=>?_) (ready_mono hr (Ne.symm e)) h3.1 ?_) key
   ·by_cases hjk:j=k
    ·subst hjk;exact hfree j ok hk hki hjun hno
    ·rw [getD_set_ne true hjk] at hu;exact hfree k ok hk hki hu hno
   ·rw [Array.setIfInBounds_comm _ _ e];exact h3.2
theorem rM {n g:Nat} {Lq:Act→Prop} (hsel:Region.noSelect ops=true) (hs:Region.sinkB md ops n=true) (hc:Region.chainB md ops n=true) (hn:n<ops.size):
 ∀ (l:List Oper) (k:Nat) (done:Array Bool) (a:Act),(∀ j,j<l.length→l[j]?=ops[k+j]?)→k+l.length=n→HeadInv md ops n done→
 Region.lexHead md ops g l.length k done=true→wpQuiet P ops C Lq l a→Zq P md ops C n (fun done' a'=>Region.seqB md ops g n done'=true∧Lq a') l.length done a
 |[],k,done,a,_,hk,_,hB,h=>by
  obtain rfl:k=n:=hk;exact ⟨hB,h⟩
 |o::l,k,done,a,hl,hk,inv,hB,h=>by
  have h0:ops[k]?=some o:=(hl 0 (Nat.zero_lt_succ _)).symm;simp only [En,Region.lexHead,Vj] at hB hk;obtain ⟨⟨hr,hf⟩,hB'⟩:=hB;have hr':k ∈ Region.ready md ops done:=List.contains_iff_mem.1 hr;obtain ⟨v,hy,hK⟩:=yieldsIn_of_qOp h0 (K:=wpQuiet P ops C Lq l) (by unfold qOp;simp only [h0];exact h);refine xR h0 (Region.noSelect_spec hsel) (fun done' inv' hu j hj=>?_) (fun _ _ hL=>seqB_ready hL.1) l.length done a inv (Region.free_spec h0 hf) hr' hy
   (rM hsel hs hc hn l (k+1) _ _ (fun j hj=>?_) Xl (inv.set hr' Xl) hB' hK)
  ·rcases MX j n with h'|h'
   ·exact h'
   ·exact absurd hj (tail_waits hs hc hn inv' _ k rfl Xl hu j h')
  ·have:=hl (j+1) (Nat.succ_lt_succ hj);rw [FR] at this;rw [this]
   congr 1
   omega
theorem Ie {w:World} {id:Nat} {Q:Exit→Act→World→Prop} {a:Act} {l:List Oper} (n:Nat) (hm:P.follows .mixedOrders=true) (hB:Region.lexTailB .any l.toArray n=true)
 (h:wpQuiet P l.toArray (fun w'=>∃ u:Over w,w'=u.wd) (fun a'=>∀ u:Over w,wpList P l.toArray Q (l.drop n) a' u.wd) (l.take n) a):(Code.region id l.toArray true).wp P Q a w:=by
 simp only [Region.lexTailB,Vj,Rb] at hB;obtain ⟨⟨⟨⟨hsel,hn⟩,hs⟩,hc⟩,hlex⟩:=hB;have hn':n<l.length:=hn;have htl:(l.take n).length=n:=by rw [FK];omega
 have inv0:HeadInv .any l.toArray n (Array.replicate l.toArray.size false):=
  ⟨Array.size_replicate,fun j oj _ hl=>(by rw [getD_replicate_false] at hl;cases hl),fun t _ ht=>getD_in (by rw [Array.size_replicate];exact ht) (getD_replicate_false _ _)⟩
 have H:=rM (md:=.any) (g:=l.toArray.size - n) hsel hs hc hn (l.take n) 0 _ a (fun j hj=>by rw [htl] at hj;rw [Jk hj,FI,Re]) (by rw [htl,FI]) inv0 (by rw [htl];exact hlex) h;have hdl:(l.drop n).length=l.toArray.size - n:=Ih;have W:=QJ (Q:=Q) (g:=l.toArray.size - n) (fun done a' w' hC' hL=>by
  obtain ⟨u,rfl⟩:=hC';have:=wpAny_of_seq (md:=.any) (Q':=Q) (l.drop n) n done a' u.wd (fun j=>by rw [NJ,Re]) (by rw [hdl];exact hL.1) (hL.2 u);rwa [hdl] at this) _ _ _ { w with drawn:=w.drawn+1 } ⟨⟨_,(Ai.refl w).drew⟩,rfl⟩ H
 rw [htl,Nat.add_sub_cancel' (Nat.le_of_lt hn)] at W;exact wp_region_any hm W
theorem Xy {w:World} {Q:Act→Prop} {a:Act} {o:Oper} {rest:List Oper} (hw:Region.wanted o (yielded ops a.tmps)=true) (v:Value) (hr:∀ u:Over w,(execOp a.eval o).run P u.wd=.ok (.value v) u.wd)
 (h:wpQuiet P ops (fun w'=>∃ u:Over w,w'=u.wd) Q rest (a.put o.dst v)):wpQuiet P ops (fun w'=>∃ u:Over w,w'=u.wd) Q (o::rest) a:=by
 refine wpQuiet_step fun K hK=>?_;rw [Al hw];refine ⟨v,fun w' hw'=>?_,hK _ h⟩;obtain ⟨u,rfl⟩:=hw';unfold Oper.quietAt;rw [hr u];exact ⟨rfl,rfl⟩
theorem Vz {w:World} {b o:Nat} {cs:List Value} (hb:b<w.heap.size) (h:w.rangeAt b o cs) (u:Over w):u.wd.rangeAt b o cs:=fun j v hv=>(u.Av.cell (p:=⟨b,o+j,none⟩) hb).trans (h j v hv)
theorem CP {w w':World} {b o:Nat} {cs:List Value} (hb:b<w.heap.size) (h:w.rangeAt b o cs) (hB:Ai w w'):w'.rangeAt b o cs:=Vz hb h ⟨w',hB⟩
theorem Ah {w:World} {Q:Act→Prop} {a:Act} {op:Oper} {rest:List Oper} (hw:Region.wanted op (yielded ops a.tmps)=true) {ty:TypeId} {n:Nat} (R:Ep P ty n) (x:Operand) (ho:op.op=.load ty x)
 (b o:Nat) (hx:a.eval x=.pointer (some ⟨b,o,none⟩)) (cs:Array Value) (hn:cs.size=n) (hb:b<w.heap.size) (hc:w.rangeAt b o cs.toList)
 (h:wpQuiet P ops (fun w'=>∃ u:Over w,w'=u.wd) Q rest (a.put op.dst (.agg cs))):wpQuiet P ops (fun w'=>∃ u:Over w,w'=u.wd) Q (op::rest) a:=by
 refine Xy hw (.agg cs) (fun u=>?_) h;obtain ⟨d,hu,hd⟩:=R.hu;have hl:=YW (P:=P) u.wd b o ty cs.toList d (Vz hb hc u) hu hd Zb6;unfold execOp;simp only [ho,hx,Instr.loadAt,Instr.sureAddr,KH,LB,LC,hl]
theorem IX {w:World} {Q:Act→Prop} {a:Act} {op:Oper} {rest:List Oper} (hw:Region.wanted op (yielded ops a.tmps)=true) (bo:BinOp) (t t2:TypeId) (x y:Operand) (ho:op.op=.binOp bo t x y t2)
 {xs ys:Array Value} (hx:a.eval x=.agg xs) (hy:a.eval y=.agg ys) (hg:P.eqGuardType P.depth t=false) {b:Bool} (hrun:∀ w,(binOp bo t (.agg xs) (.agg ys)).run P w=.ok (.bool b) w)
 (h:wpQuiet P ops (fun w'=>∃ u:Over w,w'=u.wd) Q rest (a.put op.dst (.bool b))):wpQuiet P ops (fun w'=>∃ u:Over w,w'=u.wd) Q (op::rest) a:=by
 refine Xy hw (.bool b) (fun u=>?_) h;unfold execOp;simp only [ho,hx,hy,KH,QL hg,LC,hrun,LB]
end
end Go.Proofs.YtijplolmkcdflaaGreat
namespace Go.Proofs.YtijplolmkcdflaaGreat
open Tryz
theorem BZ {P:Program} {ops:Array Oper} {Q:Exit→Act→World→Prop} {md:Region.Mode} {S:World→Prop} {l:Array Bool} {a:Act} {w:World} {f:Nat} (h:Q .normal a w) (h1:Region.ready md ops l=[]:=by kernel_rfl):wpAnyH P md ops Q S f l a w:=wpAnyH_done h1 h f
theorem Bf {P:Program} {ops:Array Oper} {l:List Oper} {o:Oper} {a:Act} {w:World} {Q:Exit→Act→World→Prop} {ty:TypeId} {n:Nat} (R:Ep P ty n) {g:Nat} {t:TypeId} {cs:Array Value} (hb:Bh w g t cs) (h:wpList P ops Q l (a.put o.dst (.agg cs)) w) {x:Operand} (h1:o.guard=none:=by rfl) (h2:o.op=.load ty x:=by rfl) (h3:a.eval x=.pointer (some ⟨g,0,none⟩):=by rfl) (h4:cs.size=n:=by rfl):wpList P ops Q (o::l) a w:=CY h1 R x h2 g h3 hb h4 h
theorem DX {P:Program} {ops:Array Oper} {l:List Oper} {o:Oper} {a:Act} {w:World} {Q:Exit→Act→World→Prop} {ty:TypeId} {n:Nat} (R:Ep P ty n) {t:TypeId} {cs:Array Value} (cs':Array Value) (k:cs'.all (·.oneCell')=true) (h:wpList P ops Q l (a.put o.dst undef) (w.alloc (.cells cs' t))) {x y:Operand} (h1:o.guard=none:=by rfl) (h2:o.op=.store ty x y:=by rfl) (h3:a.eval x=.pointer (some ⟨w.heap.size,0,none⟩):=by rfl) (h4:cs.size=n:=by rfl) (h5:cs'.size=n:=by rfl) (h6:a.eval y=.agg cs':=by rfl):wpList P ops Q (o::l) a (w.alloc (.cells cs t)):=WG h1 R x y h2 h3 h4 cs' h5 h6 k h
theorem Ml {α:Type} {x0:α} {l:List α}:(List.toArray (x0::l))[0]?=some x0:=rfl
theorem KF {α:Type} {x0 x1:α} {l:List α}:(List.toArray (x0::x1::l))[1]?=some x1:=rfl
theorem MN {α:Type} {x0 x1 x2:α} {l:List α}:(List.toArray (x0::x1::x2::l))[2]?=some x2:=rfl
theorem Ky {α:Type} {x0 x1 x2 x3:α} {l:List α}:(List.toArray (x0::x1::x2::x3::l))[3]?=some x3:=rfl
theorem LJ {α:Type} {x0 x1 x2 x3 x4:α} {l:List α}:(List.toArray (x0::x1::x2::x3::x4::l))[4]?=some x4:=rfl
theorem KW {α:Type} {x0 x1 x2 x3 x4 x5:α} {l:List α}:(List.toArray (x0::x1::x2::x3::x4::x5::l))[5]?=some x5:=rfl
theorem MI {α:Type} {x0 x1 x2 x3 x4 x5 x6:α} {l:List α}:(List.toArray (x0::x1::x2::x3::x4::x5::x6::l))[6]?=some x6:=rfl
theorem Lj {α:Type} {x0 x1 x2 x3 x4 x5 x6 x7:α} {l:List α}:(List.toArray (x0::x1::x2::x3::x4::x5::x6::x7::l))[7]?=some x7:=rfl
theorem Mk {α:Type} {x0 x1 x2 x3 x4 x5 x6 x7 x8:α} {l:List α}:(List.toArray (x0::x1::x2::x3::x4::x5::x6::x7::x8::l))[8]?=some x8:=rfl
theorem MH {α:Type} {x0 x1 x2 x3 x4 x5 x6 x7 x8 x9:α} {l:List α}:(List.toArray (x0::x1::x2::x3::x4::x5::x6::x7::x8::x9::l))[9]?=some x9:=rfl
theorem FO {α:Type} {x0 x1 x2 x3 x4 x5 x6 x7 x8 x9 Ph:α} {l:List α}:(List.toArray (x0::x1::x2::x3::x4::x5::x6::x7::x8::x9::Ph::l))[10]?=some Ph:=rfl
theorem Ga {α:Type} {x0 x1 x2 x3 x4 x5 x6 x7 x8 x9 Ph PO:α} {l:List α}:(List.toArray (x0::x1::x2::x3::x4::x5::x6::x7::x8::x9::Ph::PO::l))[11]?=some PO:=rfl
theorem Hw {α:Type} {x0 x1 x2 x3 x4 x5 x6 x7 x8 x9 Ph PO QI:α} {l:List α}:(List.toArray (x0::x1::x2::x3::x4::x5::x6::x7::x8::x9::Ph::PO::QI::l))[12]?=some QI:=rfl
theorem Jc {α:Type} {x0 x1 x2 x3 x4 x5 x6 x7 x8 x9 Ph PO QI QY:α} {l:List α}:(List.toArray (x0::x1::x2::x3::x4::x5::x6::x7::x8::x9::Ph::PO::QI::QY::l))[13]?=some QY:=rfl
theorem Jw {α:Type} {x0 x1 x2 x3 x4 x5 x6 x7 x8 x9 Ph PO QI QY Sq:α} {l:List α}:(List.toArray (x0::x1::x2::x3::x4::x5::x6::x7::x8::x9::Ph::PO::QI::QY::Sq::l))[14]?=some Sq:=rfl
theorem bV {α:Type} {x0 x1 x2 x3 x4 x5 x6 x7 x8 x9 Ph PO QI QY Sq TF:α} {l:List α}:(List.toArray (x0::x1::x2::x3::x4::x5::x6::x7::x8::x9::Ph::PO::QI::QY::Sq::TF::l))[15]?=some TF:=rfl
theorem sD {α:Type} {x0 x1 x2 x3 x4 x5 x6 x7 x8 x9 Ph PO QI QY Sq TF Va:α} {l:List α}:(List.toArray (x0::x1::x2::x3::x4::x5::x6::x7::x8::x9::Ph::PO::QI::QY::Sq::TF::Va::l))[16]?=some Va:=rfl
theorem yC {α:Type} {x0 x1 x2 x3 x4 x5 x6 x7 x8 x9 Ph PO QI QY Sq TF Va Wp:α} {l:List α}:(List.toArray (x0::x1::x2::x3::x4::x5::x6::x7::x8::x9::Ph::PO::QI::QY::Sq::TF::Va::Wp::l))[17]?=some Wp:=rfl
theorem yB {α:Type} {x0 x1 x2 x3 x4 x5 x6 x7 x8 x9 Ph PO QI QY Sq TF Va Wp Xx:α} {l:List α}:(List.toArray (x0::x1::x2::x3::x4::x5::x6::x7::x8::x9::Ph::PO::QI::QY::Sq::TF::Va::Wp::Xx::l))[18]?=some Xx:=rfl
theorem gq19 {α:Type} {x0 x1 x2 x3 x4 x5 x6 x7 x8 x9 Ph PO QI QY Sq TF Va Wp Xx YC:α} {l:List α}:(List.toArray (x0::x1::x2::x3::x4::x5::x6::x7::x8::x9::Ph::PO::QI::QY::Sq::TF::Va::Wp::Xx::YC::l))[19]?=some YC:=rfl
theorem gq20 {α:Type} {x0 x1 x2 x3 x4 x5 x6 x7 x8 x9 Ph PO QI QY Sq TF Va Wp Xx YC x20:α} {l:List α}:(List.toArray (x0::x1::x2::x3::x4::x5::x6::x7::x8::x9::Ph::PO::QI::QY::Sq::TF::Va::Wp::Xx::YC::x20::l))[20]?=some x20:=rfl
theorem gq21 {α:Type} {x0 x1 x2 x3 x4 x5 x6 x7 x8 x9 Ph PO QI QY Sq TF Va Wp Xx YC x20 fZ:α} {l:List α}:(List.toArray (x0::x1::x2::x3::x4::x5::x6::x7::x8::x9::Ph::PO::QI::QY::Sq::TF::Va::Wp::Xx::YC::x20::fZ::l))[21]?=some fZ:=rfl
theorem gq22 {α:Type} {x0 x1 x2 x3 x4 x5 x6 x7 x8 x9 Ph PO QI QY Sq TF Va Wp Xx YC x20 fZ nK:α} {l:List α}:(List.toArray (x0::x1::x2::x3::x4::x5::x6::x7::x8::x9::Ph::PO::QI::QY::Sq::TF::Va::Wp::Xx::YC::x20::fZ::nK::l))[22]?=some nK:=rfl
theorem gq23 {α:Type} {x0 x1 x2 x3 x4 x5 x6 x7 x8 x9 Ph PO QI QY Sq TF Va Wp Xx YC x20 fZ nK uW:α} {l:List α}:(List.toArray (x0::x1::x2::x3::x4::x5::x6::x7::x8::x9::Ph::PO::QI::QY::Sq::TF::Va::Wp::Xx::YC::x20::fZ::nK::uW::l))[23]?=some uW:=rfl
theorem gq24 {α:Type} {x0 x1 x2 x3 x4 x5 x6 x7 x8 x9 Ph PO QI QY Sq TF Va Wp Xx YC x20 fZ nK uW x24:α} {l:List α}:(List.toArray (x0::x1::x2::x3::x4::x5::x6::x7::x8::x9::Ph::PO::QI::QY::Sq::TF::Va::Wp::Xx::YC::x20::fZ::nK::uW::x24::l))[24]?=some x24:=rfl
theorem gq25 {α:Type} {x0 x1 x2 x3 x4 x5 x6 x7 x8 x9 Ph PO QI QY Sq TF Va Wp Xx YC x20 fZ nK uW x24 x25:α} {l:List α}:(List.toArray (x0::x1::x2::x3::x4::x5::x6::x7::x8::x9::Ph::PO::QI::QY::Sq::TF::Va::Wp::Xx::YC::x20::fZ::nK::uW::x24::x25::l))[25]?=some x25:=rfl
theorem gq26 {α:Type} {x0 x1 x2 x3 x4 x5 x6 x7 x8 x9 Ph PO QI QY Sq TF Va Wp Xx YC x20 fZ nK uW x24 x25 x26:α} {l:List α}:(List.toArray (x0::x1::x2::x3::x4::x5::x6::x7::x8::x9::Ph::PO::QI::QY::Sq::TF::Va::Wp::Xx::YC::x20::fZ::nK::uW::x24::x25::x26::l))[26]?=some x26:=rfl
theorem gq27 {α:Type} {x0 x1 x2 x3 x4 x5 x6 x7 x8 x9 Ph PO QI QY Sq TF Va Wp Xx YC x20 fZ nK uW x24 x25 x26 x27:α} {l:List α}:(List.toArray (x0::x1::x2::x3::x4::x5::x6::x7::x8::x9::Ph::PO::QI::QY::Sq::TF::Va::Wp::Xx::YC::x20::fZ::nK::uW::x24::x25::x26::x27::l))[27]?=some x27:=rfl
theorem gq28 {α:Type} {x0 x1 x2 x3 x4 x5 x6 x7 x8 x9 Ph PO QI QY Sq TF Va Wp Xx YC x20 fZ nK uW x24 x25 x26 x27 x28:α} {l:List α}:(List.toArray (x0::x1::x2::x3::x4::x5::x6::x7::x8::x9::Ph::PO::QI::QY::Sq::TF::Va::Wp::Xx::YC::x20::fZ::nK::uW::x24::x25::x26::x27::x28::l))[28]?=some x28:=rfl
theorem gq29 {α:Type} {x0 x1 x2 x3 x4 x5 x6 x7 x8 x9 Ph PO QI QY Sq TF Va Wp Xx YC x20 fZ nK uW x24 x25 x26 x27 x28 x29:α} {l:List α}:(List.toArray (x0::x1::x2::x3::x4::x5::x6::x7::x8::x9::Ph::PO::QI::QY::Sq::TF::Va::Wp::Xx::YC::x20::fZ::nK::uW::x24::x25::x26::x27::x28::x29::l))[29]?=some x29:=rfl
theorem gq30 {α:Type} {x0 x1 x2 x3 x4 x5 x6 x7 x8 x9 Ph PO QI QY Sq TF Va Wp Xx YC x20 fZ nK uW x24 x25 x26 x27 x28 x29 x30:α} {l:List α}:(List.toArray (x0::x1::x2::x3::x4::x5::x6::x7::x8::x9::Ph::PO::QI::QY::Sq::TF::Va::Wp::Xx::YC::x20::fZ::nK::uW::x24::x25::x26::x27::x28::x29::x30::l))[30]?=some x30:=rfl
theorem tkk {P:Program} {ops:Array Oper} {Q:Exit→Act→World→Prop} {md:Region.Mode} {S:World→Prop} {i:Nat} {o:Oper} {v:Value} {f:Nat} {l:Array Bool} {a:Act} {w:World} (hi:ops[i]?=some o) (h:wpAnyH P md ops Q S f (l.setIfInBounds i true) (a.put o.dst v) w) (h1:Region.noSelect ops=true:=by kernel_rfl) (h2:Region.free md ops l i=true:=by kernel_rfl) (h3:(Region.ready md ops l).contains i=true:=by kernel_rfl) (h4:∀ (c:List PanicEntry) (a:Act) (w:World),Q (.panic c) (a.put o.dst v) w→Q (.panic c) a w:=by exact fun _ _ _ h=>h) (h5:YieldsIf P ops S o v a:=by
 refine .inl ⟨by rfl,?_⟩
 (intro w hSw;(try dsimp only at hSw);go_simp)<;>with_reducible rfl) (h6:S w:=by assumption):wpAnyH P md ops Q S (f+1) l a w:=wpAnyH_take hi h1 h2 h3 h4 h5 h6 h
theorem Bd {P:Program} {ops:Array Oper} {Q:Exit→Act→World→Prop} {md:Region.Mode} {S:World→Prop} {i:Nat} {o:Oper} {v:Value} {f:Nat} {l l':Array Bool} {a a':Act} {w:World} (hi:ops[i]?=some o) (h:wpAnyH P md ops Q S f l' a' w) (h1:Region.noSelect ops=true:=by kernel_rfl) (h2:Region.free md ops l i=true:=by kernel_rfl) (h3:(Region.ready md ops l).contains i=true:=by kernel_rfl) (h4:∀ (c:List PanicEntry) (a:Act) (w:World),Q (.panic c) (a.put o.dst v) w→Q (.panic c) a w:=by exact fun _ _ _ h=>h) (h5:YieldsIf P ops S o v a:=by
 refine .inl ⟨by rfl,?_⟩
 (intro w hSw;(try dsimp only at hSw);go_simp)<;>with_reducible rfl) (h6:S w:=by assumption) (e1:l.setIfInBounds i true=l':=by first|(simp only [LP]<;>rfl)|rfl) (e2:a.put o.dst v=a':=by first|(simp only [Act.put,LP]<;>rfl)|rfl):wpAnyH P md ops Q S (f+1) l a w:=by
 subst e1 e2;exact wpAnyH_take hi h1 h2 h3 h4 h5 h6 h
theorem Aj {P:Program} {ops:Array Oper} {Q:Exit→Act→World→Prop} {md:Region.Mode} {S:World→Prop} {f:Nat} {l l':Array Bool} {a a':Act} {w:World} {K:Act→World→Prop} (h:Shut (∀ (a:Act) (w:World),S w→(S w→wpAnyH P md ops Q S f l a w)→K a w)) (hs:S w) (k:S w→wpAnyH P md ops Q S f l' a' w) (e1:l=l':=by first|(simp only [LP]<;>rfl)|rfl) (e2:a=a':=by first|(simp only [Act.put,LP]<;>rfl)|rfl):K a w:=by
 subst e1 e2;exact h.out _ _ hs k
theorem BG {P:Program} {ops:Array Oper} {Q:Exit→Act→World→Prop} {md:Region.Mode} {S:World→Prop} {i:Nat} {o:Oper} {f:Nat} {l:Array Bool} {a:Act} {w:World} (hi:ops[i]?=some o) (h:∀ K:Act→World→Prop,Shut (∀ (a:Act) (w:World),S w→(S w→wpAnyH P md ops Q S f (l.setIfInBounds i true) a w)→K a w)→if Region.wanted o (yielded ops a.tmps)=true then Oper.wp P o a w K Q else K (a.put o.dst undef) w) (h1:Region.ready md ops l=[i]:=by kernel_rfl):wpAnyH P md ops Q S (f+1) l a w:=wpAnyH_ready h1 uH (AllReadyH.cons hi h AllReadyH.nil)
theorem Oh {P:Program} {ops:Array Oper} {Q:Exit→Act→World→Prop} {md:Region.Mode} {S:World→Prop} {i j:Nat} {o u:Oper} {f:Nat} {l:Array Bool} {a:Act} {w:World} (hi:ops[i]?=some o) (hj:ops[j]?=some u) (h:∀ K:Act→World→Prop,Shut (∀ (a:Act) (w:World),S w→(S w→wpAnyH P md ops Q S f (l.setIfInBounds i true) a w)→K a w)→if Region.wanted o (yielded ops a.tmps)=true then Oper.wp P o a w K Q else K (a.put o.dst undef) w) (k:∀ K:Act→World→Prop,Shut (∀ (a:Act) (w:World),S w→(S w→wpAnyH P md ops Q S f (l.setIfInBounds j true) a w)→K a w)→if Region.wanted u (yielded ops a.tmps)=true then Oper.wp P u a w K Q else K (a.put u.dst undef) w) (h1:Region.ready md ops l=[i,j]:=by kernel_rfl):wpAnyH P md ops Q S (f+1) l a w:=wpAnyH_ready h1 uH (AllReadyH.cons hi h (AllReadyH.cons hj k AllReadyH.nil))
theorem get_o0 {α:Type} {x:α} {l:List α}:(List.toArray (x::l))[0]?=some x:=rfl
theorem get_os {α:Type} {x y:α} {l:List α} {i:Nat} (h:l.toArray[i]?=some x):(List.toArray (y::l))[i+1]?=some x:=by simpa using h
theorem get_ot {α:Type} {x y0 y1 y2 y3 y4 y5 y6 y7 y8 y9:α} {l:List α} {i:Nat} (h:l.toArray[i]?=some x):(List.toArray (y0::y1::y2::y3::y4::y5::y6::y7::y8::y9::l))[i+10]?=some x:=by simpa using h
end Go.Proofs.YtijplolmkcdflaaGreat
namespace Go.Proofs.YtijplolmkcdflaaGreat
open Tryz
open Go.RowKit
structure Tt (d0 d1:Nat) (w w':World):Prop where
 os:w'.os=w.os
 tape:w'.tape=w.tape
 output:w'.output=w.output
 size:w.heap.size≤w'.heap.size
 block:∀ g,g<w.heap.size→g≠d0→g≠d1→w'.heap[g]?=w.heap[g]?
theorem Tt.Av {d0 d1:Nat} {a w w':World} (h:Tt d0 d1 w w') (ha:Ai a w) (h0:a.heap.size≤d0) (h1:a.heap.size≤d1):Ai a w':=
 ⟨h.os.trans ha.os,h.tape.trans ha.tape,h.output.trans ha.output,IA ha.size h.size,fun k hk=>(h.block k (KI hk ha.size) Xl Xl).trans (ha.block k hk)⟩
theorem Tt.Gl {d0 d1:Nat} {w w1 w2:World} (h1:w.grownBy w1 (some d0)) (h2:w1.grownBy w2 (some d1)):Tt d0 d1 w w2:=
 ⟨h2.os.trans h1.os,h2.tape.trans h1.tape,h2.output.trans h1.output,IA h1.size h2.size,fun g hg n0 n1=>(h2.block g (KI hg h1.size) (by simpa using n1)).trans (h1.block g hg (by simpa using n0))⟩
theorem Tt.Ar9 {d0 d1:Nat} {w w':World} (h:Tt d0 d1 w.drew w'):Tt d0 d1 w w':=⟨h.os,h.tape,h.output,h.size,h.block⟩
theorem Tt.swap {d0 d1:Nat} {w w':World} (h:Tt d0 d1 w w'):Tt d1 d0 w w':=⟨h.os,h.tape,h.output,h.size,fun g hg n0 n1=>h.block g hg n1 n0⟩
theorem Bh.Tm {d0 d1 g:Nat} {w w':World} {t:TypeId} {cs:Array Value} (h:Bh w g t cs) (hb:Tt d0 d1 w w') (n0:g≠d0) (n1:g≠d1):Bh w' g t cs:=(hb.block g h.lt n0 n1).trans h
structure Ap6 (o0 o1 o2 o3:Oper):Prop where
 Fg:Region.noSelect #[o0,o1,o2,o3]=true
 f0:Region.free .any #[o0,o1,o2,o3] #[false,false,false,false] 0=true
 r0:(Region.ready .any #[o0,o1,o2,o3] #[false,false,false,false]).contains 0=true
 f1:Region.free .any #[o0,o1,o2,o3] #[true,false,false,false] 1=true
 r1:(Region.ready .any #[o0,o1,o2,o3] #[true,false,false,false]).contains 1=true
 r2:Region.ready .any #[o0,o1,o2,o3] #[true,true,false,false]=[2]
 r3:Region.ready .any #[o0,o1,o2,o3] #[true,true,true,false]=[3]
 r5:Region.ready .any #[o0,o1,o2,o3] #[true,true,true,true]=[]
section
variable {P : Program}
theorem Cv {id:Nat} {Q:Exit→Act→World→Prop} {a:Act} {w:World} {o0 o1 o2 o3:Oper} (hm:P.follows .mixedOrders=true) (O:Ap6 o0 o1 o2 o3)
 {ty0 ty1:TypeId} {n0 n1:Nat} (R0:Ep P ty0 n0) (R1:Ep P ty1 n1) (x0 x1 p0 p1 y0 y1:Operand)
 (e0:o0.op=.load ty0 x0) (e1:o1.op=.load ty1 x1) (e2:o2.op=.store ty0 p0 y0) (e3:o3.op=.store ty1 p1 y1)
 (k0:o0.guard=none) (k1:o1.guard=none) (k2:o2.guard=none) (k3:o3.guard=none) (u2:o2.dst=none) (u3:o3.dst=none)
 (b0 b1 d0 d1:Nat) {s0 s1 t0 t1:TypeId} {cs0 cs1 ds0 ds1:Array Value} (B0:Bh w b0 s0 cs0) (B1:Bh w b1 s1 cs1) (D0:Bh w d0 t0 ds0) (D1:Bh w d1 t1 ds1)
 (z0:cs0.size=n0) (z1:cs1.size=n1) (z2:ds0.size=n0) (z3:ds1.size=n1) (l0:cs0.all (·.oneCell')=true) (l1:cs1.all (·.oneCell')=true)
 (ne:d0≠d1) (ne0:b0≠d0) (ne1:b0≠d1) (ne2:b1≠d0) (ne3:b1≠d1)
 (v0:a.eval x0=.pointer (some ⟨b0,0,none⟩)) (v1:(a.put o0.dst (.agg cs0)).eval x1=.pointer (some ⟨b1,0,none⟩))
 (v2:((a.put o0.dst (.agg cs0)).put o1.dst (.agg cs1)).eval p0=.pointer (some ⟨d0,0,none⟩)) (v3:((a.put o0.dst (.agg cs0)).put o1.dst (.agg cs1)).eval p1=.pointer (some ⟨d1,0,none⟩))
 (v4:((a.put o0.dst (.agg cs0)).put o1.dst (.agg cs1)).eval y0=.agg cs0) (v5:((a.put o0.dst (.agg cs0)).put o1.dst (.agg cs1)).eval y1=.agg cs1)
 (hQ0:∀ c (a:Act) w,Q (.panic c) (a.put o0.dst (.agg cs0)) w→Q (.panic c) a w) (hQ1:∀ c (a:Act) w,Q (.panic c) (a.put o1.dst (.agg cs1)) w→Q (.panic c) a w)
 (h:∀ w',Bh w' d0 t0 cs0→Bh w' d1 t1 cs1→Tt d0 d1 w w'→Q .normal ((a.put o0.dst (.agg cs0)).put o1.dst (.agg cs1)) w'):(Code.region id #[o0,o1,o2,o3] true).wp P Q a w:=by
 obtain ⟨dd0,hu0,hd0⟩:=R0.hu;obtain ⟨dd1,hu1,hd1⟩:=R1.hu;have st0:∀ {w':World} {cs:Array Value},Bh w' d0 t0 cs→cs.size=n0→Bh (w'.setCells d0 0 cs0.toList) d0 t0 cs0:=fun hb hz=>by
  have:=Bh.Ea cs0.toList 0 hb;rwa [Jq _ cs0 Xl] at this
 have st1:∀ {w':World} {cs:Array Value},Bh w' d1 t1 cs→cs.size=n1→Bh (w'.setCells d1 0 cs1.toList) d1 t1 cs1:=fun hb hz=>by
  have:=Bh.Ea cs1.toList 0 hb;rwa [Jq _ cs1 Xl] at this
 have wn:∀ {o:Oper} {ts},o.guard=none→Region.wanted o ts=true:=fun hg=>by simp [Region.wanted,hg]
 refine Eo (S:=fun w'=>Bh w' b0 s0 cs0∧Bh w' b1 s1 cs1) hm ⟨B0,B1⟩ (fun hS=>?_);refine Lx (i:=0) (v:=.agg cs0) (oi:=o0) rfl O.Fg O.f0 O.r0 hQ0
  (by have:=yieldsIf_load_mid (P:=P) (ops:=#[o0,o1,o2,o3]) (S:=fun w'=>Bh w' b0 s0 cs0∧Bh w' b1 s1 cs1) (op:=o0) (a:=a) (wn k0) ty0 x0 e0 b0 0 v0 cs0.toList dd0 (fun w' h=>h.1.range) hu0 hd0 (by rw [R0.hi];simp [z0]);simpa using this) hS ?_
 refine Lx (i:=1) (v:=.agg cs1) (oi:=o1) rfl O.Fg O.f1 O.r1 hQ1
  (by have:=yieldsIf_load_mid (P:=P) (ops:=#[o0,o1,o2,o3]) (S:=fun w'=>Bh w' b0 s0 cs0∧Bh w' b1 s1 cs1) (op:=o1) (a:=a.put o0.dst (.agg cs0)) (wn k1) ty1 x1 e1 b1 0 v1 cs1.toList dd1 (fun w' h=>h.2.range) hu1 hd1 (by rw [R1.hi];simp [z1]);simpa using this) hS ?_
 refine EY (rs:=[2]) O.r2 uH ?_;refine AllReadyH.cons (o:=o2) rfl (fun K hK=>?_) AllReadyH.nil
 ·rw [Al (wn k2)];refine Uc ty0 p0 y0 e2 d0 0 cs0 v2 v4 (D0.drew.there Xl) (by rw [R0.hi,z0]) l0 ?_;have g1:=Dy w.drew d0 cs0.toList 0;refine hK.out _ _ ⟨B0.drew.grown g1 (by simpa using ne0),B1.drew.grown g1 (by simpa using ne2)⟩ (fun hS2=>?_);rw [show (((a.put o0.dst (.agg cs0)).put o1.dst (.agg cs1)).put o2.dst undef)=((a.put o0.dst (.agg cs0)).put o1.dst (.agg cs1)) by rw [u2];rfl];refine EY (rs:=[3]) O.r3 uH ?_;refine AllReadyH.cons (o:=o3) rfl (fun K hK=>?_) AllReadyH.nil;rw [Al (wn k3)];have D1':=D1.drew.grown g1 (by simpa using Ne.symm ne);refine Uc ty1 p1 y1 e3 d1 0 cs1 v3 v5 (D1'.there Xl) (by rw [R1.hi,z1]) l1 ?_;have g2:=Dy (w.drew.setCells d0 0 cs0.toList) d1 cs1.toList 0;refine hK.out _ _ ⟨hS2.1.grown g2 (by simpa using ne1),hS2.2.grown g2 (by simpa using ne3)⟩ (fun _=>?_);rw [show (((a.put o0.dst (.agg cs0)).put o1.dst (.agg cs1)).put o3.dst undef)=((a.put o0.dst (.agg cs0)).put o1.dst (.agg cs1)) by rw [u3];rfl];exact Av3 O.r5 (h _ ((st0 D0.drew z2).grown g2 (by simpa using ne)) (st1 D1' z3) (Tt.Gl g1 g2).Ar9) _
end
theorem Ba {P:Program} {fn:Func} {p q:Tmp} {ty ty2:TypeId} {n n2:Nat} (h:fn.results=#[.cell p ty,.cell q ty2]) (R:Ep P ty n) (R2:Ep P ty2 n2) {tmps:Array Value} {w:World} {g g2:Nat} {t t2:TypeId} {cs cs2:Array Value}
 (hp:tmps.getD p undef=.pointer (some ⟨g,0,none⟩)) (hq:tmps.getD q undef=.pointer (some ⟨g2,0,none⟩)) (hb:Bh w g t cs) (hb2:Bh w g2 t2 cs2) (hn:cs.size=n) (hn2:cs2.size=n2):
 (results fn tmps).run P w=.ok (.tuple #[.agg cs,.agg cs2]) w:=by
 obtain ⟨d,hu,hd⟩:=R.hu;obtain ⟨d2,hu2,hd2⟩:=R2.hu;have hp':tmps[p]?.getD undef=.pointer (some ⟨g,0,none⟩):=by simpa using hp
 have hq':tmps[q]?.getD undef=.pointer (some ⟨g2,0,none⟩):=by simpa using hq
 have hl:=YW (P:=P) w g 0 ty cs.toList d hb.range hu hd Zb6;have hl2:=YW (P:=P) w g2 0 ty2 cs2.toList d2 hb2.range hu2 hd2 (by rw [R2.hi];simp [hn2]);simp [results,h,hp',hq',asAddr,hl,hl2]
section
variable {P : Program}
theorem Bq {ops:Array Oper} {rest:List Oper} {op:Oper} {a:Act} {w:World} {Q:Exit→Act→World→Prop} (hgd:op.guard=none) {ty:TypeId} {n:Nat} (R:Ep P ty n) (x y:Operand) (ho:op.op=.store ty x y)
 (g o:Nat) (hx:a.eval x=.pointer (some ⟨g,o,none⟩)) {t:TypeId} {cs:Array Value} (hb:Bh w g t cs) (cs':Array Value) (hn':cs'.size=n) (hfit:o+n≤cs.size) (hy:a.eval y=.agg cs') (h1:cs'.all (·.oneCell')=true)
 (h:∀ w',Bh w' g t (Ea cs o cs'.toList)→w.grownBy w' (some g)→wpList P ops Q rest (a.put op.dst undef) w'):wpList P ops Q (op::rest) a w:=by
 refine YY hgd ty x y ho g o cs' hx hy (fun j hj=>?_) Ze2 h1 (h _ (Bh.Ea cs'.toList o hb) (Dy w g _ _));rw [hb.cell,hb.frozen];exact ⟨by rw [Zh Xl];rfl,rfl⟩
end
theorem AO {P:Program} {fn:Func} {p:Tmp} {ty:TypeId} {n:Nat} (h:fn.results=#[.cell p ty]) (R:Ep P ty n) {tmps:Array Value} {w:World} {g:Nat} {t:TypeId} {cs:Array Value}
 (hp:tmps.getD p undef=.pointer (some ⟨g,0,none⟩)) (hb:Bh w g t cs) (hn:cs.size=n):
 (results fn tmps).run P w=.ok (.agg cs) w:=by
 obtain ⟨d,hu,hd⟩:=R.hu;have hp':tmps[p]?.getD undef=.pointer (some ⟨g,0,none⟩):=by simpa using hp
 have hl:=YW (P:=P) w g 0 ty cs.toList d hb.range hu hd Zb6;simp [results,h,hp',asAddr,hl]
section
variable {P : Program} {w : World}
theorem BU {ops:Array Oper} {o:Oper} {a:Act} {K:Act→World→Prop} {Q:Exit→Act→World→Prop} {X:Prop} (hgd:o.guard=none) {t e:TypeId} {size bytes:Nat} (E:Cy P t e size bytes) (x:Operand) (ho:o.op=.buildSlice t 1 #[(0,x)])
 (cs:Array Value) (hx:a.eval x=.agg cs) (hv:cs.size=size) (hs:size≤1000)
 (h:K (a.put o.dst (.slice (some ⟨w.heap.size,0,none⟩) 1 1)) (w.alloc (.cells cs e))):
 if Region.wanted o (yielded ops a.tmps)=true then Oper.wp P o a w K Q else X:=by
 have hw:Region.wanted o (yielded ops a.tmps)=true:=by simp [Region.wanted,hgd]
 rw [Al hw];unfold Oper.wp execOp;have hr:=MQ E (.agg cs) hv hs w;simp only [ho,QD,Em,EX,hx,KH,hr,LC,LB];exact h
theorem AX {ops:Array Oper} {o:Oper} {a:Act} {K:Act→World→Prop} {Q:Exit→Act→World→Prop} {X:Prop} (hgd:o.guard=none) (s x:Operand) (t:TypeId)
 (ho:o.op=.call { callee:=.builtin .append,args:=#[s,x],argTypes:=#[t,t] })
 {e:TypeId} {size bytes:Nat} (E:Cy P t e size bytes) (base:Nat) (hB:base≤w.heap.size)
 (v:Value) (n:Nat) (xs:List Value) (hs:a.eval s=v) (hown:w.ownsRow base e size v n xs)
 (A:Option Addr) (m c:Nat) (news:List Value) (hx:a.eval x=.slice A m c) (hr:Rd w size A m news) (h1:∀ u ∈ news,u.oneCell'=true)
 (h63:n+m≤maxLen) (hbytes:(n+m) * bytes≤140737488355328)
 (h:∀ v' w',w'.ownsRow base e size v' (n+m) (xs++news)→w.grownBy w' v.ownBlock→(v'.ownBlock=v.ownBlock∨v'.ownBlock=some w.heap.size)→K (a.put o.dst v') w'):
 if Region.wanted o (yielded ops a.tmps)=true then Oper.wp P o a w K Q else X:=by
 have hw:Region.wanted o (yielded ops a.tmps)=true:=by simp [Region.wanted,hgd]
 rw [Al hw];obtain ⟨i,z,hi,hz,hsz,hby,hzs⟩:=E.hi;exact OX w s x t ho base e i z size bytes E.ht hi hz hsz hby hzs E.pos v n xs hs hown w.heap.size A m c news hx hr h1 h63 hbytes hB h
end
abbrev PR (α:Type):=Except Int (α × List UInt8)
def JD (l:List UInt8):PR Nat:=if (Dh l).2.2 then .ok ((Dh l).1,l.drop (Dh l).2.1) else .error 3
def DD (most:Int) (l:List UInt8):PR Nat:=
 match JD l with
 |.error k=>.error k
 |.ok (n,r)=>if most<0∨most<n then .error 5 else .ok (n,r)
def GY (l:List UInt8):PR Int:=
 match JD l with
 |.error k=>.error k
 |.ok (n,r)=>.ok (FN n,r)
def NS (n:Int) (l:List UInt8):PR (List UInt8):=if n<0∨(l.length:Int)<n then .error 3 else .ok (l.take n.toNat,l.drop n.toNat)
def Dp (most:Int) (l:List UInt8):PR (List UInt8):=
 match DD most l with
 |.error k=>.error k
 |.ok (n,r)=>NS n r
def Gr (k:Int):Int:=if k=0 then 3 else k
abbrev flt (k:Int):List PanicEntry:=[{ v:=.iface 219 (.agg #[.int .i64 k]),recovered:=false }]
def Ir (w:World) (b:Nat) (s l:List UInt8):Prop:=
 s.length≤140737488351232∧∃ t:Nat,t≤s.length∧l=s.drop t∧Bh w b 217 #[.string ⟨s.toArray⟩,.int .i64 t,.bool true]
theorem Ir.grown {w w':World} {b:Nat} {s l:List UInt8} {row:Option Nat} (h:Ir w b s l) (hg:w.grownBy w' row) (hne:some b≠row):Ir w' b s l:=by
 obtain ⟨h0,t,h1,h2,h3⟩:=h;exact ⟨h0,t,h1,h2,h3.grown hg hne⟩
theorem Ir.Av {w w':World} {b:Nat} {s l:List UInt8} (h:Ir w b s l) (hb:Ai w w'):Ir w' b s l:=by
 obtain ⟨h0,t,h1,h2,h3⟩:=h;exact ⟨h0,t,h1,h2,h3.Av hb⟩
theorem Ir.lt {w:World} {b:Nat} {s l:List UInt8} (h:Ir w b s l):b<w.heap.size:=by
 obtain ⟨_,t,_,_,h3⟩:=h;exact h3.lt
theorem Ir.len {w:World} {b:Nat} {s l:List UInt8} (h:Ir w b s l):l.length≤140737488351232:=by
 obtain ⟨h0,t,h1,h2,h3⟩:=h;subst h2;simp;omega
theorem grownBy_setCell (w:World) (b o:Nat) (v:Value):w.grownBy (w.setCell ⟨b,o,none⟩ v) (some b):=
 ⟨rfl,rfl,rfl,uH,fun j _ hj=>Za _ _ _ j (fun e=>hj (by rw [e]))⟩
def ROk (b:Nat) (s l:List UInt8) (v:Value) (w:World) (e:Ending) (w':World):Prop:=e=.returned v∧w.grownBy w' (some b)∧Ir w' b s l
def Xm (b:Nat) (s:List UInt8) (k:Int) (w:World) (e:Ending) (w':World):Prop:=e=.panicked (flt k)∧w.grownBy w' (some b)∧∃ l,Ir w' b s l
theorem Ob (v:Value) (k:Int) (w:World):Calls prog 140 #[v,.int .i64 k] w fun e w'=>e=.panicked (flt k)∧w=w':=by
 go_enter func140,ntmps140;go_wp2;exact ⟨rfl,rfl,rfl⟩
theorem SI (b:Nat) (w:World) (hc:w.cell? ⟨b,2,none⟩=some (.bool true)):
 Calls prog 138 #[.pointer (some ⟨b,0,none⟩)] w fun e w'=>e=.returned (.bool true)∧w=w':=by
 go_enter func138,ntmps138;go_wp2;go_ret;exact ⟨rfl,rfl⟩
theorem nY {l:List UInt8} {n z:Nat} {ok:Bool} (h:Dh l=(n,z,ok)) (w:World) (hl:l.length≤140737488351232):
 Calls prog 175 #[.string ⟨l.toArray⟩] w fun e w'=>e=.returned (.tuple #[.int .u64 (n:Nat),.int .i64 (z:Nat),.bool ok])∧Ai w w':=by
 have q:=Ac8 l w hl;rw [h] at q;exact q
theorem aO (b:Nat) (s l:List UInt8) (w:World) (hR:Ir w b s l) (hn:(Dh l).2.2=false):
 Calls prog 139 #[.pointer (some ⟨b,0,none⟩)] w (Xm b s 3 w):=by
 have HN:=Aa (RQ hn);have HR:=Aa hR;obtain ⟨h0,t,h1,rfl,h3⟩:=hR;have c0:=h3.cell 0;have c1:=h3.cell 1;simp only [LG] at c0 c1;clear hn h3;have k1:(0:Int)≤t:=by omega
 have k2:(t:Int)≤s.length:=by omega
 go_enter func139,ntmps139;go_wp2_with fail;have d0:=fun u:Over w=>Over.cell c0 u
 have d1:=fun u:Over w=>Over.cell c1 u
 clear c0 c1;refine Am ?_;repeat (go_big_quiet_step ((go_at_call 175;rw [Ru];exact AB (nY HN _ Za3))))
 refine CS ?_;rintro _ ⟨u,rfl⟩;clear d0 d1;go_wp2_with fail;refine (Ob _ _ _).mono ?_;rintro e w' ⟨rfl,rfl⟩;go_wp2;exact ⟨rfl,rfl,EL u.Av _,_,HR.Av u.Av⟩
theorem iO (b:Nat) (s l:List UInt8) (n z:Nat) (w:World) (hR:Ir w b s l) (hn:Dh l=(n,z,true)) (hz:z≤l.length):
 Calls prog 139 #[.pointer (some ⟨b,0,none⟩)] w (ROk b s (l.drop z) (.int .u64 n) w):=by
 have HN:=Aa hn;obtain ⟨h0,t,h1,rfl,h3⟩:=hR;have c0:=h3.cell 0;have c1:=h3.cell 1;simp only [LG] at c0 c1;have H3:=Aa h3;clear hn h3;have k1:(0:Int)≤t:=by omega
 have k2:(t:Int)≤s.length:=by omega
 rw [Ih] at hz;go_enter func139,ntmps139;go_wp2_with fail;have d0:=fun u:Over w=>Over.cell c0 u
 have d1:=fun u:Over w=>Over.cell c1 u
 clear c0 c1;refine Am ?_;repeat (go_big_quiet_step ((go_at_call 175;rw [Ru];exact AB (nY HN _ Za3))))
 refine CS ?_;rintro _ ⟨⟨wd,hwd⟩,rfl⟩;clear d0 d1;have hB:=H3.Av hwd;have c1:=hB.cell 1;have f1:=hB.frozen 1;simp only [LG] at c1;have HB:=Aa hB;have Hwd:=Aa hwd;clear hB hwd;go_wp2;go_ret;refine ⟨rfl,(EL Hwd _).trans (grownBy_setCell _ _ _ _),h0,t+z,Xl,by rw [PQ],?_⟩;have:=HB.Iy 1 (.int .i64 ((t+z:Nat):Int));simpa using this
theorem Ir.c2 {w:World} {b:Nat} {s l:List UInt8} (h:Ir w b s l):w.cell? ⟨b,2,none⟩=some (.bool true):=by
 obtain ⟨_,t,_,_,h3⟩:=h;exact h3.cell 2
theorem Xm.more {b:Nat} {s:List UInt8} {k:Int} {w w1:World} {e:Ending} {w':World} (hg:w.grownBy w1 (some b)) (h:Xm b s k w1 e w'):Xm b s k w e w':=
 ⟨h.1,hg.trans h.2.1,h.2.2⟩
theorem Xm.at {b:Nat} {s l:List UInt8} {k:Int} {w w1:World} (hg:w.grownBy w1 (some b)) (h:Ir w1 b s l):Xm b s k w (.panicked (flt k)) w1:=⟨rfl,hg,l,h⟩
theorem KD {most:Int} {l:List UInt8}:(DD most l=.error 3∧(Dh l).2.2=false)∨(∃ n z,Dh l=(n,z,true)∧z≤l.length∧n<18446744073709551616∧((DD most l=.error 5∧(most<0∨most<n))∨(DD most l=.ok (n,l.drop z)∧0≤most∧(n:Int)≤most))):=by
 have h1:=Ux l;have h2:=qN l;unfold DD JD;rcases h:Dh l with ⟨n,z,ok⟩;rw [h] at h1 h2;cases ok with
 |false=>left;simp
 |true=>
  right;refine ⟨n,z,rfl,h1.1,h2,?_⟩;by_cases hm:most<0∨most<n
  ·left;simp [hm]
  ·right;simp [hm];omega
theorem GV {l:List UInt8}:(JD l=.error 3∧(Dh l).2.2=false)∨(∃ n z,Dh l=(n,z,true)∧z≤l.length∧n<18446744073709551616∧JD l=.ok (n,l.drop z)):=by
 have h1:=Ux l;have h2:=qN l;unfold JD;rcases h:Dh l with ⟨n,z,ok⟩;rw [h] at h1 h2;cases ok with
 |false=>left;simp
 |true=>exact .inr ⟨n,z,rfl,h1.1,h2,uH⟩
def D8 {α:Type} (b:Nat) (s:List UInt8) (o:PR α) (V:α→Value) (w:World) (e:Ending) (w':World):Prop:=
 match o with
 |.error k=>Xm b s k w e w'
 |.ok (x,l)=>ROk b s l (V x) w e w'
theorem IM (b:Nat) (s l:List UInt8) (most:Int) (w:World) (hR:Ir w b s l) (h0:-9223372036854775808≤most) (h1:most≤9223372036854775807):
 Calls prog 94 #[.pointer (some ⟨b,0,none⟩),.int .i64 most] w (D8 b s (DD most l) (fun n=>.int .i64 (n:Nat)) w):=by
 have c2:=hR.c2;have HR:=Aa hR;clear hR;go_enter func94,ntmps94;go_wp2_with fail;refine (SI b _ c2).mono ?_;rintro e w1 ⟨rfl,rfl⟩;clear c2;go_wp2_with fail;rcases KD (most:=most) (l:=l) with ⟨hp,hn⟩|⟨n,z,hn,hz,hlt,hp⟩
 ·refine (aO b s l _ HR hn).mono ?_;rintro e w1 hE;obtain ⟨rfl,hg,hr⟩:=hE;go_wp2;refine ⟨rfl,?_⟩;rw [hp];exact ⟨rfl,hg,hr⟩
 ·refine (iO b s l n z _ HR hn hz).mono ?_;rintro e w1 ⟨rfl,hg,hr⟩;have Hg:=Aa hg;have Hr:=Aa hr;have Hp:=Aa hp;clear hg hr hp hn;by_cases hm:most<0
  ·go_wp2_with fail;refine (Ob _ _ _).mono ?_;rintro e w2 ⟨rfl,rfl⟩;go_wp2;refine ⟨rfl,?_⟩;rcases Hp.Ab with ⟨hp,_⟩|⟨hp,hq,_⟩
   ·rw [hp];exact ⟨rfl,Hg.Ab,_,Hr.Ab⟩
   ·omega
  ·have hw:IntKind.u64.wrap most=most:=IntWalk.u64_in _ Xl;by_cases hq:most<n
   ·go_wp2_with fail;refine (Ob _ _ _).mono ?_;rintro e w2 ⟨rfl,rfl⟩;go_wp2;refine ⟨rfl,?_⟩;rcases Hp.Ab with ⟨hp,_⟩|⟨hp,_,hq'⟩
    ·rw [hp];exact ⟨rfl,Hg.Ab,_,Hr.Ab⟩
    ·omega
   ·go_wp2_with fail;go_ret;rcases Hp.Ab with ⟨hp,hx⟩|⟨hp,hq'⟩
    ·omega
    ·rw [hp];exact ⟨rfl,Hg.Ab,Hr.Ab⟩
theorem aN {n:Nat} (h:n<18446744073709551616):-9223372036854775808≤FN n∧FN n≤9223372036854775807:=by
 unfold FN;split<;>omega
theorem Qn (b:Nat) (s l:List UInt8) (w:World) (hR:Ir w b s l):
 Calls prog 126 #[.pointer (some ⟨b,0,none⟩)] w (D8 b s (GY l) (fun n=>.int .i64 n) w):=by
 have c2:=hR.c2;have HR:=Aa hR;clear hR;go_enter func126,ntmps126;go_wp2_with fail;refine (SI b _ c2).mono ?_;rintro e w1 ⟨rfl,rfl⟩;clear c2;go_wp2_with fail;rcases GV (l:=l) with ⟨hp,hn⟩|⟨n,z,hn,hz,hlt,hp⟩
 ·refine (aO b s l _ HR hn).mono ?_;rintro e w1 hE;obtain ⟨rfl,hg,hr⟩:=hE;go_wp2;refine ⟨rfl,?_⟩;unfold GY;rw [hp];exact ⟨rfl,hg,hr⟩
 ·refine (iO b s l n z _ HR hn hz).mono ?_;rintro e w1 ⟨rfl,hg,hr⟩;have Hg:=Aa hg;have Hr:=Aa hr;have Hp:=Aa hp;clear hg hr hp hn;go_wp2_with fail;refine (vJ n _ Xl Xl).mono ?_;rintro e w2 ⟨rfl,rfl⟩;rw [Db];go_wp2;go_ret;unfold GY;rw [Hp.Ab];exact ⟨rfl,Hg.Ab,Hr.Ab⟩
theorem Ze3 {p:Prop} (h:p:=by rw [Ih];omega):p:=h
theorem Ao1 (b:Nat) (s l:List UInt8) (n:Int) (w:World) (hR:Ir w b s l) (h0:-9223372036854775808≤n) (h1:n≤9223372036854775807):
 Calls prog 171 #[.pointer (some ⟨b,0,none⟩),.int .i64 n] w (D8 b s (NS n l) (fun x=>.string ⟨x.toArray⟩) w):=by
 have c2:=hR.c2;have HR:=Aa hR;obtain ⟨hs,t,ht,rfl,h3⟩:=hR;have c0:=h3.cell 0;have c1:=h3.cell 1;have f1:=h3.frozen 1;simp only [LG] at c0 c1;have H3:=Aa h3;clear h3;go_enter func171,ntmps171;go_wp2_with fail;refine (SI b _ c2).mono ?_;rintro e w1 ⟨rfl,rfl⟩;clear c2;go_wp2_with fail;by_cases hm:n<0
 ·have d:decide (n<0)=true:=by simp;omega
  go_quiet (fail);go_wp2_with fail;refine (Ob _ _ _).mono ?_;rintro e w2 ⟨rfl,rfl⟩;go_wp2;refine ⟨rfl,?_⟩;unfold NS;rw [Al (.inl hm)];exact ⟨rfl,(EL ((Ai.refl w).drewN _) _),_,HR.Av ((Ai.refl w).drewN _)⟩
 ·obtain ⟨m,rfl⟩:=Po (show 0≤n by omega);have d:decide ((m:Int)<0)=false:=by simp
  have wk:IntKind.i64.wrap ((s.length:Int) - t)=(s.length:Int) - t:=IB _ Xl;by_cases hq:s.length<t+m
  ·have d2:decide ((s.length:Int) - t<m)=true:=by simp;omega
   go_quiet (fail);go_wp2_with fail;refine (Ob _ _ _).mono ?_;rintro e w2 ⟨rfl,rfl⟩;go_wp2;refine ⟨rfl,?_⟩;unfold NS;rw [Al (.inr Ze3)];exact ⟨rfl,(EL ((Ai.refl w).drewN _) _),_,HR.Av ((Ai.refl w).drewN _)⟩
  ·have d2:decide ((s.length:Int) - t<m)=false:=by simp;omega
   have wk2:IntKind.i64.wrap ((t:Int)+m)=(t:Int)+m:=IB _ Xl;have k0:(0:Int)≤t:=by omega
   have k1:(t:Int)≤(t:Int)+m:=by omega
   have k2:(t:Int)+m≤s.length:=by omega
   have k3:((t:Int)+m).toNat=t+m:=by omega
   go_quiet (fail);clear wk d d2;go_wp2_with fail;go_quiet (fail);clear wk2 k1 k2 k3;have HB:Hid (∀ n,Bh (w.drewN n) b 217 #[.string ⟨s.toArray⟩,.int .i64 t,.bool true]):=fun n=>H3.drewN n
   go_wp2;go_ret;have e1:NS (m:Int) (s.drop t)=.ok ((s.drop t).take m,(s.drop t).drop m):=by
    unfold NS;rw [Ak Ze3,Db]
   rw [e1];have e2:(⟨s.toArray⟩:ByteArray).extract t (t+m)=⟨((s.drop t).take m).toArray⟩:=by rw [Ms];simp
   rw [e2];refine ⟨rfl,(EL ((Ai.refl w).drewN _) _).trans (grownBy_setCell _ _ _ _),hs,t+m,Xl,by rw [PQ],?_⟩;have hx:=fun n=>(HB n).Iy 1 (.int .i64 ((t+m:Nat):Int))
   simpa using hx _
theorem aF {n k:Int} {l:List UInt8} (h:NS n l=.error k):k=3∧(n<0∨(l.length:Int)<n):=by
 unfold NS at h;split at h
 ·injection h with h;exact ⟨h.symm,Xl⟩
 ·cases h
theorem Zu4 {p:Prop} (h:p:=by rw [hp] at H;refine H.mono ?_;rintro e w1 ⟨rfl,hg,hr⟩;clear hp;go_wp2;refine ⟨rfl,?_⟩;rw [Hq.Ab];exact ⟨rfl,hg,hr⟩):p:=h
theorem NL (b:Nat) (s l:List UInt8) (most:Int) (w:World) (hR:Ir w b s l) (h0:-9223372036854775808≤most) (h1:most≤9223372036854775807):
 Calls prog 133 #[.pointer (some ⟨b,0,none⟩),.int .i64 most] w (D8 b s (Dp most l) (fun x=>.string ⟨x.toArray⟩) w):=by
 have H:=Aa (IM b s l most w hR h0 h1);clear hR;go_enter func133,ntmps133;go_wp2_with fail;rcases KD (most:=most) (l:=l) with ⟨hp,hn⟩|⟨n,z,hn,hz,hlt,⟨hp,_⟩|⟨hp,hm1,hm2⟩⟩
 ·have Hq:Hid (Dp most l=.error 3):=by show _=_;unfold Dp;rw [hp]
  exact Zu4
 ·have Hq:Hid (Dp most l=.error 5):=by show _=_;unfold Dp;rw [hp]
  exact Zu4
 ·have Hq:Hid (Dp most l=NS n (l.drop z)):=by show _=_;unfold Dp;rw [hp]
  rw [hp] at H;refine H.mono ?_;rintro e w1 ⟨rfl,hg,hr⟩;have Hg:=Aa hg;have HF:=Aa (Ao1 b s _ (n:Int) w1 hr Xl Xl);clear hg hr hp H hn;go_wp2_with fail;cases hf:NS (n:Int) (l.drop z) with
  |error k=>
   have Hf:=Aa hf;rw [hf] at HF;refine HF.mono ?_;rintro e w2 ⟨rfl,hg,hr⟩;clear hf;go_wp2;refine ⟨rfl,?_⟩;rw [Hq.Ab,Hf.Ab];exact ⟨rfl,Hg.trans hg,hr⟩
  |ok p=>
   have Hf:=Aa hf;rw [hf] at HF;refine HF.mono ?_;rintro e w2 ⟨rfl,hg,hr⟩;clear hf;go_wp2;go_ret;rw [Hq.Ab,Hf.Ab];exact ⟨rfl,Hg.trans hg,hr⟩
theorem VL (b:Nat) (s l:List UInt8) (w:World) (hR:Ir w b s l):
 Calls prog 131 #[.pointer (some ⟨b,0,none⟩)] w fun e w'=>e=.returned (.int .i64 (l.length:Nat))∧Ai w w':=by
 have c2:=hR.c2;obtain ⟨hs,t,ht,rfl,h3⟩:=hR;have c0:=h3.cell 0;have c1:=h3.cell 1;simp only [LG] at c0 c1;clear h3;have wk:IntKind.i64.wrap ((s.length:Int) - t)=(s.length:Int) - t:=IB _ Xl;go_enter func131,ntmps131;go_wp2_with fail;refine (SI b _ c2).mono ?_;rintro e w1 ⟨rfl,rfl⟩;clear c2;go_wp2_with fail;go_quiet (fail);go_wp2;go_ret;exact ⟨IJ Ze3,(Ai.refl w).drewN _⟩
theorem Mq (b:Nat) (s l:List UInt8) (k:Int) (w:World) (hR:Ir w b s l):
 Calls prog 127 #[.pointer (some ⟨b,0,none⟩),.bool true,.int .i64 k] w fun e w'=>e=.returned (.tuple #[])∧w=w':=by
 have c2:=hR.c2;clear hR;go_enter func127,ntmps127;go_wp2_with fail;refine (SI b _ c2).mono ?_;rintro e w1 ⟨rfl,rfl⟩;clear c2;go_wp2;go_end0;exact ⟨rfl,rfl⟩
theorem JB (b:Nat) (s l:List UInt8) (k:Int) (w:World) (hR:Ir w b s l):
 Calls prog 127 #[.pointer (some ⟨b,0,none⟩),.bool false,.int .i64 k] w fun e w'=>e=.panicked (flt (Gr k))∧w=w':=by
 have c2:=hR.c2;clear hR;go_enter func127,ntmps127;go_wp2_with fail;refine (SI b _ c2).mono ?_;rintro e w1 ⟨rfl,rfl⟩;clear c2;by_cases hk:k=0
 ·subst hk;go_wp2_with fail;refine (Ob _ _ _).mono ?_;rintro e w2 ⟨rfl,rfl⟩;go_wp2;exact ⟨rfl,rfl,rfl⟩
 ·have d:(k==0)=false:=by simpa using hk
  have HK:Hid (Gr k=k):=by show _=_;unfold Gr;rw [Ak hk]
  clear hk;go_wp2_with fail;refine (Ob _ _ _).mono ?_;rintro e w2 ⟨rfl,rfl⟩;go_wp2;exact ⟨rfl,by rw [HK.Ab],rfl⟩
theorem Ab3 (rc b ec:Nat) (w:World) (x:Bool) (hr:w.cell? ⟨rc,0,none⟩=some (.pointer (some ⟨b,0,none⟩))) (h2:w.cell? ⟨b,2,none⟩=some (.bool x)) (hf:w.frozen? ⟨b,2,none⟩=false):
 CallsD prog 130 #[.pointer (some ⟨rc,0,none⟩),.pointer (some ⟨ec,0,none⟩)] .returning w fun e u' w'=>
  e=.returned (.tuple #[])∧u'=.returning∧w'=w.setCell ⟨b,2,none⟩ (.bool false):=by
 refine callsD_of_wpS func130 rfl fun c₀ cs hu=>?_;simp only [ntmps130,Tv,En,Ot,Nat.reduceAdd,Nat.reduceSub,TB,TD,Tu,Tz,FC,KZ];apply wpS_seq;refine wpS_of_wp ?_;go_wp2;show Code.wpS _ _ _ _ _ _;apply wpS_seq;apply wpS_region;simp [wpOpsS,go_sem,recoverD,hu,Exit.thenS];refine wpS_of_wp ?_;go_wp2;refine ⟨rfl,.returning,?_,.tuple #[],by kernel_rfl,rfl,rfl,rfl⟩;cases c₀;simp only at hu;subst hu
 rfl
theorem uD (rc b ec:Nat) (w:World) (x:Bool) (k y:Int) (hr:w.cell? ⟨rc,0,none⟩=some (.pointer (some ⟨b,0,none⟩))) (h2:w.cell? ⟨b,2,none⟩=some (.bool x)) (hf:w.frozen? ⟨b,2,none⟩=false)
 (he:w.cell? ⟨ec,0,none⟩=some (.int .i64 y)) (hef:w.frozen? ⟨ec,0,none⟩=false) (hne:ec≠b):
 CallsD prog 130 #[.pointer (some ⟨rc,0,none⟩),.pointer (some ⟨ec,0,none⟩)] (.panicking (flt k)) w fun e u' w'=>
  e=.returned (.tuple #[])∧u'=.panicking [{ v:=.iface 219 (.agg #[.int .i64 k]),recovered:=true }]∧w'=((w.setCell ⟨b,2,none⟩ (.bool false)).setCell ⟨ec,0,none⟩ (.int .i64 k)).alloc (.cells #[.int .i64 k] 219):=by
 refine callsD_of_wpS func130 rfl fun c₀ cs hu=>?_;have hta:∀ w,(Instr.typeAssert (.iface 219 (.agg #[.int .i64 k])) 20 219 true).run prog w=.ok (.tuple #[.agg #[.int .i64 k],.bool true]) w:=fun _=>by kernel_rfl
 have hlt:ec<w.heap.size:=JM w _ he;simp only [ntmps130,Tv,En,Ot,Nat.reduceAdd,Nat.reduceSub,TB,TD,Tu,Tz,FC,KZ];apply wpS_seq;refine wpS_of_wp ?_;go_wp2;show Code.wpS _ _ _ _ _ _;apply wpS_seq;apply wpS_region;simp [wpOpsS,go_sem,recoverD,hu,Exit.thenS];refine wpS_of_wp ?_;have e1:(w.setCell ⟨b,2,none⟩ (.bool false)).cell? ⟨ec,0,none⟩=some (.int .i64 y):=(kG _ _ _ _ uH).trans he;have e2:(w.setCell ⟨b,2,none⟩ (.bool false)).frozen? ⟨ec,0,none⟩=false:=by simpa using hef
 go_wp2;exact ⟨rfl,_,rfl,.tuple #[],by kernel_rfl,rfl,rfl,rfl⟩
structure PN (B:Nat) (w w':World):Prop where
 os:w'.os=w.os
 tape:w'.tape=w.tape
 output:w'.output=w.output
 size:w.heap.size≤w'.heap.size
 block:∀ g,g<w.heap.size→g≠B→g≠B+1→w'.heap[g]?=w.heap[g]?
def Nu (B:Nat) (s:List UInt8) (R:Int→World→Prop) (e:Ending) (w':World):Prop:=
 Bh w' B 45 #[.int .i64 0]∧Bh w' (B+2) 166 #[.pointer (some ⟨B+1,0,none⟩)]∧
  ((∃ k,e=.panicked (flt k)∧(∃ l,Ir w' (B+1) s l)∧R k w')∨(∃ l,e=.returned (.tuple #[])∧Ir w' (B+1) s l∧R (if l=[] then 0 else 3) w'))
theorem PN.alloc {B:Nat} {w w':World} (h:PN B w w') (o:Obj):PN B w (w'.alloc o):=
 ⟨h.os,h.tape,h.output,by have:=h.size;simp;omega,fun g hg h1 h2=>(Below.heap_alloc w' o g (KI hg h.size)).trans (h.block g hg h1 h2)⟩
theorem PN.Iy {B:Nat} {w w':World} (h:PN B w w') (g o:Nat) (hg:g=B∨g=B+1) (v:Value):PN B w (w'.setCell ⟨g,o,none⟩ v):=
 ⟨h.os,h.tape,h.output,by have:=h.size;simp;omega,fun g' hg' h1 h2=>(Za w' ⟨g,o,none⟩ v g' Za3).trans (h.block g' hg' h1 h2)⟩
theorem PN.refl (B:Nat) (w:World):PN B w w:=⟨rfl,rfl,rfl,Ci _,fun _ _ _ _=>rfl⟩
theorem PN.trans {B:Nat} {a b c:World} (h:PN B a b) (k:PN B b c):PN B a c:=
 ⟨k.os.trans h.os,k.tape.trans h.tape,k.output.trans h.output,IA h.size k.size,fun g hg h1 h2=>(k.block g (KI hg h.size) h1 h2).trans (h.block g hg h1 h2)⟩
theorem PN.MR {B:Nat} {w w':World} (h:Ai w w'):PN B w w':=⟨h.os,h.tape,h.output,h.size,fun g hg _ _=>h.block g hg⟩
theorem Ah4 (b:Nat) (s:List UInt8) (w:World) (hR:Ir w b s []):
 Calls prog 131 #[.pointer (some ⟨b,0,none⟩)] w fun e w'=>e=.returned (.int .i64 0)∧Ai w w':=VL b s [] w hR
theorem Z8 (B:Nat) (tmps:Array Value) (R:Ending→World→Prop) (w:World) (x:Bool) (ht:tmps.getD 4 undef=.pointer (some ⟨B,0,none⟩))
 (hr:w.cell? ⟨B+2,0,none⟩=some (.pointer (some ⟨B+1,0,none⟩))) (h2:w.cell? ⟨B+1,2,none⟩=some (.bool x)) (hf:w.frozen? ⟨B+1,2,none⟩=false) (k:Int) (he:Bh w B 45 #[.int .i64 k])
 (h:R (.returned (.int .i64 k)) (w.setCell ⟨B+1,2,none⟩ (.bool false))):
 Leaves prog Tryz.f88 tmps R [{ target:=.fn (.func 130) #[.pointer (some ⟨B+1+1,0,none⟩),.pointer (some ⟨B,0,none⟩)],args:=#[] }] .returning w:=by
 refine leaves_cons (f:=130) (args:=#[.pointer (some ⟨B+1+1,0,none⟩),.pointer (some ⟨B,0,none⟩)]) uH (by simp [go_sem]) ?_;refine (Ab3 (B+1+1) (B+1) B w x hr h2 hf).mono ?_;rintro e u' w'' ⟨rfl,rfl,rfl⟩;refine ⟨.int .i64 k,?_,h⟩;have b1:=(he.far (p:=⟨B+1,2,none⟩) uH (.bool false)).cell 0;generalize w.setCell ⟨B+1,2,none⟩ (.bool false)=W at *;have ht':tmps[4]?.getD undef=.pointer (some ⟨B,0,none⟩):=by simpa using ht
 simp [results,Tryz.results88,go_sem,ht',b1]
theorem XW (B:Nat) (tmps:Array Value) (R:Ending→World→Prop) (w:World) (x:Bool) (y:Int) (ht:tmps.getD 4 undef=.pointer (some ⟨B,0,none⟩))
 (hr:w.cell? ⟨B+2,0,none⟩=some (.pointer (some ⟨B+1,0,none⟩))) (h2:w.cell? ⟨B+1,2,none⟩=some (.bool x)) (hf:w.frozen? ⟨B+1,2,none⟩=false) (k:Int) (he:Bh w B 45 #[.int .i64 y])
 (h:∀ W,PN B w W→W.cell? ⟨B+1,2,none⟩=some (.bool false)→R (.returned (.int .i64 k)) W):
 Leaves prog Tryz.f88 tmps R [{ target:=.fn (.func 130) #[.pointer (some ⟨B+1+1,0,none⟩),.pointer (some ⟨B,0,none⟩)],args:=#[] }] (.panicking (flt k)) w:=by
 refine leaves_cons (f:=130) (args:=#[.pointer (some ⟨B+1+1,0,none⟩),.pointer (some ⟨B,0,none⟩)]) uH (by simp [go_sem]) ?_;refine (uD (B+1+1) (B+1) B w x k y hr h2 hf (he.cell 0) (he.frozen 0) Xl).mono ?_;rintro e u' w'' ⟨rfl,rfl,rfl⟩;refine ⟨.int .i64 k,?_,h _ ((((PN.refl B w).Iy (B+1) 2 (.inr rfl) _).Iy B 0 (.inl rfl) _).alloc _) ?_⟩
 rotate_left
 ·rw [World.cell?_alloc_lt _ _ _ (by have:=JM _ _ h2;simp at this;simp;omega),kG _ _ _ _ uH,World.cell?_setCell_same _ _ _ h2]
 have b1:=(((he.far (p:=⟨B+1,2,none⟩) uH (.bool false)).Iy 0 (.int .i64 k)).alloc (.cells #[.int .i64 k] 219)).cell 0;generalize ((w.setCell ⟨B+1,2,none⟩ (.bool false)).setCell ⟨B,0,none⟩ (.int .i64 k)).alloc (.cells #[.int .i64 k] 219)=W at *;simp at b1;have ht':tmps[4]?.getD undef=.pointer (some ⟨B,0,none⟩):=by simpa using ht
 simp [results,Tryz.results88,go_sem,ht',b1]
def G7 (B:Nat) (R:Int→World→Prop) (e:Ending) (w'':World):Prop:=∃ k w',e=.returned (.int .i64 k)∧R k w'∧PN B w' w''∧w''.cell? ⟨B+1,2,none⟩=some (.bool false)
theorem Zm7 {p:Prop} (h:p:=by
 go_simp;refine Ad.out _ _ ?_ fun hHeld=>?_
 ·(try dsimp only);first|exact q0|exact q2
 clear Ad KK;try simp only [Act.put,LP]
 refine EY (rs:=[4]) Za0 uH ?_;refine AllReadyH.cons LJ (fun KK Ad=>?_) ?_
 ·go_simp;refine (JB _ _ _ _ _ (HR.Av ((Ai.refl w1).drew.trans hb2))).mono ?_;rintro e w3 ⟨rfl,rfl⟩;exact HE _ ((Ai.refl w1).drew.trans hb2) _ rfl
 exact AllReadyH.nil
):p:=h
theorem Zk3 {p:Prop} (h:p:=by
 refine Ad.out _ _ ?_ fun hHeld=>?_
 ·(try dsimp only);first|exact q0|exact q2
 clear Ad KK;try simp only [Act.put,LP]
 refine EY (rs:=[3]) Za0 uH ?_;refine AllReadyH.cons Ky (fun KK Ad=>?_) ?_
 ·exact Zm7
 exact AllReadyH.nil
):p:=h
theorem Zm5 {p:Prop} (h:p:=by
 go_simp;refine Ad.out _ _ ?_ fun hHeld=>?_
 ·(try dsimp only);first|exact q0|exact q2
 clear Ad KK;try simp only [Act.put,LP]
 refine EY (rs:=[2]) Za0 uH ?_;refine AllReadyH.cons MN (fun KK Ad=>?_) ?_
 ·go_simp;refine (VL _ _ _ _ (HR.Av (Ai.refl w1).drew)).mono ?_;rintro e w2 ⟨rfl,hb2⟩;have q2:=(Hk2.Av ((Ai.refl w1).drew.trans hb2)).cell 0;simp only [Re,TE] at q2;exact Zk3
 exact AllReadyH.nil
):p:=h
theorem YP (F:FuncId) (caps:Array Value) (s:List UInt8) (w:World) (hs:s.length≤140737488351232) (R:Int→World→Prop)
 (hcf:∀ args w,(callFunc F args).run prog w=.ok (.enter F args) w)
 (H:∀ w1,Ai w w1→w1.heap.size=w.heap.size+3→Ir w1 (w.heap.size+1) s s→Bh w1 w.heap.size 45 #[.int .i64 0]→Bh w1 (w.heap.size+2) 166 #[.pointer (some ⟨w.heap.size+1,0,none⟩)]→
  Calls prog F (#[.pointer (some ⟨w.heap.size+1,0,none⟩)]++caps) w1 (Nu w.heap.size s R)):
 Calls prog 88 #[.string ⟨s.toArray⟩,.func (.func F) #[] caps] w (G7 w.heap.size R):=by
 have hmf:∀ (fn:Fn) (first cap:Array Value) (w:World),(Instr.makeFunc fn first cap).run prog w=.ok (.func fn first cap) w:=fun _ _ _ _=>rfl
 have HH:=Aa H;clear H;go_enter_defers func88,ntmps88;go_wp2_with fail;have hB0:Ai w (((w.alloc (Obj.cells #[Value.int IntKind.i64 0] 45)).alloc (Obj.cells #[Value.string { data:=s.toArray },Value.int IntKind.i64 0,Value.bool true] 217)).alloc (Obj.cells #[Value.pointer (some { block:=w.heap.size+1,off:=0 })] 166)):=(((Ai.refl w).alloc _).alloc _).alloc _;have hsz:(((w.alloc (Obj.cells #[Value.int IntKind.i64 0] 45)).alloc (Obj.cells #[Value.string { data:=s.toArray },Value.int IntKind.i64 0,Value.bool true] 217)).alloc (Obj.cells #[Value.pointer (some { block:=w.heap.size+1,off:=0 })] 166)).heap.size=w.heap.size+3:=by simp
 have b0:=((Bh.new w 45 #[.int .i64 0]).alloc (Obj.cells #[Value.string { data:=s.toArray },Value.int IntKind.i64 0,Value.bool true] 217)).alloc (Obj.cells #[Value.pointer (some { block:=w.heap.size+1,off:=0 })] 166);have b1:=(Bh.new (w.alloc (Obj.cells #[Value.int IntKind.i64 0] 45)) 217 #[Value.string { data:=s.toArray },Value.int IntKind.i64 0,Value.bool true]).alloc (Obj.cells #[Value.pointer (some { block:=w.heap.size+1,off:=0 })] 166);have b2:=Bh.new ((w.alloc (Obj.cells #[Value.int IntKind.i64 0] 45)).alloc (Obj.cells #[Value.string { data:=s.toArray },Value.int IntKind.i64 0,Value.bool true] 217)) 166 #[Value.pointer (some { block:=w.heap.size+1,off:=0 })];rw [Gf,Gf] at b2;rw [Gf] at b1;have HC:=Aa (HH _ hB0 hsz ⟨hs,0,Xl,uH,b1⟩ b0 b2);generalize ((w.alloc (Obj.cells #[Value.int IntKind.i64 0] 45)).alloc (Obj.cells #[Value.string { data:=s.toArray },Value.int IntKind.i64 0,Value.bool true] 217)).alloc (Obj.cells #[Value.pointer (some { block:=w.heap.size+1,off:=0 })] 166)=W at *;clear hB0 hsz b0 b1 b2;go_wp2_with fail;refine HC.mono ?_;rintro e w1 ⟨k0,k2,⟨k,rfl,⟨l,hR⟩,hK⟩|⟨l,rfl,hR,hK⟩⟩
 ·obtain ⟨_,t,_,_,k1⟩:=hR;have r0:=k2.cell 0;have r1:=k1.cell 2;have r2:=k1.frozen 2;have r3:=k0.cell 0;have r4:=k0.frozen 0;have K0:=Aa k0;clear k0 k1 k2;go_wp2;exact XW w.heap.size _ _ w1 true 0 rfl r0 r1 r2 k K0 fun W hW hc=>⟨k,w1,rfl,hK,hW,hc⟩
 ·have q0:=k2.cell 0;have Hk0:=Aa k0;have Hk2:=Aa k2;have HR:=Aa hR;have HK:=Aa hK;clear k0 k2 hR hK;simp only [Re,TE] at q0;go_wp2_with fail;cases l with
  |nil=>
   have d0:=fun u:Over w1=>Over.cell q0 u
   clear q0;refine Am ?_;repeat (go_big_quiet_step (first|(go_at_call 131;exact AB (Ah4 _ _ _ (HR.Av (Over.Av _))))|(go_at_call 127;exact GA (Mq _ _ _ _ _ (HR.Av (Over.Av _))))))
   refine CS ?_;rintro _ ⟨⟨wd,hwd⟩,rfl⟩;clear d0;have k0:=Hk0.Av hwd;have k2:=(Hk2.Av hwd).cell 0;obtain ⟨_,t,_,_,k1⟩:=HR.Av hwd;have x0:=k0.cell 0;have x1:=k0.frozen 0;have y1:=k1.cell 2;have y2:=k1.frozen 2;have K0:=Aa k0;have K1:=Aa k1;have K2:=Aa k2;have Hwd:=Aa hwd;clear k0 k1 k2 hwd y1 y2;go_wp2;have k1':=K1.far (p:=⟨w.heap.size,0,none⟩) uH (.int .i64 0);refine Z8 w.heap.size _ _ _ true rfl ?_ (k1'.cell 2) (k1'.frozen 2) 0 (by simpa using K0.Iy 0 (.int .i64 0)) ?_
   ·exact (kG _ _ _ _ uH).trans K2.Ab
   ·exact ⟨0,w1,rfl,by simpa using HK.Ab,(((PN.MR Hwd.Ab).Iy _ 0 (.inl rfl) _).Iy _ 2 (.inr rfl) _),World.cell?_setCell_same _ _ _ (k1'.cell 2)⟩
  |cons c r=>
   have d:((r.length:Int)+1==0)=false:=by simp;omega
   have HE:Hid (∀ w2,Ai w1 w2→∀ tmps:Array Value,tmps.getD 4 undef=.pointer (some ⟨w.heap.size,0,none⟩)→bodyPostD prog Tryz.f88 (G7 w.heap.size R) (Exit.panic (flt (Gr 3))) ⟨tmps,[{ target:=.fn (.func 130) #[.pointer (some ⟨w.heap.size+1+1,0,none⟩),.pointer (some ⟨w.heap.size,0,none⟩)],args:=#[] }]⟩ w2):=fun w2 hb2 tmps ht=>by
    obtain ⟨_,t,_,_,k1⟩:=HR.Av hb2;exact XW w.heap.size _ _ w2 true 0 ht ((Hk2.Av hb2).cell 0) (k1.cell 2) (k1.frozen 2) 3 (Hk0.Av hb2) fun W hW hc=>⟨3,w1,rfl,by simpa using HK.Ab,(PN.MR hb2).trans hW,hc⟩
   refine Eo (S:=fun w'=>w'.cell? ⟨w.heap.size+1+1,0,none⟩=some (.pointer (some ⟨w.heap.size+1,0,none⟩))) Za0 ?_ fun hHeld=>?_
   ·(try dsimp only);first|exact q0|exact q2
   refine EY (rs:=[0,1]) Za0 uH ?_;refine AllReadyH.cons Ml (fun KK Ad=>?_) ?_
   ·go_simp;refine Ad.out _ _ ?_ fun hHeld=>?_
    ·(try dsimp only);first|exact q0|exact q2
    clear Ad KK;try simp only [Act.put,LP]
    refine EY (rs:=[1]) Za0 uH ?_;refine AllReadyH.cons KF (fun KK Ad=>?_) ?_
    ·exact Zm5
    exact AllReadyH.nil
   refine AllReadyH.cons KF (fun KK Ad=>?_) ?_
   ·go_simp;refine Ad.out _ _ ?_ fun hHeld=>?_
    ·(try dsimp only);first|exact q0|exact q2
    clear Ad KK;try simp only [Act.put,LP]
    refine EY (rs:=[0,2]) Za0 uH ?_;refine AllReadyH.cons Ml (fun KK Ad=>?_) ?_
    ·exact Zm5
    refine AllReadyH.cons MN (fun KK Ad=>?_) ?_
    ·go_simp;refine (VL _ _ _ _ (HR.Av (Ai.refl w1).drew)).mono ?_;rintro e w2 ⟨rfl,hb2⟩;have q2:=(Hk2.Av ((Ai.refl w1).drew.trans hb2)).cell 0;simp only [Re,TE] at q2;refine Ad.out _ _ ?_ fun hHeld=>?_
     ·(try dsimp only);first|exact q0|exact q2
     clear Ad KK;try simp only [Act.put,LP]
     refine EY (rs:=[0,3]) Za0 uH ?_;refine AllReadyH.cons Ml (fun KK Ad=>?_) ?_
     ·go_simp;exact Zk3
     refine AllReadyH.cons Ky (fun KK Ad=>?_) ?_
     ·go_simp;refine Ad.out _ _ ?_ fun hHeld=>?_
      ·(try dsimp only);first|exact q0|exact q2
      clear Ad KK;try simp only [Act.put,LP]
      refine EY (rs:=[0]) Za0 uH ?_;refine AllReadyH.cons Ml (fun KK Ad=>?_) ?_
      ·exact Zm7
      exact AllReadyH.nil
     exact AllReadyH.nil
    exact AllReadyH.nil
   exact AllReadyH.nil
abbrev Iz (s:List UInt8) (t k:Int):Value:=.agg #[.string ⟨s.toArray⟩,.int .i64 t,.int .i64 k]
abbrev DY (s:List UInt8) (t k:Int):Array Value:=#[.string ⟨s.toArray⟩,.int .i64 t,.int .i64 k]
theorem Bh.three {w:World} {g:Nat} {t:TypeId} {a b c:Value} (h:Bh w g t #[a,b,c]):w.cell? ⟨g,0,none⟩=some a∧w.cell? ⟨g,1,none⟩=some b∧w.cell? ⟨g,2,none⟩=some c∧w.frozen? ⟨g,0,none⟩=false∧w.frozen? ⟨g,1,none⟩=false∧w.frozen? ⟨g,2,none⟩=false:=
 ⟨h.cell 0,h.cell 1,h.cell 2,h.frozen 0,h.frozen 1,h.frozen 2⟩
theorem Ar:Ep prog 141 3:=⟨⟨_,underlying141,rfl⟩,by kernel_rfl⟩
theorem AU (s:List UInt8) (t k:Int):(DY s t k).all (·.oneCell')=true:=by simp [Value.oneCell']
theorem ES {most:Int} {l r:List UInt8} {n:Nat} (h:DD most l=.ok (n,r)):0≤most∧(n:Int)≤most∧r.length≤l.length:=by
 rcases KD (most:=most) (l:=l) with ⟨e,_⟩|⟨n',z,_,hz,_,⟨e,_⟩|⟨e,h2,h3⟩⟩
 ·rw [h] at e;cases e
 ·rw [h] at e;cases e
 ·rw [h] at e;injection e with e;injection e with e1 e2;subst e1;subst e2;exact ⟨h2,h3,by rw [Ih];omega⟩
theorem EE {most k:Int} {l:List UInt8} (h:DD most l=.error k):k=3∨k=5:=by
 rcases KD (most:=most) (l:=l) with ⟨e,_⟩|⟨n',z,_,hz,_,⟨e,_⟩|⟨e,h2,h3⟩⟩
 ·rw [h] at e;injection e with e;exact .inl e
 ·rw [h] at e;injection e with e;exact .inr e
 ·rw [h] at e;cases e
theorem gV {l:List UInt8} {n z:Nat} {ok:Bool} (h:Dh l=(n,z,ok)) (w:World) (hl:l.length≤140737488351232):
 Calls prog 188 #[.string ⟨l.toArray⟩] w fun e w'=>e=.returned (.tuple #[.int .u64 (n:Nat),.int .i64 (z:Nat),.bool ok])∧Ai w w':=by
 have q:=M3 l w hl;rw [h] at q;exact q
def dX {α:Type} (s:List UInt8) (o:PR α) (V:α→Value) (z:Value) (w:World) (e:Ending) (w':World):Prop:=
 Ai w w'∧match o with
  |.error k=>∃ t:Int,e=.returned (.tuple #[Iz s t k,z])
  |.ok (x,l)=>∃ t:Nat,t≤s.length∧l=s.drop t∧e=.returned (.tuple #[Iz s t 0,V x])
theorem XJ (s:List UInt8) (t k:Int) (hk:k≠0) (w:World):
 Calls prog 155 #[Iz s t k] w fun e w'=>e=.returned (.tuple #[Iz s t k,.int .u64 0])∧Ai w w':=by
 have d:(k !=0)=true:=by simpa using hk
 clear hk;go_enter func155,ntmps155;go_wp2;refine Bc (v:=.tuple #[Iz s t k,.int .u64 0]) (by simp [results,Tryz.results155,go_sem]) rfl ⟨rfl,?_⟩;exact ((Ai.refl w).alloc _).alloc _
theorem pJ (s:List UInt8) (t k:Int) (n:Int) (hk:k≠0) (w:World):
 Calls prog 157 #[Iz s t k,.int .i64 n] w fun e w'=>e=.returned (.tuple #[Iz s t k,.string ⟨#[]⟩])∧Ai w w':=by
 have d:(k !=0)=true:=by simpa using hk
 clear hk;go_enter func157,ntmps157;go_wp2;refine Bc (v:=.tuple #[Iz s t k,.string ⟨#[]⟩]) (by simp [results,Tryz.results157,go_sem]) rfl ⟨rfl,?_⟩;exact ((Ai.refl w).alloc _).alloc _
theorem XK (s:List UInt8) (t:Nat) (hs:s.length≤140737488351232) (ht:t≤s.length) (w:World):
 Calls prog 155 #[Iz s t 0] w (dX s (JD (s.drop t)) (fun n=>.int .u64 (n:Nat)) (.int .u64 0) w):=by
 have k1:(0:Int)≤t:=by omega
 have k2:(t:Int)≤s.length:=by omega
 go_enter func155,ntmps155;go_wp2_with fail;rw [Ru];have bA:=(Bh.new w 141 (DY s t 0)).alloc (.cells #[.string ⟨#[]⟩,.int .i64 0,.int .i64 0] 141);have bB:=Bh.new (w.alloc (.cells (DY s t 0) 141)) 141 #[.string ⟨#[]⟩,.int .i64 0,.int .i64 0];have hW:=((Ai.refl w).alloc (.cells (DY s t 0) 141)).alloc (.cells #[.string ⟨#[]⟩,.int .i64 0,.int .i64 0] 141);rw [Gf] at bB;rcases GV (l:=s.drop t) with ⟨hp,hn⟩|⟨n,z,hn,hz,hlt,hp⟩
 ·refine (gV (RQ hn) _ Za3).mono ?_;rintro e w1 ⟨rfl,hb1⟩;have Hp:=Aa hp;clear hp hn;obtain ⟨a0,a1,a2,f0,f1,f2⟩:=(bA.Av hb1).three;obtain ⟨b0,b1,b2,g0,g1,g2⟩:=(bB.Av hb1).three;have HW:=Aa (hW.trans hb1);clear bA bB hW hb1;go_wp2;refine Bc (v:=.tuple #[Iz s t 3,.int .u64 0]) (by simp [results,Tryz.results155,go_sem,b0,b1,b2]) rfl ⟨?_,?_⟩
  ·repeat (with_reducible first|exact HW.Ab|refine Ai.setCell ?_ uH _|refine Ai.alloc ?_ _)
  ·rw [Hp.Ab];exact ⟨t,rfl⟩
 ·refine (gV hn _ Za3).mono ?_;rintro e w1 ⟨rfl,hb1⟩;have Hp:=Aa hp;rw [Ih] at hz;clear hp hn;obtain ⟨a0,a1,a2,f0,f1,f2⟩:=(bA.Av hb1).three;obtain ⟨b0,b1,b2,g0,g1,g2⟩:=(bB.Av hb1).three;have HW:=Aa (hW.trans hb1);clear bA bB hW hb1;go_wp2;refine Bc (v:=.tuple #[Iz s (t+z:Nat) 0,.int .u64 n]) (by simp [results,Tryz.results155,go_sem,b0,b1,b2]) rfl ⟨?_,?_⟩
  ·repeat (with_reducible first|exact HW.Ab|refine Ai.setCell ?_ uH _|refine Ai.alloc ?_ _)
  ·rw [Hp.Ab];exact ⟨t+z,Xl,by rw [PQ],rfl⟩
theorem Vy (s:List UInt8) (t k:Int) (most:Int) (hk:k≠0) (w:World):
 Calls prog 110 #[Iz s t k,.int .i64 most] w fun e w'=>e=.returned (.tuple #[Iz s t k,.int .i64 0])∧Ai w w':=by
 have HK:=Aa hk;have d:(k !=0)=true:=by simpa using hk
 have d2:(k==0)=false:=by simpa using hk
 clear hk;go_enter func110,ntmps110;go_wp2_with fail;have bA:=(Bh.new w 141 (DY s t k)).alloc (.cells #[.string ⟨#[]⟩,.int .i64 0,.int .i64 0] 141);have bB:=Bh.new (w.alloc (.cells (DY s t k) 141)) 141 #[.string ⟨#[]⟩,.int .i64 0,.int .i64 0];have hW:=((Ai.refl w).alloc (.cells (DY s t k) 141)).alloc (.cells #[.string ⟨#[]⟩,.int .i64 0,.int .i64 0] 141);rw [Gf] at bB;refine (XJ s t k HK _).mono ?_;rintro e w1 ⟨rfl,hb1⟩;have Qz:=bA.Av hb1;have Vf:=bB.Av hb1;have hW1:=Aa (hW.trans hb1);clear bA bB hW hb1;go_wp2_with (((with_reducible refine OS 2 ?_);refine Ae rfl Ar (.tmp 2) (.tmp 10) rfl w.heap.size rfl Qz rfl (DY s t k) rfl rfl (AU _ _ _) ?_;intro w2 MO hg2;have Pg:=Vf.grown hg2 uH;obtain ⟨a0,a1,a2,f0,f1,f2⟩:=MO.three;obtain ⟨b0,b1,b2,g0,g1,g2⟩:=Pg.three;have BA:=Aa MO;have BB:=Aa Pg;have HW:=Aa (hW1.DN hg2 (Ci _));clear Qz Vf hW1 MO Pg hg2));refine Bc (v:=.tuple #[Iz s t k,.int .i64 0]) (by simp [results,Tryz.results110,go_sem,b0,b1,b2]) rfl ⟨rfl,?_⟩;repeat (with_reducible first|exact HW.Ab|refine Ai.setCell ?_ uH _|refine Ai.alloc ?_ _)
theorem Ae7 (s:List UInt8) (t k:Int) (hk:k≠0) (w:World):
 Calls prog 114 #[Iz s t k] w fun e w'=>e=.returned (.tuple #[Iz s t k,.int .i64 0])∧Ai w w':=by
 have HK:=Aa hk;have d:(k !=0)=true:=by simpa using hk
 clear hk;go_enter func114,ntmps114;go_wp2_with fail;have bA:=(Bh.new w 141 (DY s t k)).alloc (.cells #[.string ⟨#[]⟩,.int .i64 0,.int .i64 0] 141);have bB:=Bh.new (w.alloc (.cells (DY s t k) 141)) 141 #[.string ⟨#[]⟩,.int .i64 0,.int .i64 0];have hW:=((Ai.refl w).alloc (.cells (DY s t k) 141)).alloc (.cells #[.string ⟨#[]⟩,.int .i64 0,.int .i64 0] 141);rw [Gf] at bB;refine (XJ s t k HK _).mono ?_;rintro e w1 ⟨rfl,hb1⟩;have Qz:=bA.Av hb1;have Vf:=bB.Av hb1;have hW1:=Aa (hW.trans hb1);clear bA bB hW hb1;go_wp2_with (((with_reducible refine OS 1 ?_);refine Ae rfl Ar (.tmp 1) (.tmp 8) rfl w.heap.size rfl Qz rfl (DY s t k) rfl rfl (AU _ _ _) ?_;intro w2 MO hg2;have Pg:=Vf.grown hg2 uH;obtain ⟨a0,a1,a2,f0,f1,f2⟩:=MO.three;obtain ⟨b0,b1,b2,g0,g1,g2⟩:=Pg.three;have BA:=Aa MO;have BB:=Aa Pg;have HW:=Aa (hW1.DN hg2 (Ci _));clear Qz Vf hW1 MO Pg hg2));refine Bc (v:=.tuple #[Iz s t k,.int .i64 0]) (by simp [results,Tryz.results114,go_sem,b0,b1,b2]) rfl ⟨rfl,?_⟩;repeat (with_reducible first|exact HW.Ab|refine Ai.setCell ?_ uH _|refine Ai.alloc ?_ _)
theorem Ry (s:List UInt8) (t:Nat) (most:Int) (hs:s.length≤140737488351232) (ht:t≤s.length) (h0:-9223372036854775808≤most) (h1:most≤9223372036854775807) (w:World):
 Calls prog 110 #[Iz s t 0,.int .i64 most] w (dX s (DD most (s.drop t)) (fun n=>.int .i64 (n:Nat)) (.int .i64 0) w):=by
 go_enter func110,ntmps110;go_wp2_with fail;have bA:=(Bh.new w 141 (DY s t 0)).alloc (.cells #[.string ⟨#[]⟩,.int .i64 0,.int .i64 0] 141);have bB:=Bh.new (w.alloc (.cells (DY s t 0) 141)) 141 #[.string ⟨#[]⟩,.int .i64 0,.int .i64 0];have hW:=((Ai.refl w).alloc (.cells (DY s t 0) 141)).alloc (.cells #[.string ⟨#[]⟩,.int .i64 0,.int .i64 0] 141);rw [Gf] at bB;have HP:=Aa (XK s t hs ht);rcases KD (most:=most) (l:=s.drop t) with ⟨hp,hn⟩|⟨n,z,hn,hz,hlt,hp⟩
 ·have e1:JD (s.drop t)=.error 3:=by unfold JD;rw [RQ hn];rfl
  rw [e1] at HP;refine (HP _).mono ?_;rintro e w1 ⟨hb1,t',rfl⟩;have Hp:=Aa hp;clear hp hn e1;have Qz:=bA.Av hb1;have Vf:=bB.Av hb1;have hW1:=Aa (hW.trans hb1);clear bA bB hW hb1;go_wp2_with (((with_reducible refine OS 2 ?_);refine Ae rfl Ar (.tmp 2) (.tmp 10) rfl w.heap.size rfl Qz rfl (DY s t' 3) rfl rfl (AU _ _ _) ?_;intro w2 MO hg2;have Pg:=Vf.grown hg2 uH;obtain ⟨a0,a1,a2,f0,f1,f2⟩:=MO.three;obtain ⟨b0,b1,b2,g0,g1,g2⟩:=Pg.three;have BA:=Aa MO;have BB:=Aa Pg;have HW:=Aa (hW1.DN hg2 (Ci _));clear Qz Vf hW1 MO Pg hg2));refine Bc (v:=.tuple #[Iz s t' 3,.int .i64 0]) (by simp [results,Tryz.results110,go_sem,b0,b1,b2]) rfl ⟨?_,?_⟩
  ·repeat (with_reducible first|exact HW.Ab|refine Ai.setCell ?_ uH _|refine Ai.alloc ?_ _)
  ·rw [Hp.Ab];exact ⟨t',rfl⟩
 ·have e1:JD (s.drop t)=.ok (n,(s.drop t).drop z):=by unfold JD;rw [hn];rfl
  rw [e1] at HP;refine (HP _).mono ?_;rintro e w1 ⟨hb1,t',ht',he,rfl⟩;have He:=Aa he;have Hp:=Aa hp;clear hp hn e1 he;have Qz:=bA.Av hb1;have Vf:=bB.Av hb1;have hW1:=Aa (hW.trans hb1);clear bA bB hW hb1;by_cases hm:most<0
  ·have d:decide (most<0)=true:=by simp;omega
   go_wp2_with (((with_reducible refine OS 2 ?_);refine Ae rfl Ar (.tmp 2) (.tmp 10) rfl w.heap.size rfl Qz rfl (DY s t' 0) rfl rfl (AU _ _ _) ?_;intro w2 MO hg2;have Pg:=Vf.grown hg2 uH;obtain ⟨a0,a1,a2,f0,f1,f2⟩:=MO.three;obtain ⟨b0,b1,b2,g0,g1,g2⟩:=Pg.three;have BA:=Aa MO;have BB:=Aa Pg;have HW:=Aa (hW1.DN hg2 (Ci _));clear Qz Vf hW1 MO Pg hg2));refine Bc (v:=.tuple #[Iz s t' 5,.int .i64 0]) (by simp [results,Tryz.results110,go_sem,b0,b1,b2]) rfl ⟨?_,?_⟩
   ·repeat (with_reducible first|exact HW.Ab|refine Ai.setCell ?_ uH _|refine Ai.alloc ?_ _)
   ·rcases Hp.Ab with ⟨hp,_⟩|⟨hp,hq,_⟩
    ·rw [hp];exact ⟨t',rfl⟩
    ·omega
  ·have d:decide (most<0)=false:=by simp;omega
   have hw:IntKind.u64.wrap most=most:=IntWalk.u64_in _ Xl;by_cases hq:most<n
   ·have d2:decide (most<n)=true:=by simp;omega
    go_wp2_with (((with_reducible refine OS 2 ?_);refine Ae rfl Ar (.tmp 2) (.tmp 10) rfl w.heap.size rfl Qz rfl (DY s t' 0) rfl rfl (AU _ _ _) ?_;intro w2 MO hg2;have Pg:=Vf.grown hg2 uH;obtain ⟨a0,a1,a2,f0,f1,f2⟩:=MO.three;obtain ⟨b0,b1,b2,g0,g1,g2⟩:=Pg.three;have BA:=Aa MO;have BB:=Aa Pg;have HW:=Aa (hW1.DN hg2 (Ci _));clear Qz Vf hW1 MO Pg hg2));refine Bc (v:=.tuple #[Iz s t' 5,.int .i64 0]) (by simp [results,Tryz.results110,go_sem,b0,b1,b2]) rfl ⟨?_,?_⟩
    ·repeat (with_reducible first|exact HW.Ab|refine Ai.setCell ?_ uH _|refine Ai.alloc ?_ _)
    ·rcases Hp.Ab with ⟨hp,_⟩|⟨hp,_,hq'⟩
     ·rw [hp];exact ⟨t',rfl⟩
     ·omega
   ·have d2:decide (most<n)=false:=by simp;omega
    go_wp2_with (((with_reducible refine OS 2 ?_);refine Ae rfl Ar (.tmp 2) (.tmp 10) rfl w.heap.size rfl Qz rfl (DY s t' 0) rfl rfl (AU _ _ _) ?_;intro w2 MO hg2;have Pg:=Vf.grown hg2 uH;obtain ⟨a0,a1,a2,f0,f1,f2⟩:=MO.three;obtain ⟨b0,b1,b2,g0,g1,g2⟩:=Pg.three;have BA:=Aa MO;have BB:=Aa Pg;have HW:=Aa (hW1.DN hg2 (Ci _));clear Qz Vf hW1 MO Pg hg2));refine Bc (v:=.tuple #[Iz s t' 0,.int .i64 n]) (by simp [results,Tryz.results110,go_sem,b0,b1,b2]) rfl ⟨?_,?_⟩
    ·repeat (with_reducible first|exact HW.Ab|refine Ai.setCell ?_ uH _|refine Ai.alloc ?_ _)
    ·rcases Hp.Ab with ⟨hp,hx⟩|⟨hp,_⟩
     ·omega
     ·rw [hp];exact ⟨t',ht',He.Ab,rfl⟩
theorem Ae8 (s:List UInt8) (t:Nat) (hs:s.length≤140737488351232) (ht:t≤s.length) (w:World):
 Calls prog 114 #[Iz s t 0] w (dX s (GY (s.drop t)) (fun n=>.int .i64 n) (.int .i64 0) w):=by
 go_enter func114,ntmps114;go_wp2_with fail;have bA:=(Bh.new w 141 (DY s t 0)).alloc (.cells #[.string ⟨#[]⟩,.int .i64 0,.int .i64 0] 141);have bB:=Bh.new (w.alloc (.cells (DY s t 0) 141)) 141 #[.string ⟨#[]⟩,.int .i64 0,.int .i64 0];have hW:=((Ai.refl w).alloc (.cells (DY s t 0) 141)).alloc (.cells #[.string ⟨#[]⟩,.int .i64 0,.int .i64 0] 141);rw [Gf] at bB;have HP:=Aa (XK s t hs ht);rcases GV (l:=s.drop t) with ⟨hp,hn⟩|⟨n,z,hn,hz,hlt,hp⟩
 ·rw [hp] at HP;refine (HP _).mono ?_;rintro e w1 ⟨hb1,t',rfl⟩;have Hp:=Aa hp;clear hp hn;have Qz:=bA.Av hb1;have Vf:=bB.Av hb1;have hW1:=Aa (hW.trans hb1);clear bA bB hW hb1;go_wp2_with (((with_reducible refine OS 1 ?_);refine Ae rfl Ar (.tmp 1) (.tmp 8) rfl w.heap.size rfl Qz rfl (DY s t' 3) rfl rfl (AU _ _ _) ?_;intro w2 MO hg2;have Pg:=Vf.grown hg2 uH;obtain ⟨a0,a1,a2,f0,f1,f2⟩:=MO.three;obtain ⟨b0,b1,b2,g0,g1,g2⟩:=Pg.three;have BA:=Aa MO;have BB:=Aa Pg;have HW:=Aa (hW1.DN hg2 (Ci _));clear Qz Vf hW1 MO Pg hg2));refine Bc (v:=.tuple #[Iz s t' 3,.int .i64 0]) (by simp [results,Tryz.results114,go_sem,b0,b1,b2]) rfl ⟨?_,?_⟩
  ·repeat (with_reducible first|exact HW.Ab|refine Ai.setCell ?_ uH _|refine Ai.alloc ?_ _)
  ·unfold GY;rw [Hp.Ab];exact ⟨t',rfl⟩
 ·rw [hp] at HP;refine (HP _).mono ?_;rintro e w1 ⟨hb1,t',ht',he,rfl⟩;have He:=Aa he;have Hp:=Aa hp;clear hp hn he;have Qz:=bA.Av hb1;have Vf:=bB.Av hb1;have hW1:=Aa (hW.trans hb1);clear bA bB hW hb1;go_wp2_with (((with_reducible refine OS 1 ?_);refine Ae rfl Ar (.tmp 1) (.tmp 8) rfl w.heap.size rfl Qz rfl (DY s t' 0) rfl rfl (AU _ _ _) ?_;intro w2 MO hg2;have Pg:=Vf.grown hg2 uH;obtain ⟨a0,a1,a2,f0,f1,f2⟩:=MO.three;obtain ⟨b0,b1,b2,g0,g1,g2⟩:=Pg.three;have BA:=Aa MO;have BB:=Aa Pg;have HW:=Aa (hW1.DN hg2 (Ci _));clear Qz Vf hW1 MO Pg hg2));go_region_with ((go_at_call 158;refine (oL n _ Xl Xl).mono ?_;rintro e w3 ⟨rfl,rfl⟩;rw [Db]));all_goals
   go_wp2;refine Bc (v:=.tuple #[Iz s t' 0,.int .i64 (FN n)]) (by simp [results,Tryz.results114,go_sem,b0,b1,b2]) rfl ⟨?_,?_⟩
   ·repeat (with_reducible first|exact HW.Ab|exact HW.drew|refine Ai.setCell ?_ uH _|refine Ai.alloc ?_ _|refine Ai.drew ?_)
   ·unfold GY;rw [Hp.Ab];exact ⟨t',ht',He.Ab,rfl⟩
theorem Zq1 {p:Prop} (h:p:=by
 go_enter func157,ntmps157;go_wp2;refine Bc (v:=.tuple #[Iz s t 3,.string ⟨#[]⟩]) (by simp [results,Tryz.results157,go_sem]) rfl ⟨?_,?_⟩
 ·exact ((Ai.refl w).alloc _).alloc _
 ·rw [Hp.Ab];exact ⟨t,rfl⟩
):p:=h
theorem Ae9 (s:List UInt8) (t:Nat) (n:Int) (hs:s.length≤140737488351232) (ht:t≤s.length) (h0:-9223372036854775808≤n) (h1:n≤9223372036854775807) (w:World):
 Calls prog 157 #[Iz s t 0,.int .i64 n] w (dX s (NS n (s.drop t)) (fun x=>.string ⟨x.toArray⟩) (.string ⟨#[]⟩) w):=by
 have k1:(0:Int)≤t:=by omega
 have k2:(t:Int)≤s.length:=by omega
 by_cases hm:n<0
 ·have Hp:Hid (NS n (s.drop t)=.error 3):=by show _=_;unfold NS;rw [Al (.inl hm)]
  have d:decide (n<0)=true:=by simp;omega
  exact Zq1
 ·obtain ⟨m,rfl⟩:=Po (show 0≤n by omega);have d:decide ((m:Int)<0)=false:=by simp
  by_cases hq:s.length<t+m
  ·have Hp:Hid (NS m (s.drop t)=.error 3):=by show _=_;unfold NS;rw [Al (.inr Ze3)]
   have d2:decide ((s.length:Int) - t<m)=true:=by simp;omega
   exact Zq1
  ·have Hp:Hid (NS m (s.drop t)=.ok ((s.drop t).take m,(s.drop t).drop m)):=by show _=_;unfold NS;rw [Ak Ze3,Db]
   have d2:decide ((s.length:Int) - t<m)=false:=by simp;omega
   have e2:Hid ((⟨s.toArray⟩:ByteArray).extract t (t+m)=⟨((s.drop t).take m).toArray⟩):=by show _=_;rw [Ms];simp
   have k3:(t:Int)≤(t:Int)+m:=by omega
   have k4:(t:Int)+m≤s.length:=by omega
   go_enter func157,ntmps157;go_wp2;refine Bc (v:=.tuple #[Iz s (t+m:Nat) 0,.string ((⟨s.toArray⟩:ByteArray).extract t (t+m))]) (by simp [results,Tryz.results157,go_sem]) rfl ⟨?_,?_⟩
   ·exact ((Ai.refl w).alloc _).alloc _
   ·rw [Hp.Ab,e2.Ab];exact ⟨t+m,Xl,by rw [PQ],rfl⟩
theorem gU (s:List UInt8) (t k:Int) (most:Int) (hk:k≠0) (w:World):
 Calls prog 112 #[Iz s t k,.int .i64 most] w fun e w'=>e=.returned (.tuple #[Iz s t k,.string ⟨#[]⟩])∧Ai w w':=by
 have HK:=Aa hk;clear hk;go_enter func112,ntmps112;go_wp2_with fail;have bA:=(Bh.new w 141 (DY s t k)).alloc (.cells #[.string ⟨#[]⟩,.int .i64 0,.int .i64 0] 141);have bB:=Bh.new (w.alloc (.cells (DY s t k) 141)) 141 #[.string ⟨#[]⟩,.int .i64 0,.int .i64 0];have hW:=((Ai.refl w).alloc (.cells (DY s t k) 141)).alloc (.cells #[.string ⟨#[]⟩,.int .i64 0,.int .i64 0] 141);rw [Gf] at bB;refine (Vy s t k most HK _).mono ?_;rintro e w1 ⟨rfl,hb1⟩;have Qz:=bA.Av hb1;have Vf:=bB.Av hb1;have hW1:=Aa (hW.trans hb1);clear bA bB hW hb1;go_wp2_with (((with_reducible refine OS 2 ?_);refine Ae rfl Ar (.tmp 2) (.tmp 11) rfl w.heap.size rfl Qz rfl (DY s t k) rfl rfl (AU _ _ _) ?_;intro w2 MO hg2;have Pg:=Vf.grown hg2 uH;obtain ⟨a0,a1,a2,f0,f1,f2⟩:=MO.three;obtain ⟨b0,b1,b2,g0,g1,g2⟩:=Pg.three;have BA:=Aa MO;have BB:=Aa Pg;have HW:=Aa (hW1.DN hg2 (Ci _));clear Qz Vf hW1 MO Pg hg2));refine (pJ s t k 0 HK _).mono ?_;rintro e w3 ⟨rfl,hb3⟩;have bB3:=BB.Av hb3;have HW3:=Aa (HW.trans hb3);clear hb3;go_wp2_with (((with_reducible refine OS 4 ?_);refine Ae rfl Ar (.tmp 4) (.tmp 16) rfl (w.heap.size+1) rfl bB3 rfl (DY s t k) rfl rfl (AU _ _ _) ?_;intro w4 bC hg4));refine Bc (Au rfl Ar rfl bC rfl) rfl ?_;exact ⟨rfl,HW3.DN hg4 Xl⟩
theorem WL (s:List UInt8) (t:Nat) (most:Int) (hs:s.length≤140737488351232) (ht:t≤s.length) (h0:-9223372036854775808≤most) (h1:most≤9223372036854775807) (w:World):
 Calls prog 112 #[Iz s t 0,.int .i64 most] w (dX s (Dp most (s.drop t)) (fun x=>.string ⟨x.toArray⟩) (.string ⟨#[]⟩) w):=by
 go_enter func112,ntmps112;go_wp2_with fail;have bA:=(Bh.new w 141 (DY s t 0)).alloc (.cells #[.string ⟨#[]⟩,.int .i64 0,.int .i64 0] 141);have bB:=Bh.new (w.alloc (.cells (DY s t 0) 141)) 141 #[.string ⟨#[]⟩,.int .i64 0,.int .i64 0];have hW:=((Ai.refl w).alloc (.cells (DY s t 0) 141)).alloc (.cells #[.string ⟨#[]⟩,.int .i64 0,.int .i64 0] 141);rw [Gf] at bB;have HP:=Aa (Ry s t most hs ht h0 h1);cases hp:DD most (s.drop t) with
 |error k=>
  have hk:k≠0:=by have:=EE hp;omega
  have Hq:Hid (Dp most (s.drop t)=.error k):=by show _=_;unfold Dp;rw [hp]
  rw [hp] at HP;refine (HP _).mono ?_;rintro e w1 ⟨hb1,t',rfl⟩;have HK:=Aa hk;clear hp hk;have Qz:=bA.Av hb1;have Vf:=bB.Av hb1;have hW1:=Aa (hW.trans hb1);clear bA bB hW hb1;go_wp2_with (((with_reducible refine OS 2 ?_);refine Ae rfl Ar (.tmp 2) (.tmp 11) rfl w.heap.size rfl Qz rfl (DY s t' k) rfl rfl (AU _ _ _) ?_;intro w2 MO hg2;have Pg:=Vf.grown hg2 uH;obtain ⟨a0,a1,a2,f0,f1,f2⟩:=MO.three;obtain ⟨b0,b1,b2,g0,g1,g2⟩:=Pg.three;have BA:=Aa MO;have BB:=Aa Pg;have HW:=Aa (hW1.DN hg2 (Ci _));clear Qz Vf hW1 MO Pg hg2));refine (pJ s t' k 0 HK _).mono ?_;rintro e w3 ⟨rfl,hb3⟩;have bB3:=BB.Av hb3;have HW3:=Aa (HW.trans hb3);clear hb3;go_wp2_with (((with_reducible refine OS 4 ?_);refine Ae rfl Ar (.tmp 4) (.tmp 16) rfl (w.heap.size+1) rfl bB3 rfl (DY s t' k) rfl rfl (AU _ _ _) ?_;intro w4 bC hg4));refine Bc (Au rfl Ar rfl bC rfl) rfl ?_;refine ⟨HW3.DN hg4 Xl,?_⟩;rw [Hq.Ab];exact ⟨t',rfl⟩
 |ok q=>
  obtain ⟨n,l⟩:=q;have Hq:Hid (Dp most (s.drop t)=NS n l):=by show _=_;unfold Dp;rw [hp]
  have hn:=(ES hp).2.1;rw [hp] at HP;refine (HP _).mono ?_;rintro e w1 ⟨hb1,t',ht',rfl,rfl⟩;clear hp;have Qz:=bA.Av hb1;have Vf:=bB.Av hb1;have hW1:=Aa (hW.trans hb1);clear bA bB hW hb1;have HF:=Aa (Ae9 s t' (n:Int) hs ht' Xl Xl);go_wp2_with (((with_reducible refine OS 2 ?_);refine Ae rfl Ar (.tmp 2) (.tmp 11) rfl w.heap.size rfl Qz rfl (DY s t' 0) rfl rfl (AU _ _ _) ?_;intro w2 MO hg2;have Pg:=Vf.grown hg2 uH;obtain ⟨a0,a1,a2,f0,f1,f2⟩:=MO.three;obtain ⟨b0,b1,b2,g0,g1,g2⟩:=Pg.three;have BA:=Aa MO;have BB:=Aa Pg;have HW:=Aa (hW1.DN hg2 (Ci _));clear Qz Vf hW1 MO Pg hg2));cases hf:NS (n:Int) (s.drop t') with
  |error k=>
   have Hf:=Aa hf;rw [hf] at HF;refine (HF _).mono ?_;rintro e w3 ⟨hb3,t2,rfl⟩;have bB3:=BB.Av hb3;have HW3:=Aa (HW.trans hb3);clear hb3 hf;go_wp2_with (((with_reducible refine OS 4 ?_);refine Ae rfl Ar (.tmp 4) (.tmp 16) rfl (w.heap.size+1) rfl bB3 rfl (DY s t2 k) rfl rfl (AU _ _ _) ?_;intro w4 bC hg4));refine Bc (Au rfl Ar rfl bC rfl) rfl ?_;refine ⟨HW3.DN hg4 Xl,?_⟩;rw [Hq.Ab,Hf.Ab];exact ⟨t2,rfl⟩
  |ok q=>
   obtain ⟨x,r⟩:=q;have Hf:=Aa hf;rw [hf] at HF;refine (HF _).mono ?_;rintro e w3 ⟨hb3,t2,ht2,he2,rfl⟩;have He2:=Aa he2;have bB3:=BB.Av hb3;have HW3:=Aa (HW.trans hb3);clear hb3 hf he2;go_wp2_with (((with_reducible refine OS 4 ?_);refine Ae rfl Ar (.tmp 4) (.tmp 16) rfl (w.heap.size+1) rfl bB3 rfl (DY s t2 0) rfl rfl (AU _ _ _) ?_;intro w4 bC hg4));refine Bc (Au rfl Ar rfl bC rfl) rfl ?_;refine ⟨HW3.DN hg4 Xl,?_⟩;rw [Hq.Ab,Hf.Ab];exact ⟨t2,ht2,He2.Ab,rfl⟩
attribute [local go_sem] WJ
def isTerm (l:List UInt8):Bool:=decide (1≤l.length∧l.length≤16)
def PD (b:Bool):Int:=if b then 0 else 2
def Fe (c:Nat):Bool:=(decide (97≤c) && decide (c≤122))||(decide (48≤c) && decide (c≤57))||c==95
def DJ (l:List UInt8):Bool:=decide (1≤l.length∧l.length≤12) && l.all fun c=>Fe c.toNat
theorem JJ (l:List UInt8) (w:World) (hl:l.length≤9223372036854775807):
 Calls prog 141 #[.string ⟨l.toArray⟩] w fun e w'=>e=.returned (.int .i64 (PD (isTerm l)))∧w=w':=by
 cases l with
 |nil=>
  go_enter func141,ntmps141;go_wp2;go_ret;exact ⟨rfl,rfl⟩
 |cons c r=>
  simp only [En] at hl;by_cases h:16<r.length+1
  ·have HI:Hid (isTerm (c::r)=false):=by show _=_;unfold isTerm;simp;omega
   go_enter func141,ntmps141;go_wp2;go_ret;rw [HI.Ab];exact ⟨rfl,rfl⟩
  ·have HI:Hid (isTerm (c::r)=true):=by show _=_;unfold isTerm;simp;omega
   go_enter func141,ntmps141;go_wp2;go_ret;rw [HI.Ab];exact ⟨rfl,rfl⟩
theorem WV (l:List UInt8) (w:World) (hl:l.length≤9223372036854775807):
 Calls prog 85 #[.string ⟨l.toArray⟩] w fun e w'=>e=.returned (.bool (isTerm l))∧w=w':=by
 by_cases h1:1≤l.length
 ·by_cases h2:l.length≤16
  ·have d1:decide ((l.length:Int)≤16)=true:=by simp;omega
   have HI:Hid (isTerm l=true):=by show _=_;unfold isTerm;simp;omega
   go_enter func85,ntmps85;go_wp2;go_ret;rw [HI.Ab];exact ⟨rfl,rfl⟩
  ·have d1:decide ((l.length:Int)≤16)=false:=by simp;omega
   have HI:Hid (isTerm l=false):=by show _=_;unfold isTerm;simp;omega
   go_enter func85,ntmps85;go_wp2;go_ret;rw [HI.Ab];exact ⟨rfl,rfl⟩
 ·have HI:Hid (isTerm l=false):=by show _=_;unfold isTerm;simp;omega
  go_enter func85,ntmps85;go_wp2;go_ret;rw [HI.Ab];exact ⟨rfl,rfl⟩
theorem XF {c:Nat} (h1:97≤c) (h2:c≤122):Fe c=true:=by simp [Fe,h1,h2]
theorem ZC {c:Nat} (h1:48≤c) (h2:c≤57):Fe c=true:=by simp [Fe,h1,h2]
theorem gN {c:Nat} (h:c=95):Fe c=true:=by simp [Fe,h]
theorem Nv {c:Nat} (h1:c<97∨122<c) (h2:c<48∨57<c) (h3:¬ c=95):Fe c=false:=by
 simp [Fe,h3];omega
theorem TV (l:List UInt8) (k:Nat) (h:k<l.length):((l.take (k+1)).all fun c=>Fe c.toNat)=(((l.take k).all fun c=>Fe c.toNat) && Fe l[k].toNat):=by
 rw [Rh h,List.all_append];simp
theorem Ip {l:List UInt8} {k:Nat} (h:((l.take k).all fun c=>Fe c.toNat)=false):(l.all fun c=>Fe c.toNat)=false:=by
 rw [←Na k l,List.all_append,h]
 rfl
theorem Zd4 {p:Prop} (h:p:=by
 go_wp2;go_roundg (l.length - (k+1));case rel=>exact ⟨k+1,rfl,Xl,by go_num,rfl,by show _=_;rw [Hs.Ab,hF.Ab,HG.Ab];rfl⟩
 case measure=>rw [Cs.Ab];omega
):p:=h
theorem Zv3 {p:Prop} (h:p:=by
 have HG:Hid (Fe l[k].toNat=true):=gN a4;have q:((l[k].toNat:Int)==95)=true:=by simp;omega
 clear a4;exact Zd4
):p:=h
theorem Zc6 {p:Prop} (h:p:=by rw [Hs.Ab,HG.Ab];simp):p:=h
theorem Mx (l:List UInt8) (w:World) (hl:l.length≤9223372036854775807):
 Calls prog 172 #[.string ⟨l.toArray⟩] w fun e w'=>e=.returned (.int .i64 (PD (DJ l)))∧w=w':=by
 cases hl0:l with
 |nil=>
  subst hl0;go_enter func172,ntmps172;go_wp2;go_ret;exact ⟨rfl,rfl⟩
 |cons c0 r0=>
  have hp:1≤l.length:=by rw [hl0];simp
  have he:l.isEmpty=false:=by rw [hl0];rfl
  rw [←hl0];clear hl0;by_cases h:12<l.length
  ·have HI:Hid (DJ l=false):=by show _=_;unfold DJ;simp;omega
   go_enter func172,ntmps172;go_wp2;go_ret;rw [HI.Ab];exact ⟨rfl,rfl⟩
  ·have dl:decide (12<(l.length:Int))=false:=by simp;omega
   go_enter func172,ntmps172;go_wp2;go_loopg [14] l.length (fun g i wr=>∃ k:Nat,g=l.length - k∧k≤l.length∧i=.int .i64 k∧wr=w∧Hid (((l.take k).all fun c=>Fe c.toNat)=true));case atStart=>exact ⟨0,rfl,Xl,rfl,rfl,by show _=_;simp⟩
   case round=>
    obtain ⟨k,BR,hk,rfl,rfl,hF⟩:=hrel;have Cs:=Aa BR;clear BR;by_cases hlt:k<l.length
    ·have hb:=l[k].toNat_lt;have Hs:=Aa (TV l k hlt);by_cases a1:97≤l[k].toNat
     ·by_cases a2:l[k].toNat≤122
      ·have HG:Hid (Fe l[k].toNat=true):=XF a1 a2;exact Zd4
      ·have HG:Hid (Fe l[k].toNat=false):=Nv Xl Xl Xl;have q:((l[k].toNat:Int)==95)=false:=by simp;omega
       have HI:Hid (DJ l=false):=by show _=_;unfold DJ;rw [Ip (k:=k+1) Zc6];simp
       go_wp2;go_ret;rw [HI.Ab];exact ⟨rfl,rfl⟩
     ·by_cases a2:48≤l[k].toNat
      ·by_cases a3:l[k].toNat≤57
       ·have HG:Hid (Fe l[k].toNat=true):=ZC a2 a3;exact Zd4
       ·by_cases a4:l[k].toNat=95
        ·exact Zv3
        ·have HG:Hid (Fe l[k].toNat=false):=Nv Xl Xl a4;have q:((l[k].toNat:Int)==95)=false:=by simp;omega
         clear a4;have HI:Hid (DJ l=false):=by show _=_;unfold DJ;rw [Ip (k:=k+1) Zc6];simp
         go_wp2;go_ret;rw [HI.Ab];exact ⟨rfl,rfl⟩
      ·have HG:Hid (Fe l[k].toNat=false):=Nv Xl Xl Xl;have q:((l[k].toNat:Int)==95)=false:=by simp;omega
       have HI:Hid (DJ l=false):=by show _=_;unfold DJ;rw [Ip (k:=k+1) Zc6];simp
       go_wp2;go_ret;rw [HI.Ab];exact ⟨rfl,rfl⟩
    ·have HI:Hid (DJ l=true):=by
      show _=_;have:=hF.Ab;rw [EU Xl] at this;unfold DJ;rw [this];simp;omega
     clear hF;go_wp2;go_ret;rw [HI.Ab];exact ⟨rfl,rfl⟩
theorem KM (l:List UInt8) (w:World) (hl:l.length≤9223372036854775807):
 Calls prog 50 #[.string ⟨l.toArray⟩] w fun e w'=>e=.returned (.bool (DJ l))∧w=w':=by
 cases hl0:l with
 |nil=>
  subst hl0;go_enter func50,ntmps50;go_wp2;go_ret;exact ⟨rfl,rfl⟩
 |cons c0 r0=>
  have hp:1≤l.length:=by rw [hl0];simp
  rw [←hl0];clear hl0;by_cases h:12<l.length
  ·have HI:Hid (DJ l=false):=by show _=_;unfold DJ;simp;omega
   go_enter func50,ntmps50;go_wp2;go_ret;rw [HI.Ab];exact ⟨rfl,rfl⟩
  ·have dl:decide (12<(l.length:Int))=false:=by simp;omega
   have dl1:decide ((l.length:Int)<1)=false:=by simp;omega
   go_enter func50,ntmps50;go_wp2;go_loopg [3] l.length (fun g i wr=>∃ k:Nat,g=l.length - k∧k≤l.length∧i=.int .i64 k∧wr=w∧Hid (((l.take k).all fun c=>Fe c.toNat)=true));case atStart=>exact ⟨0,rfl,Xl,rfl,rfl,by show _=_;simp⟩
   case round=>
    obtain ⟨k,BR,hk,rfl,rfl,hF⟩:=hrel;have Cs:=Aa BR;clear BR;by_cases hlt:k<l.length
    ·have hb:=l[k].toNat_lt;have Hs:=Aa (TV l k hlt);by_cases a1:97≤l[k].toNat
     ·by_cases a2:l[k].toNat≤122
      ·have HG:Hid (Fe l[k].toNat=true):=XF a1 a2;exact Zd4
      ·have HG:Hid (Fe l[k].toNat=false):=Nv Xl Xl Xl;have q:((l[k].toNat:Int)==95)=false:=by simp;omega
       have d1:decide ((l[k].toNat:Int)≤122)=false:=by simp;omega
       have d2:decide ((l[k].toNat:Int)≤57)=false:=by simp;omega
       have HI:Hid (DJ l=false):=by show _=_;unfold DJ;rw [Ip (k:=k+1) Zc6];simp
       go_wp2;go_ret;rw [HI.Ab];exact ⟨rfl,rfl⟩
     ·by_cases a2:48≤l[k].toNat
      ·by_cases a3:l[k].toNat≤57
       ·have HG:Hid (Fe l[k].toNat=true):=ZC a2 a3;exact Zd4
       ·by_cases a4:l[k].toNat=95
        ·exact Zv3
        ·have HG:Hid (Fe l[k].toNat=false):=Nv Xl Xl a4;have d2:decide ((l[k].toNat:Int)≤57)=false:=by simp;omega
         have q:((l[k].toNat:Int)==95)=false:=by simp;omega
         clear a4;have HI:Hid (DJ l=false):=by show _=_;unfold DJ;rw [Ip (k:=k+1) Zc6];simp
         go_wp2;go_ret;rw [HI.Ab];exact ⟨rfl,rfl⟩
      ·have HG:Hid (Fe l[k].toNat=false):=Nv Xl Xl Xl;have q:((l[k].toNat:Int)==95)=false:=by simp;omega
       have HI:Hid (DJ l=false):=by show _=_;unfold DJ;rw [Ip (k:=k+1) Zc6];simp
       go_wp2;go_ret;rw [HI.Ab];exact ⟨rfl,rfl⟩
    ·have HI:Hid (DJ l=true):=by
      show _=_;have:=hF.Ab;rw [EU Xl] at this;unfold DJ;rw [this];simp;omega
     clear hF;go_wp2;go_ret;rw [HI.Ab];exact ⟨rfl,rfl⟩
end Go.Proofs.YtijplolmkcdflaaGreat
namespace Go.Proofs.YtijplolmkcdflaaGreat
open Tryz
open Go.RowKit
attribute [local go_sem] WJ
abbrev tx (l:List UInt8):Value:=.string ⟨l.toArray⟩
def TxOk (ts:List (List UInt8)):Prop:=∀ t ∈ ts,t.length≤9223372036854775807
theorem Rd.tx {w:World} {A:Option Addr} {n k:Nat} {ts:List (List UInt8)} (h:Rd w 1 A n (ts.map tx)) (hk:k<n):
 ∃ ad t,A=some ad∧ts[k]?=some t∧w.cell? (ad.add k)=some (.string ⟨t.toArray⟩):=by
 obtain ⟨ad,u,e,_,hx,hc⟩:=Reads.at_ h hk;rw [Ed] at hx;cases hz:ts[k]? with
 |none=>rw [hz] at hx;cases hx
 |some z=>
  rw [hz] at hx;simp at hx;subst hx;exact ⟨ad,z,e,rfl,hc⟩
def rowFrom (p:Option (List UInt8)):List (List UInt8)→Int
 |[]=>0
 |t::r=>if isTerm t then (if (p.any fun q=>!Op.bytesLess q t) then 4 else rowFrom (some t) r) else 2
def Cr (ts:List (List UInt8)):Int:=rowFrom none ts
theorem GL {ts:List (List UInt8)} {k:Nat} {t:List UInt8} {p:Option (List UInt8)} (h:ts[k]?=some t):
 rowFrom p (ts.drop k)=if isTerm t then (if (p.any fun q=>!Op.bytesLess q t) then 4 else rowFrom (some t) (ts.drop (k+1))) else 2:=by
 obtain ⟨hk,rfl⟩:=CB.1 h;rw [Eg hk]
 rfl
theorem Za9 {p:Prop} (h:p:=by have:=hlen.Ab;omega):p:=h
theorem Rq (A:Option Addr) (n c:Nat) (ts:List (List UInt8)) (w:World) (hr:Rd w 1 A n (ts.map tx)) (ht:TxOk ts) (hn:n≤100000):
 Calls prog 193 #[.slice A n c] w fun e w'=>e=.returned (.int .i64 (Cr ts))∧w=w':=by
 have hlen:Hid (ts.length=n):=by have:=hr.len;show _=_;simpa using this
 have Ht:=Aa ht;clear ht;go_enter func193,ntmps193;go_wp2;go_loopg [8] n (fun g i wr=>∃ k:Nat,g=n - k∧k≤n∧i=.int .i64 k∧wr=w∧Hid (Cr ts=rowFrom (if k=0 then none else ts[k - 1]?) (ts.drop k)));case atStart=>exact ⟨0,rfl,Xl,rfl,rfl,rfl⟩
 case round=>
  obtain ⟨k,BR,hk,rfl,rfl,hF⟩:=hrel;have Cs:=Aa BR;clear BR;by_cases hlt:k<n
  ·obtain ⟨ad,t,rfl,htk,hc⟩:=hr.tx hlt;have hl0:t.length≤9223372036854775807:=Ht t (CU htk);have Htk:=Aa htk;clear htk;cases hT:isTerm t with
   |false=>
    have HR:Hid (Cr ts=2):=by show _=_;rw [hF.Ab,GL Htk.Ab,hT];rfl
    clear hF;go_wp2_with fail;refine (JJ _ _ hl0).mono ?_;rintro e w1 ⟨rfl,rfl⟩;rw [hT];go_wp2;go_ret;rw [HR.Ab];exact ⟨rfl,rfl⟩
   |true=>
    by_cases k0:k=0
    ·subst k0;have hc0:wr.cell? ad=some (.string ⟨t.toArray⟩):=hc;have HR:Hid (Cr ts=rowFrom (if 0+1=0 then none else ts[0+1 - 1]?) (ts.drop (0+1))):=by
      show _=_;rw [hF.Ab,GL Htk.Ab,hT];simp [Htk.Ab]
     clear hF;go_wp2_with fail;refine (JJ _ _ hl0).mono ?_;rintro e w1 ⟨rfl,rfl⟩;rw [hT];go_wp2;go_roundg (n - (0+1));case rel=>exact ⟨0+1,rfl,Xl,by go_num,rfl,HR⟩
     case measure=>rw [Cs.Ab];omega
    ·obtain ⟨ad',q,e,hq,hcq⟩:=hr.tx (k:=k - 1) Xl;injection e with e;subst e;have Hq:=Aa hq;clear hq;have e1:((k:Int) - 1).toNat=k - 1:=by omega
     have k1:decide (0<(k:Int))=true:=by simp;omega
     have wr1:IntKind.i64.wrap ((k:Int) - 1)=(k:Int) - 1:=IB _ Xl;cases hL:Op.bytesLess q t with
     |true=>
      have HR:Hid (Cr ts=rowFrom (if k+1=0 then none else ts[k+1 - 1]?) (ts.drop (k+1))):=by
       show _=_;rw [hF.Ab,GL Htk.Ab,hT,Ak k0,Hq.Ab];simp [Htk.Ab,hL]
      clear hF;go_wp2_with fail;refine (JJ _ _ hl0).mono ?_;rintro e w1 ⟨rfl,rfl⟩;rw [hT];go_wp2;go_roundg (n - (k+1));case rel=>exact ⟨k+1,rfl,Xl,by go_num,rfl,HR⟩
      case measure=>rw [Cs.Ab];omega
     |false=>
      have HR:Hid (Cr ts=4):=by
       show _=_;rw [hF.Ab,GL Htk.Ab,hT,Ak k0,Hq.Ab];simp [hL]
      clear hF;go_wp2_with fail;refine (JJ _ _ hl0).mono ?_;rintro e w1 ⟨rfl,rfl⟩;rw [hT];go_wp2;go_ret;rw [HR.Ab];exact ⟨rfl,rfl⟩
  ·have HR:Hid (Cr ts=0):=by show _=_;rw [hF.Ab,EN Za9];rfl
   clear hF;go_wp2;go_ret;rw [HR.Ab];exact ⟨rfl,rfl⟩
end Go.Proofs.YtijplolmkcdflaaGreat
namespace Go.Proofs.YtijplolmkcdflaaGreat
open Tryz
open Go.RowKit
attribute [local go_sem] WJ Ru
def Dc (l:List UInt8):List UInt8:=Cx l.length++l
theorem Jt (x:Int) (w:World) (h0:-9223372036854775808≤x) (h1:x≤9223372036854775807):
 Calls prog 123 #[.int .i64 x] w fun e w'=>e=.returned (.string ⟨(Cx x.toNat).toArray⟩)∧Ai w w':=by
 by_cases h:0≤x
 ·have hm:max x 0=x:=by omega
  go_enter func123,ntmps123;go_wp2_with fail;refine (kY _ _ Xl Xl).mono ?_;rintro e w1 ⟨rfl,hb⟩;go_wp2;go_ret;exact ⟨rfl,hb⟩
 ·have hm:max x 0=0:=by omega
  have Hx:Hid (x.toNat=0):=by show _=_;omega
  rw [Hx.Ab];go_enter func123,ntmps123;go_wp2_with fail;refine (kY _ _ Xl Xl).mono ?_;rintro e w1 ⟨rfl,hb⟩;go_wp2;go_ret;exact ⟨rfl,hb⟩
theorem OA (l:List UInt8) (w:World) (hl:l.length≤1000000000):
 Calls prog 165 #[.string ⟨l.toArray⟩] w fun e w'=>e=.returned (.string ⟨(Dc l).toArray⟩)∧Ai w w':=by
 have hpl:(Cx l.length).length≤9:=by rw [Fz];exact IY _
 go_enter func165,ntmps165;go_wp2_with fail;refine (Jt _ _ Xl Xl).mono ?_;rintro e w1 ⟨rfl,hb⟩;rw [Db];go_wp2;go_ret;rw [Ch];exact ⟨rfl,hb⟩
def alike:List UInt8→List UInt8→Nat
 |a::x,b::y=>if a=b then alike x y+1 else 0
 |_,_=>0
theorem Sm (x y:List UInt8):alike x y≤x.length∧alike x y≤y.length:=by
 induction x generalizing y with
 |nil=>simp [alike]
 |cons a x ih=>
  cases y with
  |nil=>simp [alike]
  |cons b y=>
   rw [alike];have:=ih y;split<;>simp<;>omega
theorem dO {x y:List UInt8} {k:Nat} (h1:k<x.length) (h2:k<y.length) (h:x[k]=y[k]):alike (x.drop k) (y.drop k)=alike (x.drop (k+1)) (y.drop (k+1))+1:=by
 rw [Eg h1,Eg h2,alike,Al h]
theorem dN {x y:List UInt8} {k:Nat} (h1:k<x.length) (h2:k<y.length) (h:¬ x[k]=y[k]):alike (x.drop k) (y.drop k)=0:=by
 rw [Eg h1,Eg h2,alike,Ak h]
theorem Td {x y:List UInt8} {k:Nat} (h:x.length≤k∨y.length≤k):alike (x.drop k) (y.drop k)=0:=by
 have:=Sm (x.drop k) (y.drop k);rw [Ih,Ih] at this;omega
theorem Qd (x y:List UInt8) (w:World) (hx:x.length≤9223372036854775807) (hy:y.length≤9223372036854775807):
 Calls prog 177 #[.string ⟨x.toArray⟩,.string ⟨y.toArray⟩] w fun e w'=>e=.returned (.int .i64 (alike x y:Nat))∧Ai w w':=by
 go_enter func177,ntmps177;go_wp2;go_loopg [5] x.length (fun g i wr=>∃ k:Nat,g=x.length - k∧k≤x.length∧k≤y.length∧i=.int .i64 k∧Ai w wr∧Hid (alike x y=k+alike (x.drop k) (y.drop k)));case atStart=>exact ⟨0,rfl,Xl,Xl,rfl,Ai.refl _,by show _=_;simp⟩
 case round=>
  obtain ⟨k,BR,hkx,hky,rfl,hB,hF⟩:=hrel;have Cs:=Aa BR;clear BR;by_cases a1:k<x.length
  ·by_cases a2:k<y.length
   ·by_cases a3:x[k]=y[k]
    ·have HR:Hid (alike x y=(k+1)+alike (x.drop (k+1)) (y.drop (k+1))):=by show _=_;rw [hF.Ab,dO a1 a2 a3];omega
     have e3:((x[k].toNat:Int)==(y[k].toNat:Int))=true:=by rw [a3];simp
     have e4:(x[k].toNat==y[k].toNat)=true:=by rw [a3];simp
     clear a3 hF;go_wp2_with fail;go_quiet (fail);go_wp2;go_roundg (x.length - (k+1));case rel=>exact ⟨k+1,rfl,Xl,Xl,by go_num,hB.drewN _,HR⟩
     case measure=>rw [Cs.Ab];omega
    ·have HR:Hid (alike x y=k):=by show _=_;rw [hF.Ab,dN a1 a2 a3];omega
     have e5:¬ x[k].toNat=y[k].toNat:=fun h=>a3 (UInt8.toNat_inj.1 h)
     have e3:((x[k].toNat:Int)==(y[k].toNat:Int))=false:=by simp;omega
     have e4:(x[k].toNat==y[k].toNat)=false:=by simp;omega
     clear a3 e5 hF;go_wp2_with fail;go_quiet (fail);go_wp2;go_ret;rw [HR.Ab];exact ⟨rfl,hB.drewN _⟩
   ·have HR:Hid (alike x y=k):=by show _=_;rw [hF.Ab,Td (.inr Xl)];omega
    have d2:decide ((k:Int)<(y.length:Int))=false:=by simp;omega
    have d3:decide (k<y.length)=false:=by simp;omega
    clear hF;go_wp2_with fail;go_quiet (fail);go_wp2;go_ret;rw [HR.Ab];exact ⟨rfl,hB.drewN _⟩
  ·have HR:Hid (alike x y=k):=by show _=_;rw [hF.Ab,Td (.inl Xl)];omega
   have d2:decide ((k:Int)<(x.length:Int))=false:=by simp;omega
   have d3:decide (k<x.length)=false:=by simp;omega
   clear hF;go_wp2_with fail;go_quiet (fail);go_wp2;go_ret;rw [HR.Ab];exact ⟨rfl,hB.drewN _⟩
def La:List UInt8→List (List UInt8)→List UInt8
 |_,[]=>[]
 |was,t::r=>(Cx (alike was t)++Dc (t.drop (alike was t)))++La t r
def LW (ts:List (List UInt8)):List UInt8:=Cx ts.length++La [] ts
def XB (ts:List (List UInt8)):List UInt8 × Int:=if Cr ts=0 then (LW ts,0) else ([],Cr ts)
theorem Zr {ts:List (List UInt8)} {k:Nat} {t was:List UInt8} (h:ts[k]?=some t):
 La was (ts.drop k)=(Cx (alike was t)++Dc (t.drop (alike was t)))++La t (ts.drop (k+1)):=by
 obtain ⟨hk,rfl⟩:=CB.1 h;rw [Eg hk]
 rfl
theorem eQ {ts:List (List UInt8)} {p:Option (List UInt8)} (h:rowFrom p ts=0):∀ t ∈ ts,isTerm t=true:=by
 induction ts generalizing p with
 |nil=>simp
 |cons t r ih=>
  rw [rowFrom] at h;split at h
  ·rename_i ht;split at h
   ·cases h
   ·intro u hu;rcases FJ.1 hu with rfl|hu
    ·exact ht
    ·exact ih h u hu
  ·cases h
theorem II {ts:List (List UInt8)} (h:Cr ts=0) {t:List UInt8} (ht:t ∈ ts):t.length≤16:=by
 have:=eQ h t ht;unfold isTerm at this;simp at this;omega
theorem Cc (n:Nat):(Cx n).length≤9:=by rw [Fz];exact IY _
theorem l7 (q t:List UInt8):(Op.bytesLess t q||t==q)=!Op.bytesLess q t:=by
 induction t generalizing q with
 |nil=>cases q<;>simp [Op.bytesLess]
 |cons a t ih=>
  cases q with
  |nil=>simp [Op.bytesLess]
  |cons b q=>
   have h:=ih q;simp only [Op.bytesLess];rcases kC a.toNat b.toNat with h1|h1|h1
   ·have x1:a<b:=h1;have x2:¬ b<a:=fun h=>by have:b.toNat<a.toNat:=h;omega
    have x3:b≠a:=fun h=>by subst h;omega
    simp [x1,x2,x3]
   ·have x1:a=b:=UInt8.toNat_inj.1 h1;subst x1;simp only [UInt8.lt_irrefl,decide_false,Bool.false_or,beq_self_eq_true,YT];rw [←h];simp
   ·have x1:b<a:=h1;have x2:¬ a<b:=fun h=>by have:a.toNat<b.toNat:=h;omega
    have x3:a≠b:=fun h=>by subst h;omega
    simp [x1,x2,x3]
theorem Ac7 (A:Option Addr) (n c:Nat) (ts:List (List UInt8)) (w:World) (hr:Rd w 1 A n (ts.map tx)) (ht:TxOk ts) (hn:n≤100000):
 Calls prog 202 #[.slice A n c] w fun e w'=>e=.returned (.tuple #[.string ⟨(XB ts).1.toArray⟩,.int .i64 (XB ts).2])∧Ai w w':=by
 have hlen:Hid (ts.length=n):=by have:=hr.len;show _=_;simpa using this
 have Ht:=Aa ht;by_cases hE:Cr ts=0
 ·have HV:Hid (XB ts=(LW ts,0)):=by show _=_;unfold XB;rw [Al hE]
  rw [HV.Ab];have HE:=Aa hE;have hpn:(Cx n).length≤9:=Cc _;go_enter func202,ntmps202;go_wp2_with fail;refine (Rq A n c ts _ hr ht Xl).mono ?_;rintro e w1 ⟨rfl,rfl⟩;rw [HE.Ab];clear hE ht;go_wp2_with fail;refine (Jt _ _ Xl Xl).mono ?_;rintro e w1 ⟨rfl,hb⟩;rw [Db];have HO:Hid (LW ts=Cx n++La [] (ts.drop 0)):=by show _=_;unfold LW;rw [hlen.Ab];rfl
  go_wp2;go_loopg [5,6,20] n (fun g o s i wr=>∃ (k:Nat) (l was:List UInt8),g=n - k∧k≤n∧i=.int .i64 k∧o=.string ⟨l.toArray⟩∧s=.string ⟨was.toArray⟩∧was.length≤16∧l.length≤9+34 * k∧Ai w wr∧Hid (LW ts=l++La was (ts.drop k)));case atStart=>exact ⟨0,Cx n,[],rfl,Xl,rfl,rfl,rfl,uH,Xl,hb,HO⟩
  case round=>
   obtain ⟨k,l,was,BR,hk,rfl,rfl,rfl,hwas,hll,hB,hF⟩:=hrel;have Cs:=Aa BR;clear BR;by_cases hlt:k<n
   ·obtain ⟨ad,t,rfl,htk,hc⟩:=(hr.Av hB).tx hlt;have hl0:t.length≤16:=II HE (CU htk);have HR:Hid (LW ts=(l++(Cx (alike was t)++Dc (t.drop (alike was t))))++La t (ts.drop (k+1))):=by show _=_;rw [hF.Ab,Zr htk];simp only [Ef]
    clear htk hF;obtain ⟨hal1,hal2⟩:=Sm was t;go_wp2_with fail;refine (Qd _ _ _ Xl Xl).mono ?_;rintro e w2 ⟨rfl,hb2⟩;replace hB:=hB.trans hb2;generalize alike was t=m at *;have hpm:(Cx m).length≤9:=Cc _;have hpt:(Dc (t.drop m)).length≤9+(t.drop m).length:=by unfold Dc;rw [Cn];have:=Cc (t.drop m).length;omega
    rw [Ih] at hpt;have c1:(0:Int)≤(m:Int):=by omega
    have c2:(m:Int)≤(t.length:Int):=by omega
    go_wp2_with fail;refine Am ?_;repeat (go_big_quiet_step (first|(go_at_call 123;exact AB (Jt _ _ Xl Xl))|(go_at_call 165;exact AB (OA _ _ Za3))))
    refine CS ?_;rintro _ ⟨u,rfl⟩;replace hB:=hB.trans u.Av;go_wp2;go_roundg (n - (k+1));case rel=>exact ⟨k+1,_,t,rfl,Xl,by go_num,by rw [Ch,Ch],rfl,hl0,by simp only [Cn];omega,hB,HR⟩
    case measure=>rw [Cs.Ab];omega
   ·have HR:Hid (LW ts=l):=by show _=_;rw [hF.Ab,EN Za9];simp [La]
    clear hF;go_wp2;go_ret2;rw [HR.Ab];exact ⟨rfl,hB⟩
 ·have HV:Hid (XB ts=([],Cr ts)):=by show _=_;unfold XB;rw [Ak hE]
  rw [HV.Ab];have hE2:(Cr ts !=0)=true:=by simp [hE]
  go_enter func202,ntmps202;go_wp2_with fail;refine (Rq A n c ts _ hr ht Xl).mono ?_;rintro e w1 ⟨rfl,rfl⟩;clear hE ht;go_wp2;go_ret2;exact ⟨rfl,Ai.refl _⟩
theorem Zt0 {p:Prop} (h:p:=by
 go_wp2_with fail;go_quiet (fail);go_wp2;go_roundg (n - (k+1));case rel=>exact ⟨k+1,rfl,Xl,by go_num,hB.drewN _,HR⟩
 case measure=>rw [Cs.Ab];omega
):p:=h
theorem WK (A:Option Addr) (n c:Nat) (ts:List (List UInt8)) (w:World) (hr:Rd w 1 A n (ts.map tx)) (ht:TxOk ts) (hn:n≤100000):
 Calls prog 52 #[.slice A n c] w fun e w'=>e=.returned (.int .i64 (Cr ts))∧Ai w w':=by
 have hlen:Hid (ts.length=n):=by have:=hr.len;show _=_;simpa using this
 have Ht:=Aa ht;clear ht;go_enter func52,ntmps52;go_wp2;go_loopg [3] n (fun g i wr=>∃ k:Nat,g=n - k∧k≤n∧i=.int .i64 k∧Ai w wr∧Hid (Cr ts=rowFrom (if k=0 then none else ts[k - 1]?) (ts.drop k)));case atStart=>exact ⟨0,rfl,Xl,rfl,Ai.refl _,rfl⟩
 case round=>
  obtain ⟨k,BR,hk,rfl,hB,hF⟩:=hrel;have Cs:=Aa BR;clear BR;by_cases hlt:k<n
  ·obtain ⟨ad,t,rfl,htk,hc⟩:=(hr.Av hB).tx hlt;have hl0:t.length≤9223372036854775807:=Ht t (CU htk);have Htk:=Aa htk;clear htk;cases hT:isTerm t with
   |false=>
    have HR:Hid (Cr ts=2):=by show _=_;rw [hF.Ab,GL Htk.Ab,hT];rfl
    clear hF;go_wp2_with fail;refine (WV _ _ hl0).mono ?_;rintro e w1 ⟨rfl,rfl⟩;rw [hT];go_wp2;go_ret;rw [HR.Ab];exact ⟨rfl,hB⟩
   |true=>
    by_cases k0:k=0
    ·subst k0;have hc0:wr.cell? ad=some (.string ⟨t.toArray⟩):=hc;have HR:Hid (Cr ts=rowFrom (if 0+1=0 then none else ts[0+1 - 1]?) (ts.drop (0+1))):=by
      show _=_;rw [hF.Ab,GL Htk.Ab,hT];simp [Htk.Ab]
     clear hF;go_wp2_with fail;refine (WV _ _ hl0).mono ?_;rintro e w1 ⟨rfl,rfl⟩;rw [hT];go_wp2_with fail;go_quiet (fail);go_wp2;go_roundg (n - (0+1));case rel=>exact ⟨0+1,rfl,Xl,by go_num,hB.drewN _,HR⟩
     case measure=>rw [Cs.Ab];omega
    ·obtain ⟨ad',q,e,hq,hcq⟩:=(hr.Av hB).tx (k:=k - 1) Xl;injection e with e;subst e;have Hq:=Aa hq;clear hq;have e1:((k:Int) - 1).toNat=k - 1:=by omega
     have k1:decide (0<(k:Int))=true:=by simp;omega
     have k2:decide (0<k)=true:=by simp;omega
     have wr1:IntKind.i64.wrap ((k:Int) - 1)=(k:Int) - 1:=IB _ Xl;have hle:=l7 q t;cases hL:Op.bytesLess q t with
     |true=>
      have HR:Hid (Cr ts=rowFrom (if k+1=0 then none else ts[k+1 - 1]?) (ts.drop (k+1))):=by
       show _=_;rw [hF.Ab,GL Htk.Ab,hT,Ak k0,Hq.Ab];simp [Htk.Ab,hL]
      clear hF;rw [hL] at hle;go_wp2_with fail;refine (WV _ _ hl0).mono ?_;rintro e w1 ⟨rfl,rfl⟩;rw [hT];exact Zt0
     |false=>
      have HR:Hid (Cr ts=4):=by
       show _=_;rw [hF.Ab,GL Htk.Ab,hT,Ak k0,Hq.Ab];simp [hL]
      clear hF;rw [hL] at hle;go_wp2_with fail;refine (WV _ _ hl0).mono ?_;rintro e w1 ⟨rfl,rfl⟩;rw [hT];go_wp2_with fail;go_quiet (fail);go_wp2;go_ret;rw [HR.Ab];exact ⟨rfl,hB.drewN _⟩
  ·have HR:Hid (Cr ts=0):=by show _=_;rw [hF.Ab,EN Za9];rfl
   clear hF;go_wp2;go_ret;rw [HR.Ab];exact ⟨rfl,hB⟩
end Go.Proofs.YtijplolmkcdflaaGreat
namespace Go.Proofs.YtijplolmkcdflaaGreat
open Tryz
open Go.RowKit
theorem gT (s:List UInt8) (t k n:Int) (is:Bool) (hk:k≠0) (w:World):
 Calls prog 113 #[Iz s t k,.bool is,.int .i64 n] w fun e w'=>e=.returned (Iz s t k)∧Ai w w':=by
 have d:(k==0)=false:=by simpa using hk
 clear hk;go_enter func113,ntmps113;go_wp2;refine Bc (v:=Iz s t k) (by simp [results,Tryz.results113,go_sem]) rfl ⟨rfl,?_⟩;exact ((Ai.refl w).alloc _).alloc _
theorem gQ (s:List UInt8) (t n:Int) (w:World):
 Calls prog 113 #[Iz s t 0,.bool true,.int .i64 n] w fun e w'=>e=.returned (Iz s t 0)∧Ai w w':=by
 go_enter func113,ntmps113;go_wp2;refine Bc (v:=Iz s t 0) (by simp [results,Tryz.results113,go_sem]) rfl ⟨rfl,?_⟩;exact ((Ai.refl w).alloc _).alloc _
theorem oK (s:List UInt8) (t n:Int) (w:World):
 Calls prog 113 #[Iz s t 0,.bool false,.int .i64 n] w fun e w'=>e=.returned (Iz s t (Gr n))∧Ai w w':=by
 by_cases hn:n=0
 ·subst hn;go_enter func113,ntmps113;go_wp2;refine Bc (v:=Iz s t 3) (by simp [results,Tryz.results113,go_sem]) rfl ⟨rfl,?_⟩;exact ((Ai.refl w).alloc _).alloc _
 ·have HN:Hid (Gr n=n):=by show _=_;unfold Gr;rw [Ak hn]
  have d:(n==0)=false:=by simpa using hn
  clear hn;go_enter func113,ntmps113;go_wp2;refine Bc (v:=Iz s t n) (by simp [results,Tryz.results113,go_sem]) rfl ⟨by rw [HN.Ab],?_⟩;exact ((Ai.refl w).alloc _).alloc _
def Io (s:List UInt8) (t k:Int):Int:=if k≠0 then k else if t=s.length then 0 else 3
theorem Rz (s:List UInt8) (t k:Int) (w:World):
 Calls prog 71 #[Iz s t k] w fun e w'=>e=.returned (.int .i64 (Io s t k))∧Ai w w':=by
 have hfl:∀ (s:List UInt8) (t k:Int) (w:World),(Instr.field 141 (Iz s t k) 2).run prog w=.ok (.int .i64 k) w:=fun _ _ _ _=>by kernel_rfl
 by_cases hk:k=0
 ·subst hk;by_cases ht:t=s.length
  ·subst ht;have HE:Hid (Io s s.length 0=0):=by show _=_;unfold Io;simp
   go_enter func71,ntmps71;go_wp2_with fail;refine (gQ s _ _ _).mono ?_;rintro e w1 ⟨rfl,hb1⟩;go_wp2;go_ret;exact ⟨by rw [HE.Ab];rfl,((Ai.refl w).alloc _).trans hb1⟩
  ·have HE:Hid (Io s t 0=3):=by show _=_;unfold Io;simp [ht]
   have d:(t==(s.length:Int))=false:=by simpa using ht
   clear ht;go_enter func71,ntmps71;go_wp2_with fail;refine (oK s _ _ _).mono ?_;rintro e w1 ⟨rfl,hb1⟩;go_wp2;go_ret;exact ⟨by rw [HE.Ab];rfl,((Ai.refl w).alloc _).trans hb1⟩
 ·have HE:Hid (Io s t k=k):=by show _=_;unfold Io;simp [hk]
  have HK:Hid (k≠0):=hk;clear hk;go_enter func71,ntmps71;go_wp2_with fail;refine (gT s _ _ _ _ HK _).mono ?_;rintro e w1 ⟨rfl,hb1⟩;go_wp2;go_ret;exact ⟨by rw [HE.Ab];rfl,((Ai.refl w).alloc _).trans hb1⟩
theorem Jr (x:Int) (w:World) (h0:-9223372036854775808≤x) (h1:x≤9223372036854775807):
 Calls prog 29 #[.int .i64 x] w fun e w'=>e=.returned (.string ⟨(Cx x.toNat).toArray⟩)∧Ai w w':=by
 by_cases h:x<0
 ·have e0:Hid (x.toNat=0):=by show _=_;omega
  go_enter func29,ntmps29;go_wp2_with fail;refine (Vv 0 _ Xl Xl).mono ?_;rintro e w1 ⟨rfl,hb1⟩;go_wp2;go_ret;exact ⟨by rw [e0.Ab];rfl,hb1⟩
 ·have wx:IntKind.u64.wrap x=x:=IntWalk.u64_in _ Xl;have d:decide (x<0)=false:=by simp;omega
  go_enter func29,ntmps29;go_wp2_with fail;refine (Vv x _ Xl Xl).mono ?_;rintro e w1 ⟨rfl,hb1⟩;go_wp2;go_ret;exact ⟨rfl,hb1⟩
theorem Nj (l:List UInt8) (w:World) (hl:l.length≤1000000000):
 Calls prog 30 #[.string ⟨l.toArray⟩] w fun e w'=>e=.returned (.string ⟨(Dc l).toArray⟩)∧Ai w w':=by
 have hpl:(Cx l.length).length≤9:=by rw [Fz];exact IY _
 go_enter func30,ntmps30;go_wp2_with fail;refine (Jr (l.length:Int) _ Xl Xl).mono ?_;rintro e w1 ⟨rfl,hb1⟩;rw [Db];go_wp2;go_ret;rw [Ch];exact ⟨rfl,hb1⟩
theorem KO (x:Int) (w:World) (h0:-9223372036854775808≤x) (h1:x≤9223372036854775807):
 Calls prog 124 #[.int .i64 x] w fun e w'=>e=.returned (.string ⟨(Cx (FV x)).toArray⟩)∧Ai w w':=by
 go_enter func124,ntmps124;go_wp2_with fail;refine (wT x _ h0 h1).mono ?_;rintro e w1 ⟨rfl,hb1⟩;go_wp2;go_ret;exact ⟨rfl,hb1⟩
structure Od (w0:World) (B:Nat) (s l:List UInt8) (w:World):Prop where
 Av:Ai w0 w
 hB:w0.heap.size≤B
 e:Bh w B 45 #[.int .i64 0]
 p:Bh w (B+2) 166 #[.pointer (some ⟨B+1,0,none⟩)]
 r:Ir w (B+1) s l
section
variable {w0 w w' : World} {B : Nat} {s l l' : List UInt8}
theorem Od.read (h:Od w0 B s l w) (hg:w.grownBy w' (some (B+1))) (hr:Ir w' (B+1) s l'):Od w0 B s l' w':=
 ⟨h.Av.DN hg (by have:=h.hB;omega),h.hB,h.e.grown hg uH,h.p.grown hg uH,hr⟩
theorem Od.more (h:Od w0 B s l w) (hb:Ai w w'):Od w0 B s l w':=⟨h.Av.trans hb,h.hB,h.e.Av hb,h.p.Av hb,h.r.Av hb⟩
theorem Od.kept (h:Od w0 B s l w) {g:Nat} (hg:w.grownBy w' (some g)) (h0:w0.heap.size≤g) (h1:g≠B) (h2:g≠B+1) (h3:g≠B+2):Od w0 B s l w':=
 ⟨h.Av.DN hg h0,h.hB,h.e.grown hg Za3,h.p.grown hg Za3,h.r.grown hg Za3⟩
theorem Od.ok {R:Int→World→Prop} (h:Od w0 B s l w) (hR:R (if l=[] then 0 else 3) w):Nu B s R (.returned (.tuple #[])) w:=⟨h.e,h.p,.inr ⟨l,rfl,h.r,hR⟩⟩
theorem Od.err {R:Int→World→Prop} {k:Int} (h:Od w0 B s l w) (hR:R k w):Nu B s R (.panicked (flt k)) w:=⟨h.e,h.p,.inl ⟨k,rfl,⟨l,h.r⟩,hR⟩⟩
theorem Od.begin {w w1:World} (h0:Ai w0 w) (h1:Ai w w1) (h2:Ir w1 (w.heap.size+1) s l) (h3:Bh w1 w.heap.size 45 #[.int .i64 0]) (h4:Bh w1 (w.heap.size+2) 166 #[.pointer (some ⟨w.heap.size+1,0,none⟩)]):Od w0 w.heap.size s l w1:=
 ⟨h0.trans h1,h0.size,h3,h4,h2⟩
end
theorem mH {F:FuncId} {fn:Func} (hf:prog.funcs[F]?=some fn) (hb:fn.body.isNone=false) (hn:(fn.name== "runtime.NumGoroutine")=false) (args:Array Value) (w:World):(callFunc F args).run prog w=.ok (.enter F args) w:=by
 have h1:fn.name≠ "runtime.NumGoroutine":=by simpa using hn
 have h2:fn.body≠none:=by intro e;rw [e] at hb;cases hb
 simp [callFunc,go_sem,hf,h1,h2]
theorem Az {P:Program} {w:World} {ops:Array Oper} {rest:List Oper} {o:Oper} {a:Act} {Q:Exit→Act→World→Prop} (hgd:o.guard=none) (s x:Operand) (t:TypeId)
 (ho:o.op=.call { callee:=.builtin .append,args:=#[s,x],argTypes:=#[t,t] })
 {e:TypeId} {size bytes:Nat} (E:Cy P t e size bytes) (base:Nat) (hB:base≤w.heap.size)
 (v:Value) (n:Nat) (xs:List Value) (hs:a.eval s=v) (hown:w.ownsRow base e size v n xs)
 (A:Option Addr) (m c:Nat) (news:List Value) (hx:a.eval x=.slice A m c) (hr:Rd w size A m news) (h1:∀ u ∈ news,u.oneCell'=true)
 (h63:n+m≤maxLen) (hbytes:(n+m) * bytes≤140737488355328)
 (h:∀ v' w',w'.ownsRow base e size v' (n+m) (xs++news)→w.grownBy w' v.ownBlock→(v'.ownBlock=v.ownBlock∨v'.ownBlock=some w.heap.size)→wpList P ops Q rest (a.put o.dst v') w'):wpList P ops Q (o::rest) a w:=by
 obtain ⟨i,z,hi,hz,hsz,hby,hzs⟩:=E.hi;exact Rk hgd fun _ hK=>OX w s x t ho base e i z size bytes E.ht hi hz hsz hby hzs E.pos v n xs hs hown w.heap.size A m c news hx hr h1 h63 hbytes hB fun v' w' h2 h3 h4=>hK _ _ (h v' w' h2 h3 h4)
def IG (was l:List UInt8):PR (List UInt8):=
 match DD was.length l with
 |.error k=>.error k
 |.ok (k,r)=>
  match Dp 16 r with
  |.error e=>.error e
  |.ok (x,r2)=>if isTerm (was.take k++x) && (alike was (was.take k++x)==k) && Op.bytesLess was (was.take k++x) then .ok (was.take k++x,r2) else .error 3
def Gv:List UInt8→Nat→List UInt8→PR (List (List UInt8))
 |_,0,l=>.ok ([],l)
 |was,n+1,l=>
  match IG was l with
  |.error e=>.error e
  |.ok (s,r)=>
   match Gv s n r with
   |.error e=>.error e
   |.ok (ts,r2)=>.ok (s::ts,r2)
def tread (most:Int) (l:List UInt8):PR (List (List UInt8)):=
 match DD most l with
 |.error k=>.error k
 |.ok (n,r)=>Gv [] n r
def ahead (ds:List (List UInt8)) (o:PR (List (List UInt8))):PR (List (List UInt8)):=
 match o with
 |.error e=>.error e
 |.ok (ts,r)=>.ok (ds++ts,r)
theorem jO (o:PR (List (List UInt8))):ahead [] o=o:=by
 rcases o with e|⟨ts,r⟩<;>rfl
theorem dP {ds:List (List UInt8)} {was l s r:List UInt8} {n:Nat} (h:IG was l=.ok (s,r)):ahead ds (Gv was (n+1) l)=ahead (ds++[s]) (Gv s n r):=by
 simp only [Gv,h];rcases Gv s n r with e|⟨ts,r2⟩
 ·rfl
 ·simp [ahead]
theorem PK {ds:List (List UInt8)} {was l:List UInt8} {n:Nat} {e:Int} (h:IG was l=.error e):ahead ds (Gv was (n+1) l)=.error e:=by
 simp only [Gv,h]
 rfl
theorem zW {most:Int} {l r:List UInt8} {n:Nat} (h:DD most l=.ok (n,r)):r.length+1≤l.length:=by
 have h1:=Ux l;rcases KD (most:=most) (l:=l) with ⟨e,_⟩|⟨n',z,hn,hz,_,⟨e,_⟩|⟨e,h2,h3⟩⟩
 ·rw [h] at e;cases e
 ·rw [h] at e;cases e
 ·rw [h] at e;injection e with e;injection e with e1 e2;subst e2;rw [hn] at h1;have:=h1.2.2 rfl;simp only [Ih] at *;omega
theorem Mj {most:Int} {l x r:List UInt8} (h:Dp most l=.ok (x,r)):(x.length:Int)≤most∧r.length≤l.length:=by
 unfold Dp at h;split at h
 ·cases h
 ·rename_i n r1 hp;obtain ⟨_,h1,h2⟩:=ES hp;unfold NS at h;split at h
  ·cases h
  ·injection h with h;injection h with e1 e2;subst e1;subst e2;simp only [FK,Ih];omega
theorem YL (q t:List UInt8):(!Op.bytesLess t q && !(t==q))=Op.bytesLess q t:=by
 rw [←Bool.not_or,l7,Bool.not_not]
theorem FB:Cy prog 23 9 1 16:=Cy.mk' (z:=.string ⟨#[]⟩) underlying23 Za0 rfl Xl
structure Yv (w:World) (b:Nat) (s l:List UInt8) (v:Value) (ts:List (List UInt8)) (w':World):Prop where
 g:w.grownBy w' (some b)
 r:Ir w' b s l
 own:w'.ownsRow w.heap.size 9 1 v ts.length (ts.map tx)
theorem Yv.read {w w1 w2:World} {b:Nat} {s l l':List UInt8} {v:Value} {ts:List (List UInt8)} (h:Yv w b s l v ts w1) (hb:b<w.heap.size) (hg:w1.grownBy w2 (some b)) (hr:Ir w2 b s l'):Yv w b s l' v ts w2:=
 ⟨h.g.trans hg,hr,h.own.kept hg (by
  rcases ho:v.ownBlock with _|k
  ·exact .inl rfl
  ·refine .inr fun e=>?_;injection e with e;have:=(h.own.lt k ho).1;omega)⟩
theorem Yv.more {w w1 w2:World} {b:Nat} {s l:List UInt8} {v:Value} {ts:List (List UInt8)} (h:Yv w b s l v ts w1) (hb:Ai w1 w2):Yv w b s l v ts w2:=
 ⟨h.g.trans (EL hb _),h.r.Av hb,Ig h.own hb⟩
theorem Yv.app {w w1 w2:World} {b:Nat} {s l x:List UInt8} {v v':Value} {ts:List (List UInt8)} (h:Yv w b s l v ts w1) (hb:b<w.heap.size) (ho:w2.ownsRow w.heap.size 9 1 v' (ts.length+1) (ts.map tx++[tx x])) (hg:w1.grownBy w2 v.ownBlock):Yv w b s l v' (ts++[x]) w2:=
 ⟨h.g.andThen hg (fun j e=>.inl (h.own.lt j e).1),h.r.grown hg (fun e=>by have:=(h.own.lt b e.symm).1;omega),by simpa using ho⟩
def Aw9 (b:Nat) (s:List UInt8) (o:PR (List (List UInt8))) (w:World) (e:Ending) (w':World):Prop:=
 match o with
 |.error k=>Xm b s k w e w'
 |.ok (ts,l)=>∃ v,e=.returned v∧Yv w b s l v ts w'
theorem Zt5 {p:Prop} (h:p:=by refine (JB b s r2 3 _ H4.r).mono ?_;rintro e' w5 ⟨rfl,rfl⟩;go_wp2_with fail;refine ⟨rfl,?_⟩;rw [HN.Ab];exact ⟨rfl,H4.g,_,H4.r⟩):p:=h
theorem Za2 {p:Prop} (h:p:=by simp [Value.oneCell']):p:=h
theorem Zd6 {p:Prop} (h:p:=by have:=hdk.Ab;unfold maxLen;omega):p:=h
theorem Zd7 {p:Prop} (h:p:=by have:=hdk.Ab;omega):p:=h
theorem gD (b:Nat) (s l:List UInt8) (most:Int) (w:World) (hR:Ir w b s l) (m0:-9223372036854775808≤most) (m1:most≤9223372036854775807) (m2:most≤1000000):
 Calls prog 145 #[.pointer (some ⟨b,0,none⟩),.int .i64 most] w (Aw9 b s (tread most l) w):=by
 have hb:=hR.lt;have hlen:=hR.len;have HN:=Aa (IM b s l most w hR m0 m1);have HR:=Aa hR;clear hR;go_enter func145,ntmps145;go_wp2_with fail;cases hp:DD most l with
 |error k=>
  have HE:Hid (tread most l=.error k):=by show _=_;unfold tread;rw [hp]
  rw [hp] at HN;refine HN.mono ?_;rintro e w1 ⟨rfl,hg,hr⟩;clear hp;go_wp2;refine ⟨rfl,?_⟩;rw [HE.Ab];exact ⟨rfl,hg,hr⟩
 |ok q=>
  obtain ⟨n,r⟩:=q;have HE:Hid (tread most l=ahead [] (Gv [] n r)):=by show _=_;rw [jO];unfold tread;rw [hp]
  obtain ⟨hq0,hq1,hq2⟩:=ES hp;rw [hp] at HN;refine HN.mono ?_;rintro e w1 ⟨rfl,hg,hr⟩;have H1:Hid (Yv w b s r (.slice none 0 0) [] w1):=⟨hg,hr,⟨rfl,.inl ⟨rfl,rfl⟩⟩⟩;clear hp hg hr HN;go_wp2;go_loopg [5,6,12] n (fun g s5 s6 i wr=>∃ (k:Nat) (ds:List (List UInt8)) (was lr:List UInt8),g=n - k∧k≤n∧i=.int .i64 k∧s6=.string ⟨was.toArray⟩∧was.length≤16∧Hid (ds.length=k)∧k+lr.length≤140737488351232∧Hid (Yv w b s lr s5 ds wr)∧Hid (tread most l=ahead ds (Gv was (n - k) lr)));case atStart=>exact ⟨0,[],[],r,rfl,Xl,rfl,rfl,uH,rfl,Xl,H1,HE⟩
  case round=>
   obtain ⟨k,ds,was,lr,BR,hk,rfl,rfl,hwas,hdk,hkl,H,hE⟩:=hrel;have Cs:=Aa BR;clear BR HE H1;by_cases hlt:k<n
   ·have HM:=Aa (fun w (hr:Ir w b s lr)=>IM b s lr (was.length:Int) w hr Xl Xl);go_wp2_with fail;cases hp:DD was.length lr with
    |error e=>
     have HE:Hid (tread most l=.error e):=by show _=_;rw [hE.Ab,show n - k=(n - k - 1)+1 by omega];exact PK (by unfold IG;rw [hp])
     rw [hp] at HM;refine (HM _ H.r).mono ?_;rintro e' w2 ⟨rfl,hg2,hr2⟩;clear hp;go_wp2_with fail;refine ⟨rfl,?_⟩;rw [HE.Ab];exact ⟨rfl,H.g.trans hg2,hr2⟩
    |ok q=>
     obtain ⟨m,r1⟩:=q;obtain ⟨_,hm1,hm2⟩:=ES hp;have Y0:=zW hp;have Hp:=Aa hp;rw [hp] at HM;refine (HM _ H.r).mono ?_;rintro e' w2 ⟨rfl,hg2,hr2⟩;have H2:=Aa (H.read hb hg2 hr2);clear hp hg2 hr2 HM H;have km:(0:Int)≤m:=by omega
     have kn:(m:Int)≤was.length:=hm1;go_wp2_with fail;have HT:=Aa (fun w (hr:Ir w b s r1)=>NL b s r1 16 w hr Xl Xl);cases hx:Dp 16 r1 with
     |error e=>
      have HE:Hid (tread most l=.error e):=by show _=_;rw [hE.Ab,show n - k=(n - k - 1)+1 by omega];exact PK (by unfold IG;rw [Hp.Ab];show (match Dp 16 r1 with|.error e=>_|.ok (x,r2)=>_)=_;rw [hx])
      rw [hx] at HT;clear hx;refine Eo (S:=fun _=>True) Za0 ?_ fun hHeld=>?_
      ·(try dsimp only);try trivial
      refine Bd Ml ?_;refine Bd KF ?_;refine Bd MN ?_;refine Bd Ky ?_;refine EY (rs:=[4]) Za0 uH ?_;refine AllReadyH.cons LJ (fun KK Ad=>?_) AllReadyH.nil;go_simp;refine (HT _ (H2.more (Ai.refl _).drew).r).mono ?_;rintro e' w3 ⟨rfl,hg3,hr3⟩;refine ⟨rfl,?_⟩;rw [HE.Ab];exact ⟨rfl,(H2.more (Ai.refl _).drew).g.trans hg3,hr3⟩
     |ok q=>
      obtain ⟨x,r2⟩:=q;obtain ⟨hx1,hx2⟩:=Mj hx;have Hx:=Aa hx;rw [hx] at HT;clear hx;refine Eo (S:=fun _=>True) Za0 ?_ fun hHeld=>?_
      ·(try dsimp only);try trivial
      refine Bd Ml ?_;refine Bd KF ?_;refine Bd MN ?_;refine Bd Ky ?_;refine EY (rs:=[4]) Za0 uH ?_;refine AllReadyH.cons LJ (fun KK Ad=>?_) AllReadyH.nil;go_simp;refine (HT _ (H2.more (Ai.refl _).drew).r).mono ?_;rintro e' w3 ⟨rfl,hg3,hr3⟩;have H3:=Aa ((H2.more (Ai.refl _).drew).read hb hg3 hr3);clear hg3 hr3 HT;refine Ad.out _ _ ?_ fun hHeld=>?_
      ·(try dsimp only);try trivial
      clear Ad KK;try simp only [Act.put,LP]
      refine EY (rs:=[5]) Za0 uH ?_;refine AllReadyH.cons KW (fun KK Ad=>?_) AllReadyH.nil;go_simp;try go_wp2_with fail
      refine Ad.out _ _ ?_ fun hHeld=>?_
      ·(try dsimp only);try trivial
      clear Ad KK;try simp only [Act.put,LP]
      refine EY (rs:=[6]) Za0 uH ?_;refine AllReadyH.cons MI (fun KK Ad=>?_) AllReadyH.nil;go_simp;try go_wp2_with fail
      refine Ad.out _ _ ?_ fun hHeld=>?_
      ·(try dsimp only);try trivial
      clear Ad KK;try simp only [Act.put,LP]
      refine BZ ?_;simp only [Zu,Ch];clear hHeld;have hzl:(was.take m++x).length≤32:=by simp;omega
      have hzt:isTerm (was.take m++x)=true→(was.take m++x).length≤16:=by unfold isTerm;simp
      have HE:Hid (IG was lr=if isTerm (was.take m++x) && (alike was (was.take m++x)==m) && Op.bytesLess was (was.take m++x) then .ok (was.take m++x,r2) else .error 3):=by
       show _=_;unfold IG;rw [Hp.Ab];show (match Dp 16 r1 with|.error e=>_|.ok (x,r2)=>_)=_;rw [Hx.Ab]
      generalize was.take m++x=z at *;have hal:=(Sm was z).1;have no:IG was lr=.error 3→tread most l=.error 3:=fun h=>by rw [hE.Ab,show n - k=(n - k - 1)+1 by omega];exact PK h
      have NO:=Aa no;clear no;cases hT:isTerm z with
      |false=>
       have HN:=Aa (NO (by rw [HE.Ab,hT];rfl));clear NO HE hE;go_wp2_with fail;refine (JJ z _ Xl).mono ?_;rintro e' w4 ⟨rfl,rfl⟩;rw [hT];go_wp2_with fail;refine (JB b s r2 3 _ H3.r).mono ?_;rintro e' w4 ⟨rfl,rfl⟩;go_wp2_with fail;refine ⟨rfl,?_⟩;rw [HN.Ab];exact ⟨rfl,H3.g,_,H3.r⟩
      |true=>
       have hz16:=hzt hT;by_cases hA:alike was z=m
       ·cases hL:Op.bytesLess was z with
        |false=>
         have HN:=Aa (NO (by rw [HE.Ab,hT,hA,hL];simp));have HA:=Aa hA;clear NO HE hE hA;go_wp2_with fail;refine (JJ z _ Xl).mono ?_;rintro e' w4 ⟨rfl,rfl⟩;rw [hT];go_wp2_with fail;refine (Qd was z _ Xl Xl).mono ?_;rintro e' w4 ⟨rfl,hb4⟩;rw [HA.Ab];have H4:=Aa (H3.more hb4);clear hb4 H3;go_wp2_with fail;rw [YL,hL];exact Zt5
        |true=>
         have HA:=Aa hA;have HN:Hid (tread most l=ahead (ds++[z]) (Gv z (n - (k+1)) r2)):=by
          show _=_;rw [hE.Ab,show n - k=(n - (k+1))+1 by omega];exact dP (by rw [HE.Ab,hT,hA,hL];simp)
         clear NO HE hE hA;go_wp2_with fail;refine (JJ z _ Xl).mono ?_;rintro e' w4 ⟨rfl,rfl⟩;rw [hT];go_wp2_with fail;refine (Qd was z _ Xl Xl).mono ?_;rintro e' w4 ⟨rfl,hb4⟩;rw [HA.Ab];have H4:=Aa (H3.more hb4);clear hb4 H3;go_wp2_with fail;rw [YL,hL];refine (Mq b s r2 3 _ H4.r).mono ?_;rintro e' w5 ⟨rfl,rfl⟩;go_wp2_with ((with_reducible refine OP 44 ?_);refine Az rfl (.tmp 41) (.tmp 43) _ rfl FB w.heap.size ((H4.more ((Ai.refl _).alloc _)).g.size) u5 ds.length _ rfl (H4.more ((Ai.refl _).alloc _)).own _ 1 1 [tx z] rfl (Ik _ _ _ 1 1 rfl) Za2 Zd6 Zd7 ?_;intro v5 w5 hown5 hg5 Y2);go_roundg (n - (k+1));case rel=>exact ⟨k+1,ds++[z],z,r2,rfl,Xl,by go_num,rfl,hz16,by show _=_;have:=hdk.Ab;simp [this],Xl,(H4.more ((Ai.refl _).alloc _)).app hb hown5 hg5,HN⟩
         case measure=>rw [Cs.Ab];omega
       ·have HN:=Aa (NO (by rw [HE.Ab,hT];simp [hA]));have hA2:((alike was z:Int)==(m:Int))=false:=by simp;omega
        have hA3:(alike was z==m)=false:=by simp [hA]
        clear NO HE hE hA;go_wp2_with fail;refine (JJ z _ Xl).mono ?_;rintro e' w4 ⟨rfl,rfl⟩;rw [hT];go_wp2_with fail;refine (Qd was z _ Xl Xl).mono ?_;rintro e' w4 ⟨rfl,hb4⟩;have H4:=Aa (H3.more hb4);clear hb4 H3;go_wp2_with fail;exact Zt5
   ·have HN:Hid (tread most l=.ok (ds,lr)):=by
     show _=_;rw [hE.Ab,show n - k=0 by omega];simp [Gv,ahead]
    clear hE;go_wp2;go_ret;rw [HN.Ab];exact ⟨_,rfl,H.Ab⟩
theorem Zu2 {p:Prop} (h:p:=by
 refine ⟨h.1,?_⟩;rcases h.2 with h0|⟨g,cap,cur,h1,h2,h3⟩
 ·exact .inl h0
 ·exact .inr ⟨g,cap,cur,h1,IA hb h2,h3⟩
):p:=h
theorem Kn {w:World} {base base':Nat} {e:TypeId} {size n:Nat} {v:Value} {xs:List Value} (h:w.ownsRow base e size v n xs) (hb:base'≤base):w.ownsRow base' e size v n xs:=by
 exact Zu2
def cZ {α:Type} (o:PR α):Int:=
 match o with
 |.error k=>k
 |.ok (_,l)=>if l=[] then 0 else 3
theorem Sv {most k:Int} {s:List UInt8} (h:tread most s=.error k):k=3∨k=5:=by
 have key:∀ n was l k,Gv was n l=.error k→k=3∨k=5:=by
  intro n;induction n with
  |zero=>intro was l k h;cases h
  |succ n ih=>
   intro was l k h;unfold Gv at h;split at h
   ·rename_i e he;injection h with h;subst h;unfold IG at he;split at he
    ·rename_i hp;injection he with he;subst he;exact EE hp
    ·split at he
     ·rename_i hp;injection he with he;subst he;unfold Dp at hp;split at hp
      ·rename_i h2;injection hp with hp;subst hp;exact EE h2
      ·unfold NS at hp;split at hp
       ·injection hp with hp;exact .inl hp.symm
       ·cases hp
     ·split at he
      ·cases he
      ·injection he with he;exact .inl he.symm
   ·split at h
    ·rename_i he;injection h with h;subst h;exact ih _ _ _ he
    ·cases h
 unfold tread at h;split at h
 ·rename_i hp;injection h with h;subst h;exact EE hp
 ·exact key _ _ _ _ h
theorem iD {n:Nat} (hn:n<18446744073709551616) (t:List UInt8):JD (Cx n++t)=.ok (n,t):=by
 unfold JD;rw [xG hn];simp only [Gu];rw [List.drop_append_of_le_length (by rw [Fz];exact Ci _),EN (by rw [Fz];exact Ci _)]
 rfl
theorem RG {n:Nat} {most:Int} (hn:n<18446744073709551616) (hm:(n:Int)≤most) (t:List UInt8):DD most (Cx n++t)=.ok (n,t):=by
 unfold DD;rw [iD hn];simp only;rw [Ak Xl]
theorem kX {l:List UInt8} {most:Int} (hl:(l.length:Int)≤most) (h2:l.length<18446744073709551616) (t:List UInt8):Dp most (Dc l++t)=.ok (l,t):=by
 unfold Dp;have e:Dc l++t=Cx l.length++(l++t):=by unfold Dc;rw [Ef]
 rw [e,RG h2 hl];simp only;unfold NS;rw [Ak (by rw [Cn];omega),Db,List.take_left,List.drop_left]
theorem Fy {most:Int} {l r:List UInt8} {n:Nat} (h:DD most l=.ok (n,r)):l=Cx n++r:=by
 rcases KD (most:=most) (l:=l) with ⟨e,_⟩|⟨n',z,hn,hz,_,⟨e,_⟩|⟨e,h2,h3⟩⟩
 ·rw [h] at e;cases e
 ·rw [h] at e;cases e
 ·rw [h] at e;injection e with e;injection e with e1 e2;subst e1;subst e2;have:=Uw (l:=l) (by rw [hn]);rw [hn] at this;rw [←this.1,Na]
theorem KN {most:Int} {l x r:List UInt8} (h:Dp most l=.ok (x,r)):l=Dc x++r:=by
 unfold Dp at h;split at h
 ·cases h
 ·rename_i n r1 hp;unfold NS at h;split at h
  ·cases h
  ·rename_i hc;injection h with h;injection h with e1 e2;have:=Fy hp;rw [this];unfold Dc;rw [←e1,←e2,Db,FK,Vi Xl,Ef,Na]
theorem yZ (x y:List UInt8):x.take (alike x y)=y.take (alike x y):=by
 induction x generalizing y with
 |nil=>simp [alike]
 |cons a x ih=>
  cases y with
  |nil=>simp [alike]
  |cons b y=>
   rw [alike];split
   ·rename_i h;subst h;simp [ih y]
   ·rfl
theorem zB (x y:List UInt8):x.take (alike x y)++y.drop (alike x y)=y:=by
 rw [yZ,Na]
theorem nV {was t:List UInt8} (ht:isTerm t=true) (hl:Op.bytesLess was t=true) (hw:was.length≤16) (r:List UInt8):IG was (Cx (alike was t)++Dc (t.drop (alike was t))++r)=.ok (t,r):=by
 have h1:=Sm was t;have h16:t.length≤16:=by unfold isTerm at ht;simp at ht;omega
 unfold IG;rw [Ef,RG Xl Xl];simp only;rw [kX Za3 Za3];simp only;rw [zB,ht,hl];simp
theorem kJ {ts:List (List UInt8)}:∀ {p:Option (List UInt8)} {was:List UInt8},rowFrom p ts=0→(p=some was∨(p=none∧was=[]))→was.length≤16→∀ r,Gv was ts.length (La was ts++r)=.ok (ts,r):=by
 induction ts with
 |nil=>intro p was h hp hw r;rfl
 |cons t ts ih=>
  intro p was h hp hw r;rw [rowFrom] at h;split at h
  ·rename_i ht;split at h
   ·cases h
   ·rename_i hn;have h16:t.length≤16:=by unfold isTerm at ht;simp at ht;omega
    have hl:Op.bytesLess was t=true:=by
     rcases hp with hp|⟨hp,hw0⟩
     ·subst hp;simpa using hn
     ·subst hw0;unfold isTerm at ht;cases t with
      |nil=>simp at ht
      |cons a t=>rfl
    rw [En,Gv,La,Ef,nV ht hl hw];simp only;rw [ih h (.inl rfl) h16]
  ·cases h
theorem nW {was l s r:List UInt8} (h:IG was l=.ok (s,r)):isTerm s=true∧Op.bytesLess was s=true∧l=(Cx (alike was s)++Dc (s.drop (alike was s)))++r:=by
 unfold IG at h;split at h
 ·cases h
 ·rename_i k r1 hp;split at h
  ·cases h
  ·rename_i x r2 hx;split at h
   ·rename_i hc;injection h with h;injection h with e1 e2;subst e2;simp only [Vj,Ua] at hc;rw [e1] at hc;obtain ⟨⟨h1,h2⟩,h3⟩:=hc;refine ⟨h1,h3,?_⟩;have hk:k≤was.length:=by have:=(ES hp).2.1;omega
    have hd:s.drop k=x:=by
     rw [←e1,List.drop_append_of_le_length Za3,EN Za3]
     rfl
    rw [h2,hd,Fy hp,KN hx,Ef]
   ·cases h
theorem Xz {n:Nat}:∀ {was l r:List UInt8} {ts:List (List UInt8)} {p:Option (List UInt8)},Gv was n l=.ok (ts,r)→(p=some was∨(p=none∧was=[]))→rowFrom p ts=0∧ts.length=n∧l=La was ts++r:=by
 induction n with
 |zero=>
  intro was l r ts p h hp;injection h with h;injection h with e1 e2;subst e1;subst e2;exact ⟨rfl,rfl,rfl⟩
 |succ n ih=>
  intro was l r ts p h hp;rw [Gv] at h;split at h
  ·cases h
  ·rename_i s r1 hs;split at h
   ·cases h
   ·rename_i us r2 hu;injection h with h;injection h with e1 e2;subst e1;subst e2;obtain ⟨a1,a2,a3⟩:=nW hs;obtain ⟨b1,b2,b3⟩:=ih (p:=some s) hu (.inl rfl);refine ⟨?_,by simp [b2],?_⟩
    ·rw [rowFrom,a1];simp only [Gu];rw [Ak]
     ·exact b1
     ·rcases hp with hp|⟨hp,hw⟩
      ·subst hp;simp [a2]
      ·subst hp;simp
    ·rw [La,a3,b3,Ef,Ef];simp only [Ef]
theorem LV {most:Int} {l r:List UInt8} {ts:List (List UInt8)} (h:tread most l=.ok (ts,r)):Cr ts=0∧l=LW ts++r:=by
 unfold tread at h;split at h
 ·cases h
 ·rename_i n r1 hp;obtain ⟨h1,h2,h3⟩:=Xz (p:=none) h (.inr ⟨rfl,rfl⟩);refine ⟨h1,?_⟩;unfold LW;rw [h2,Fy hp,h3,Ef]
attribute [local go_sem] Zu WJ Ru
theorem take_same {x y:List UInt8} {k:Nat} (h:x.take k=y.take k) (h1:k<x.length) (h2:k<y.length):x.take (k+1)=y.take (k+1)↔x[k]=y[k]:=by
 rw [Rh h1,Rh h2,h];constructor
 ·intro e;have:=List.append_inj_right' e rfl;simpa using this
 ·intro e;rw [e]
theorem ZT (x y:List UInt8) (w:World) (hx:x.length≤9223372036854775806) (hy:y.length≤9223372036854775806):
 Calls prog 54 #[.string ⟨x.toArray⟩,.string ⟨y.toArray⟩] w fun e w'=>e=.returned (.int .i64 (alike x y:Nat))∧Ai w w':=by
 go_enter func54,ntmps54;go_wp2;go_loopg [5] x.length (fun g i wr=>∃ k:Nat,g=x.length - k∧k≤x.length∧k≤y.length∧i=.int .i64 k∧Ai w wr∧Hid (x.take k=y.take k)∧Hid (alike x y=k+alike (x.drop k) (y.drop k)));case atStart=>exact ⟨0,rfl,Xl,Xl,rfl,Ai.refl _,by show _=_;simp,by show _=_;simp⟩
 case round=>
  obtain ⟨k,BR,hkx,hky,rfl,hB,hT,hF⟩:=hrel;have Cs:=Aa BR;clear BR;by_cases a1:k<x.length
  ·by_cases a2:k<y.length
   ·have b1:(k:Int)+1≤x.length:=by omega
    have b2:(k:Int)+1≤y.length:=by omega
    have b3:((k:Int)+1).toNat=k+1:=by omega
    have b4:IntKind.i64.wrap ((k:Int)+1)=(k:Int)+1:=IB _ Xl;by_cases a3:x[k]=y[k]
    ·have HR:Hid (alike x y=(k+1)+alike (x.drop (k+1)) (y.drop (k+1))):=by show _=_;rw [hF.Ab,dO a1 a2 a3];omega
     have HT:Hid (x.take (k+1)=y.take (k+1)):=by show _=_;exact (take_same hT a1 a2).2 a3
     have e4:(x.take (k+1)==y.take (k+1))=true:=by rw [HT.Ab];simp
     clear a3 hF hT;go_wp2_with fail;go_quiet (fail);go_wp2;go_roundg (x.length - (k+1));case rel=>exact ⟨k+1,rfl,Xl,Xl,by go_num,hB.drewN _,HT,HR⟩
     case measure=>rw [Cs.Ab];omega
    ·have HR:Hid (alike x y=k):=by show _=_;rw [hF.Ab,dN a1 a2 a3];omega
     have e4:(x.take (k+1)==y.take (k+1))=false:=by
      rw [Xt];exact fun h=>a3 ((take_same hT a1 a2).1 h)
     clear a3 hF hT;go_wp2_with fail;go_quiet (fail);go_wp2;go_ret;rw [HR.Ab];exact ⟨rfl,hB.drewN _⟩
   ·have HR:Hid (alike x y=k):=by show _=_;rw [hF.Ab,Td (.inr Xl)];omega
    have d2:decide ((k:Int)<(y.length:Int))=false:=by simp;omega
    have d3:decide (k<y.length)=false:=by simp;omega
    clear hF hT;go_wp2_with fail;go_quiet (fail);go_wp2;go_ret;rw [HR.Ab];exact ⟨rfl,hB.drewN _⟩
  ·have HR:Hid (alike x y=k):=by show _=_;rw [hF.Ab,Td (.inl Xl)];omega
   have d2:decide ((k:Int)<(x.length:Int))=false:=by simp;omega
   have d3:decide (k<x.length)=false:=by simp;omega
   clear hF hT;go_wp2_with fail;go_quiet (fail);go_wp2;go_ret;rw [HR.Ab];exact ⟨rfl,hB.drewN _⟩
theorem L8 (A:Option Addr) (n c:Nat) (ts:List (List UInt8)) (w:World) (hr:Rd w 1 A n (ts.map tx)) (hE:Cr ts=0) (hn:n≤100000):
 Calls prog 31 #[.slice A n c] w fun e w'=>e=.returned (.string ⟨(LW ts).toArray⟩)∧Ai w w':=by
 have hlen:Hid (ts.length=n):=by have:=hr.len;show _=_;simpa using this
 have HE:=Aa hE;have hpn:(Cx n).length≤9:=Cc _;clear hE;go_enter func31,ntmps31;go_wp2_with fail;refine (Jr _ _ Xl Xl).mono ?_;rintro e w1 ⟨rfl,hb⟩;rw [Db];have HO:Hid (LW ts=Cx n++La [] (ts.drop 0)):=by show _=_;unfold LW;rw [hlen.Ab];rfl
 go_wp2;go_loopg [3,4,5] n (fun g o s i wr=>∃ (k:Nat) (l was:List UInt8),g=n - k∧k≤n∧i=.int .i64 k∧o=.string ⟨l.toArray⟩∧s=.string ⟨was.toArray⟩∧was.length≤16∧l.length≤9+34 * k∧Ai w wr∧Hid (LW ts=l++La was (ts.drop k)));case atStart=>exact ⟨0,Cx n,[],rfl,Xl,rfl,rfl,rfl,uH,Xl,hb,HO⟩
 case round=>
  obtain ⟨k,l,was,BR,hk,rfl,rfl,rfl,hwas,hll,hB,hF⟩:=hrel;have Cs:=Aa BR;clear BR;by_cases hlt:k<n
  ·obtain ⟨ad,t,rfl,htk,hc⟩:=(hr.Av hB).tx hlt;have hl0:t.length≤16:=II HE (CU htk);have HR:Hid (LW ts=(l++(Cx (alike was t)++Dc (t.drop (alike was t))))++La t (ts.drop (k+1))):=by show _=_;rw [hF.Ab,Zr htk];simp only [Ef]
   clear htk hF;obtain ⟨hal1,hal2⟩:=Sm was t;have Hc:=Aa hc;go_wp2_with fail;refine (ZT _ _ _ Xl Xl).mono ?_;rintro e w2 ⟨rfl,hb2⟩;replace hB:=hB.trans hb2;generalize alike was t=m at *;have hpm:(Cx m).length≤9:=Cc _;have hpt:(Dc (t.drop m)).length≤9+(t.drop m).length:=by unfold Dc;rw [Cn];have:=Cc (t.drop m).length;omega
   rw [Ih] at hpt;have c1:(0:Int)≤(m:Int):=by omega
   have c2:(m:Int)≤(t.length:Int):=by omega
   have hc2:=(hb2.cell (JM _ _ Hc.Ab)).trans Hc.Ab;have d0:=fun u:Over w2=>Over.cell hc2 u
   clear hc hb2;go_wp2_with fail;refine Am ?_;repeat (go_big_quiet_step (first|(go_at_call 29;exact AB (Jr _ _ Xl Xl))|(go_at_call 30;exact AB (Nj _ _ Za3))))
   refine CS ?_;rintro _ ⟨u,rfl⟩;replace hB:=hB.trans u.Av;have hc3:=d0 u;clear d0 hc2;go_wp2;go_roundg (n - (k+1));case rel=>exact ⟨k+1,_,t,rfl,Xl,by go_num,by simp only [Ch,Ef,Db],rfl,hl0,by simp only [Cn];omega,hB,HR⟩
   case measure=>rw [Cs.Ab];omega
  ·have HR:Hid (LW ts=l):=by show _=_;rw [hF.Ab,EN Za9];simp [La]
   clear hF;go_wp2;go_ret;rw [HR.Ab];exact ⟨rfl,hB⟩
theorem vK {xs ys:List (List UInt8)} {k:Nat} {a b:List UInt8} (ha:xs[k]?=some a) (hb:ys[k]?=some b):(xs.drop k==ys.drop k)=((a==b) && (xs.drop (k+1)==ys.drop (k+1))):=by
 obtain ⟨h1,rfl⟩:=CB.1 ha;obtain ⟨h2,rfl⟩:=CB.1 hb;rw [Eg h1,Eg h2]
 rfl
end Go.Proofs.YtijplolmkcdflaaGreat
namespace Go.Proofs.YtijplolmkcdflaaGreat
open Tryz
open Go.RowKit
theorem I6 (ts:List (List UInt8)):∀ was,(∀ t ∈ ts,t.length≤16)→(La was ts).length≤34 * ts.length:=by
 induction ts with
 |nil=>intro was h;simp [La]
 |cons t r ih=>
  intro was h;have h1:=ih t (fun u hu=>h u (Ii _ hu));have h2:=h t (Gg ..);have h3:=Cc (alike was t);have h4:=Cc (t.drop (alike was t)).length;rw [La];unfold Dc;simp only [Cn,En] at *;have h5:(t.drop (alike was t)).length≤16:=by rw [Ih];omega
  omega
theorem Zt {ts:List (List UInt8)} (h:Cr ts=0):(LW ts).length≤9+34 * ts.length:=by
 unfold LW;rw [Cn];have:=Cc ts.length;have:=I6 ts [] (fun t ht=>II h ht);omega
def Kg (k:Int) (is:Bool) (n:Int):Int:=if k≠0 then k else if is then 0 else Gr n
theorem Nw (s:List UInt8) (t k n:Int) (is:Bool) (w:World):
 Calls prog 113 #[Iz s t k,.bool is,.int .i64 n] w fun e w'=>e=.returned (Iz s t (Kg k is n))∧Ai w w':=by
 by_cases hk:k=0
 ·subst hk;cases is
  ·exact oK s t n w
  ·exact gQ s t n w
 ·have:Kg k is n=k:=by unfold Kg;rw [Al hk]
  rw [this];exact gT s t k n is hk w
def Aq2 {α:Type} (o:PR α):Int:=match o with|.error k=>k|.ok _=>0
def Au6 (s:List UInt8) (o:PR (List (List UInt8))) (w:World) (e:Ending) (w':World):Prop:=
 Ai w w'∧∃ (t:Int) (A:Option Addr) (c:Nat) (ds:List (List UInt8)),e=.returned (.tuple #[Iz s t (Aq2 o),.slice A ds.length c])∧w'.ownsRow w.heap.size 9 1 (.slice A ds.length c) ds.length (ds.map tx)∧∀ ts l,o=.ok (ts,l)→ds=ts∧∃ tn:Nat,t=tn∧tn≤s.length∧l=s.drop tn
def Wm (s l0:List UInt8) (most:Int) (n k:Nat) (ds:List (List UInt8)) (was:List UInt8) (t kk:Int):Prop:=
 (kk=0∧was.length≤16∧∃ tn:Nat,t=tn∧tn≤s.length∧k+(s.drop tn).length≤140737488351232∧tread most l0=ahead ds (Gv was (n - k) (s.drop tn)))∨(kk≠0∧tread most l0=.error kk)
theorem Wm.bad {s l0:List UInt8} {most:Int} {n k:Nat} {ds:List (List UInt8)} {was:List UInt8} {t kk:Int} (h:Wm s l0 most n k ds was t kk) (hk:kk≠0):tread most l0=.error kk:=by
 rcases h with ⟨h,_⟩|⟨_,h⟩
 ·exact absurd h hk
 ·exact h
theorem Wm.good {s l0:List UInt8} {most:Int} {n k:Nat} {ds:List (List UInt8)} {was:List UInt8} {t:Int} (h:Wm s l0 most n k ds was t 0):was.length≤16∧∃ tn:Nat,t=tn∧tn≤s.length∧k+(s.drop tn).length≤140737488351232∧tread most l0=ahead ds (Gv was (n - k) (s.drop tn)):=by
 rcases h with ⟨_,h⟩|⟨h,_⟩
 ·exact h
 ·exact absurd rfl h
theorem M9 (s:List UInt8) (t0:Nat) (most:Int) (hs:s.length≤140737488351232) (ht0:t0≤s.length) (h0:-9223372036854775808≤most) (h1:most≤9223372036854775807) (m2:most≤1000000) (w:World):
 Calls prog 110 #[Iz s t0 0,.int .i64 most] w fun e w'=>∃ (n:Nat) (t kk:Int),e=.returned (.tuple #[Iz s t kk,.int .i64 n])∧Ai w w'∧((n:Int)≤9223372036854775807∧n≤1000000)∧Hid (Wm s (s.drop t0) most n 0 [] [] t kk):=by
 have h:=Ry s t0 most hs ht0 h0 h1 w;refine h.mono ?_;rintro e w' ⟨hb,hm⟩;cases hp:DD most (s.drop t0) with
 |error k=>
  rw [hp] at hm;obtain ⟨t,rfl⟩:=hm;have:=EE hp;exact ⟨0,t,k,rfl,hb,Xl,.inr ⟨Xl,by unfold tread;rw [hp]⟩⟩
 |ok q=>
  obtain ⟨n,l⟩:=q;rw [hp] at hm;obtain ⟨t,ht,hl,rfl⟩:=hm;subst hl;have:=ES hp;refine ⟨n,t,0,rfl,hb,Xl,.inl ⟨rfl,uH,t,rfl,ht,by simp;omega,?_⟩⟩;rw [jO,Nat.sub_zero];unfold tread;rw [hp]
def NumR (s was:List UInt8) (t:Nat) (t' k':Int) (m:Nat):Prop:=
 (k'≠0∧m=0∧IG was (s.drop t)=.error k')∨(k'=0∧∃ tn:Nat,t'=tn∧tn≤s.length∧t<tn∧DD was.length (s.drop t)=.ok (m,s.drop tn))
theorem M8 (s was:List UInt8) (t:Nat) (hs:s.length≤140737488351232) (ht:t≤s.length) (hw:was.length≤16) (w:World):
 Calls prog 110 #[Iz s t 0,.int .i64 was.length] w fun e w'=>∃ (m:Nat) (t' k':Int),e=.returned (.tuple #[Iz s t' k',.int .i64 m])∧Ai w w'∧(m:Int)≤was.length∧Hid (NumR s was t t' k' m):=by
 refine (Ry s t was.length hs ht Xl Xl w).mono ?_;rintro e w' ⟨hb,hm⟩;cases hp:DD was.length (s.drop t) with
 |error k=>
  rw [hp] at hm;obtain ⟨t',rfl⟩:=hm;have:=EE hp;exact ⟨0,t',k,rfl,hb,Xl,.inl ⟨Xl,rfl,by unfold IG;rw [hp]⟩⟩
 |ok q=>
  obtain ⟨n,l⟩:=q;rw [hp] at hm;obtain ⟨t',ht',hl,rfl⟩:=hm;subst hl;have h1:=ES hp;have h2:=zW hp;simp only [Ih] at h2;exact ⟨n,t',0,rfl,hb,h1.2.1,.inr ⟨rfl,t',rfl,ht',Xl,hp⟩⟩
def TxtR (s was:List UInt8) (t:Nat) (m:Nat) (t' k':Int) (x:List UInt8):Prop:=
 (k'≠0∧IG was (s.drop t)=.error k')∨(k'=0∧∃ tn:Nat,t'=tn∧tn≤s.length∧t<tn∧IG was (s.drop t)=if isTerm (was.take m++x) && (alike was (was.take m++x)==m) && Op.bytesLess was (was.take m++x) then .ok (was.take m++x,s.drop tn) else .error 3)
theorem K9 (s was:List UInt8) (t:Nat) (t' k':Int) (m:Nat) (hs:s.length≤140737488351232) (hN:NumR s was t t' k' m) (w:World):
 Calls prog 112 #[Iz s t' k',.int .i64 16] w fun e w'=>∃ (x:List UInt8) (t2 k2:Int),e=.returned (.tuple #[Iz s t2 k2,.string ⟨x.toArray⟩])∧Ai w w'∧x.length≤16∧Hid (TxtR s was t m t2 k2 x):=by
 rcases hN with ⟨hk,hm,hr⟩|⟨rfl,tn,rfl,htn,hlt,hp⟩
 ·refine (gU s t' k' 16 hk w).mono ?_;rintro e w' ⟨rfl,hb⟩;exact ⟨[],t',k',rfl,hb,uH,.inl ⟨hk,hr⟩⟩
 ·refine (WL s tn 16 hs htn Xl Xl w).mono ?_;rintro e w' ⟨hb,hm⟩;cases hx:Dp 16 (s.drop tn) with
  |error k=>
   rw [hx] at hm;obtain ⟨t2,rfl⟩:=hm;refine ⟨[],t2,k,rfl,hb,uH,.inl ⟨?_,?_⟩⟩
   ·unfold Dp at hx;split at hx
    ·rename_i h2;injection hx with hx;subst hx;have:=EE h2;omega
    ·have:=(aF hx).1;omega
   ·unfold IG;rw [hp];show (match Dp 16 (s.drop tn) with|.error e=>_|.ok (x,r2)=>_)=_;rw [hx]
  |ok q=>
   obtain ⟨x,l⟩:=q;rw [hx] at hm;obtain ⟨t2,ht2,hl,rfl⟩:=hm;have h1:=Mj hx;subst hl;simp only [Ih] at h1;refine ⟨x,t2,0,rfl,hb,Xl,.inr ⟨rfl,t2,rfl,ht2,Xl,?_⟩⟩;unfold IG;rw [hp];show (match Dp 16 (s.drop tn) with|.error e=>_|.ok (x,r2)=>_)=_;rw [hx]
theorem Wm.step {s l0:List UInt8} {most:Int} {n k:Nat} {ds:List (List UInt8)} {was:List UInt8} {t:Nat} {m:Nat} {t2 k2:Int} {x:List UInt8} {B:Bool} (hk:k<n) (ht:t≤s.length) (hl:k+(s.drop t).length≤140737488351232) (hE:tread most l0=ahead ds (Gv was (n - k) (s.drop t)))
 (hT:TxtR s was t m t2 k2 x) (hB:B=(isTerm (was.take m++x) && (alike was (was.take m++x)==m) && Op.bytesLess was (was.take m++x))):
 Wm s l0 most n (k+1) (ds++[was.take m++x]) (was.take m++x) t2 (Kg k2 B 3):=by
 have hn:n - k=(n - (k+1))+1:=by omega
 rw [hn] at hE;rcases hT with ⟨h1,h2⟩|⟨rfl,tn,rfl,h1,h2,h3⟩
 ·have:Kg k2 B 3=k2:=by unfold Kg;rw [Al h1]
  rw [this];exact .inr ⟨h1,by rw [hE];exact PK h2⟩
 ·rw [←hB] at h3;cases B with
  |false=>exact .inr ⟨by decide,by rw [hE];exact PK h3⟩
  |true=>
   refine .inl ⟨rfl,?_,tn,rfl,h1,?_,?_⟩
   ·have hz:=hB.symm;simp only [Vj] at hz;have:=hz.1.1;unfold isTerm at this;simp at this;simp;omega
   ·simp only [Ih] at *;omega
   ·rw [hE];exact dP h3
structure vB (w:World) (s:List UInt8) (t kk:Int) (v:Value) (ds:List (List UInt8)) (wr:World):Prop where
 Av:Ai w wr
 A:Bh wr w.heap.size 141 (DY s t kk)
 R:Bh wr (w.heap.size+1) 141 (DY [] 0 0)
 own:wr.ownsRow (w.heap.size+2) 9 1 v ds.length (ds.map tx)
section
variable {w w1 w2 : World} {s : List UInt8} {t kk : Int} {v : Value} {ds : List (List UInt8)}
theorem vB.more (h:vB w s t kk v ds w1) (hb:Ai w1 w2):vB w s t kk v ds w2:=⟨h.Av.trans hb,h.A.Av hb,h.R.Av hb,Ig h.own hb⟩
theorem vB.Ug {t' k':Int} (h:vB w s t kk v ds w1) (hg:w1.grownBy w2 (some w.heap.size)) (hA:Bh w2 w.heap.size 141 (DY s t' k')):vB w s t' k' v ds w2:=
 ⟨h.Av.DN hg (Ci _),hA,h.R.grown hg uH,h.own.kept hg (by
  rcases ho:v.ownBlock with _|k
  ·exact .inl rfl
  ·refine .inr fun e=>?_;injection e with e;have:=(h.own.lt k ho).1;omega)⟩
theorem vB.at5 {w5:World} (h3:vB w s t kk v ds w1) (h:vB w s t kk v ds w2) (hg:w2.grownBy w5 (some w1.heap.size)):vB w s t kk v ds w5:=
 ⟨h.Av.DN hg h3.Av.size,h.A.grown hg (by have:=h3.A.lt;simp;omega),h.R.grown hg (by have:=h3.R.lt;simp;omega),h.own.kept hg (by
  rcases ho:v.ownBlock with _|k
  ·exact .inl rfl
  ·refine .inr fun e=>?_;injection e with e;have:=(h3.own.lt k ho).2;omega)⟩
theorem vB.app {v':Value} {x:List UInt8} (h:vB w s t kk v ds w1) (ho:w2.ownsRow (w.heap.size+2) 9 1 v' (ds.length+1) (ds.map tx++[tx x])) (hg:w1.grownBy w2 v.ownBlock):vB w s t kk v' (ds++[x]) w2:=
 ⟨h.Av.grown hg (fun k e=>by have:=(h.own.lt k e).1;omega),h.A.grown hg (fun e=>by have:=(h.own.lt _ e.symm).1;omega),h.R.grown hg (fun e=>by have:=(h.own.lt _ e.symm).1;omega),by simpa using ho⟩
end
theorem FZ {w:World} {base:Nat} {e:TypeId} {size n:Nat} {v:Value} {xs:List Value} (h:w.ownsRow base e size v n xs) {g:Nat} (hg:g<base):v.ownBlock=none∨v.ownBlock≠some g:=by
 rcases ho:v.ownBlock with _|k
 ·exact .inl rfl
 ·refine .inr fun e=>?_;injection e with e;have:=(h.lt k ho).1;omega
theorem Zj5 {p:Prop} (h:p:=by
 refine CS ?_;rintro ⟨w6,hb6⟩;have H6:=Aa (H5.more hb6);dsimp only;clear hb6 H5;have bA6:=H6.Ab.A;go_wp2_with (first|((with_reducible refine OS 2 ?_);refine Ae rfl Ar (.tmp 2) (.tmp 61) rfl w.heap.size rfl bA6 rfl (DY s t2 (Kg k2 false 3)) rfl rfl (AU _ _ _) ?_;intro w7 bA7 Xa;have H7:=Aa (H6.Ug Xa bA7);have hz7:=H7.Ab.R.lt;clear bA6 bA7 Xa H6)|((with_reducible refine OP 65 ?_);refine Az rfl (.tmp 62) (.tmp 64) _ rfl FB (w.heap.size+2) Za3 u7 ds.length _ rfl (H7.more ((Ai.refl _).alloc _)).own _ 1 1 [tx z] rfl (Ik _ _ _ 1 1 rfl) Za2 Zd6 Zd7 ?_;intro v8 w8 Lh bI bP));go_roundg (n - (k+1));case rel=>exact ⟨k+1,ds++[z],z,t2,Kg k2 false 3,rfl,Xl,by go_num,rfl,by show _=_;have:=hdk.Ab;simp [this],(H7.more ((Ai.refl _).alloc _)).app Lh bI,HS⟩
 case measure=>rw [Cs.Ab];omega
):p:=h
theorem Zm8 {p:Prop} (h:p:=by
 refine Ie 16 Za0 Za0 ?_;simp only [Pn,Pm,Rc,Pj];repeat (first
  |((with_reducible show wpQuiet _ _ _ _ (⟨some 46,_,_,_,_,_⟩::_) _);refine Ah rfl Ar (.tmp 10) rfl w3.heap.size 0 rfl (DY s t2 k2) rfl BQ.lt BQ.range ?_;simp only [Act.put,LP])
  |go_big_quiet_step ((first|(go_at_call 85;exact GA (HIS _))|(go_at_call 113;exact AB (Nw s t2 k2 3 false _)))))
 exact Zj5
):p:=h
theorem Vu (s:List UInt8) (t0:Nat) (most:Int) (w:World) (hs:s.length≤140737488351232) (ht0:t0≤s.length) (m0:-9223372036854775808≤most) (m1:most≤9223372036854775807) (m2:most≤1000000):
 Calls prog 118 #[Iz s t0 0,.int .i64 most] w (Au6 s (tread most (s.drop t0)) w):=by
 go_enter func118,ntmps118;go_wp2_with fail;have bA:=(Bh.new w 141 (DY s t0 0)).alloc (.cells #[.string ⟨#[]⟩,.int .i64 0,.int .i64 0] 141);have bB:=Bh.new (w.alloc (.cells (DY s t0 0) 141)) 141 #[.string ⟨#[]⟩,.int .i64 0,.int .i64 0];have hW:=((Ai.refl w).alloc (.cells (DY s t0 0) 141)).alloc (.cells #[.string ⟨#[]⟩,.int .i64 0,.int .i64 0] 141);rw [Gf] at bB;refine (M9 s t0 most hs ht0 m0 m1 m2 _).mono ?_;rintro e w1 ⟨n,t,kk,rfl,hb1,⟨hn,hnm⟩,HI⟩;have H1:vB w s t0 0 (.slice none 0 0) [] w1:=⟨hW.trans hb1,bA.Av hb1,bB.Av hb1,⟨rfl,.inl ⟨rfl,rfl⟩⟩⟩;have Qz:=H1.A;have HW1:=Aa H1;clear bA bB hW hb1 H1;go_wp2_with (((with_reducible refine OS 2 ?_);refine Ae rfl Ar (.tmp 2) (.tmp 17) rfl w.heap.size rfl Qz rfl (DY s t kk) rfl rfl (AU _ _ _) ?_;intro w2 MO hg2;have HW2:=Aa (HW1.Ug hg2 MO);clear Qz MO hg2 HW1));go_loopg [7,8,9] n (fun g s7 s8 i wr=>∃ (k:Nat) (ds:List (List UInt8)) (was:List UInt8) (t kk:Int),g=n - k∧k≤n∧i=.int .i64 k∧s8=.string ⟨was.toArray⟩∧Hid (ds.length=k)∧Hid (vB w s t kk s7 ds wr)∧Hid (Wm s (s.drop t0) most n k ds was t kk));case atStart=>exact ⟨0,[],[],t,kk,rfl,Xl,rfl,rfl,rfl,HW2,HI⟩
 case round=>
  obtain ⟨k,ds,was,t,kk,BR,hk,rfl,rfl,hdk,H,hI⟩:=hrel;have Cs:=Aa BR;clear BR HI HW2;obtain ⟨a0,a1,a2,f0,f1,f2⟩:=H.Ab.A.three;by_cases hlt:k<n
  ·by_cases hk0:kk=0
   ·subst hk0;obtain ⟨hwas,tn,rfl,htn,hkl,hE⟩:=hI.good;have HE:=Aa hE;simp only [Ih] at hkl;clear hE;go_wp2_with fail;refine (M8 s was tn hs htn hwas _).mono ?_;rintro e w3 ⟨m,t',k',rfl,hb3,hm,hN⟩;have H3:=Aa (H.more hb3);clear a0 a1 a2 f0 f1 f2 hb3 H;have km:(0:Int)≤m:=by omega
    go_wp2_with (((with_reducible refine OS 10 ?_);refine DX Ar (DY s t' k') (AU _ _ _) ?_));refine (K9 s was tn t' k' m hs hN _).mono ?_;rintro e w4 ⟨x,t2,k2,rfl,hb4,hx,hT⟩;have bq:=(Bh.new w3 141 (DY s t' k')).Av hb4;have H4:=Aa ((H3.more ((Ai.refl _).alloc _)).more hb4);have hz3:w3.heap.size<w4.heap.size:=by have:=hb4.size;simp at this;omega
    clear hb4 hN;go_wp2_with (((with_reducible refine OS 10 ?_);refine Ae rfl Ar (.tmp 10) (.tmp 39) rfl w3.heap.size rfl bq rfl (DY s t2 k2) rfl rfl (AU _ _ _) ?_;intro w5 bq5 hg5;have H5:=Aa (H3.at5 H4 hg5);clear hg5 bq H4));simp only [Zu,Ch];have hzl:(was.take m++x).length≤32:=by simp;omega
    have HS:=Aa (fun B hB=>Wm.step (B:=B) hlt htn Za3 HE hT hB);have HIS:=Aa (fun w=>WV (was.take m++x) w Xl);have HAL:=Aa (fun w=>ZT was (was.take m++x) w Xl Xl);generalize was.take m++x=z at *;have BQ:=Aa bq5;clear bq5 H3 HE hT hI;cases hT:isTerm z with
    |false=>
     rw [hT] at HIS;replace HS:=Aa (HS false (by rw [hT];rfl));exact Zm8
    |true=>
     rw [hT] at HIS;cases hL:Op.bytesLess was z with
     |false=>
      replace HS:=Aa (HS false (by rw [hL];simp));have hG:=YL was z;rw [hL] at hG;exact Zm8
     |true=>
      have hG:=YL was z;rw [hL] at hG;by_cases hA:alike was z=m
      ·replace HS:=Aa (HS true (by rw [hT,hL,hA];simp));rw [hA] at HAL;clear hA;refine Ie 16 Za0 Za0 ?_;simp only [Pn,Pm,Rc,Pj];repeat (first
        |((with_reducible show wpQuiet _ _ _ _ (⟨some 46,_,_,_,_,_⟩::_) _);refine Ah rfl Ar (.tmp 10) rfl w3.heap.size 0 rfl (DY s t2 k2) rfl BQ.lt BQ.range ?_;simp only [Act.put,LP])
        |go_big_quiet_step ((first|(go_at_call 85;exact GA (HIS _))|(go_at_call 54;exact AB (HAL _))|(go_at_call 113;exact AB (Nw s t2 k2 3 true _)))))
       refine CS ?_;rintro ⟨w6,hb6⟩;have H6:=Aa (H5.more hb6);dsimp only;clear hb6 H5;have bA6:=H6.Ab.A;go_wp2_with (first|((with_reducible refine OS 2 ?_);refine Ae rfl Ar (.tmp 2) (.tmp 61) rfl w.heap.size rfl bA6 rfl (DY s t2 (Kg k2 true 3)) rfl rfl (AU _ _ _) ?_;intro w7 bA7 Xa;have H7:=Aa (H6.Ug Xa bA7);have hz7:=H7.Ab.R.lt;clear bA6 bA7 Xa H6)|((with_reducible refine OP 65 ?_);refine Az rfl (.tmp 62) (.tmp 64) _ rfl FB (w.heap.size+2) Za3 u7 ds.length _ rfl (H7.more ((Ai.refl _).alloc _)).own _ 1 1 [tx z] rfl (Ik _ _ _ 1 1 rfl) Za2 Zd6 Zd7 ?_;intro v8 w8 Lh bI bP));go_roundg (n - (k+1));case rel=>exact ⟨k+1,ds++[z],z,t2,Kg k2 true 3,rfl,Xl,by go_num,rfl,by show _=_;have:=hdk.Ab;simp [this],(H7.more ((Ai.refl _).alloc _)).app Lh bI,HS⟩
       case measure=>rw [Cs.Ab];omega
      ·replace HS:=Aa (HS false (by simp [hA]));have hA2:((alike was z:Int)==(m:Int))=false:=by simp;omega
       have hA3:(alike was z==m)=false:=by simp [hA]
       clear hA;refine Ie 16 Za0 Za0 ?_;simp only [Pn,Pm,Rc,Pj];repeat (first
        |((with_reducible show wpQuiet _ _ _ _ (⟨some 46,_,_,_,_,_⟩::_) _);refine Ah rfl Ar (.tmp 10) rfl w3.heap.size 0 rfl (DY s t2 k2) rfl BQ.lt BQ.range ?_;simp only [Act.put,LP])
        |go_big_quiet_step ((first|(go_at_call 85;exact GA (HIS _))|(go_at_call 54;exact AB (HAL _))|(go_at_call 113;exact AB (Nw s t2 k2 3 false _)))))
       exact Zj5
   ·have d1:(kk==0)=false:=by simpa using hk0
    have HN:=Aa (hI.bad hk0);have bR:=H.Ab.R;clear hk0 hI;go_wp2_with (((with_reducible refine OS 4 ?_);refine Ae rfl Ar (.tmp 4) (.tmp 67) rfl (w.heap.size+1) rfl bR rfl (DY s t kk) rfl rfl (AU _ _ _) ?_;intro w7 bC Xa));obtain ⟨A,c,rfl,_⟩:=Ao H.own;refine Bc (Au rfl Ar rfl bC rfl) rfl ?_;rw [HN.Ab];refine ⟨H.Av.DN Xa Xl,t,A,c,ds,rfl,Kn (H.own.kept Xa ?_) Xl,fun ts l h=>by cases h⟩;exact FZ H.own Xl
  ·have bR:=H.Ab.R;obtain ⟨A,c,hv,_⟩:=Ao H.own;subst hv;have HN:Hid (kk=Aq2 (tread most (s.drop t0))∧∀ ts l,tread most (s.drop t0)=.ok (ts,l)→ds=ts∧∃ tn:Nat,t=tn∧tn≤s.length∧l=s.drop tn):=by
    show _∧_;by_cases hk0:kk=0
    ·subst hk0;obtain ⟨_,tn,rfl,htn,_,hE⟩:=hI.good;have hE2:tread most (s.drop t0)=.ok (ds,s.drop tn):=by rw [hE,show n - k=0 by omega];simp [Gv,ahead]
     rw [hE2];refine ⟨rfl,fun ts l h=>?_⟩;injection h with h;injection h with h1 h2;exact ⟨h1,tn,rfl,htn,h2.symm⟩
    ·have hE2:=hI.bad hk0;rw [hE2];exact ⟨rfl,fun ts l h=>by cases h⟩
   clear hI;go_wp2_with (((with_reducible refine OS 4 ?_);refine Ae rfl Ar (.tmp 4) (.tmp 67) rfl (w.heap.size+1) rfl bR rfl (DY s t kk) rfl rfl (AU _ _ _) ?_;intro w7 bC Xa));refine Bc (Au rfl Ar rfl bC rfl) rfl ?_;refine ⟨H.Av.DN Xa Xl,t,A,c,ds,by rw [←HN.1];rfl,Kn (H.own.kept Xa (FZ H.own Xl)) Xl,HN.2⟩
theorem ZK (s:List UInt8) (t k most:Int) (hk:k≠0) (w:World):
 Calls prog 118 #[Iz s t k,.int .i64 most] w fun e w'=>e=.returned (.tuple #[Iz s t k,.slice none 0 0])∧Ai w w':=by
 have HK:=Aa hk;clear hk;go_enter func118,ntmps118;go_wp2_with fail;have bA:=(Bh.new w 141 (DY s t k)).alloc (.cells #[.string ⟨#[]⟩,.int .i64 0,.int .i64 0] 141);have bB:=Bh.new (w.alloc (.cells (DY s t k) 141)) 141 #[.string ⟨#[]⟩,.int .i64 0,.int .i64 0];have hW:=((Ai.refl w).alloc (.cells (DY s t k) 141)).alloc (.cells #[.string ⟨#[]⟩,.int .i64 0,.int .i64 0] 141);rw [Gf] at bB;refine (Vy s t k most HK _).mono ?_;rintro e w1 ⟨rfl,hb1⟩;have H1:vB w s t k (.slice none 0 0) [] w1:=⟨hW.trans hb1,bA.Av hb1,bB.Av hb1,⟨rfl,.inl ⟨rfl,rfl⟩⟩⟩;have Qz:=H1.A;have HW1:=Aa H1;clear bA bB hW hb1 H1;go_wp2_with (((with_reducible refine OS 2 ?_);refine Ae rfl Ar (.tmp 2) (.tmp 17) rfl w.heap.size rfl Qz rfl (DY s t k) rfl rfl (AU _ _ _) ?_;intro w2 MO hg2;have HW2:=Aa (HW1.Ug hg2 MO);clear Qz MO hg2 HW1));go_loopg [7,9] 0 (fun g o i wr=>o=.slice none 0 0∧i=.int .i64 0∧wr=w2);case atStart=>exact ⟨rfl,rfl,rfl⟩
 case round=>
  obtain ⟨rfl,rfl,rfl⟩:=hrel;obtain ⟨a0,a1,a2,f0,f1,f2⟩:=HW2.Ab.A.three;have bR:=HW2.Ab.R;go_wp2_with (((with_reducible refine OS 4 ?_);refine Ae rfl Ar (.tmp 4) (.tmp 67) rfl (w.heap.size+1) rfl bR rfl (DY s t k) rfl rfl (AU _ _ _) ?_;intro w7 bC Xa));refine Bc (Au rfl Ar rfl bC rfl) rfl ?_;exact ⟨rfl,HW2.Av.DN Xa Xl⟩
def El {α:Type} (s:List UInt8) (o:PR α) (t k:Int) (x:α):Prop:=
 (k≠0∧o=.error k)∨(k=0∧∃ tn:Nat,t=tn∧tn≤s.length∧o=.ok (x,s.drop tn))
def As5 {α β:Type} (o:PR α) (f:α→β):PR β:=match o with|.error e=>.error e|.ok (x,r)=>.ok (f x,r)
theorem El.start (s:List UInt8) (tn:Nat) (h:tn≤s.length):El s (.ok ((),s.drop tn)) tn 0 ():=.inr ⟨rfl,tn,rfl,h,rfl⟩
theorem El.map {α β:Type} {s:List UInt8} {o:PR α} {t k:Int} {x:α} (h:El s o t k x) (f:α→β):El s (As5 o f) t k (f x):=by
 rcases h with ⟨h1,h2⟩|⟨h1,tn,h3,h4,h2⟩
 ·exact .inl ⟨h1,by rw [h2];(try rfl)⟩
 ·exact .inr ⟨h1,tn,h3,h4,by rw [h2];(try rfl)⟩
theorem dX.res {α:Type} {s:List UInt8} {o:PR α} {V:α→Value} {z:Value} {w w':World} {e:Ending} (h:dX s o V z w e w') (z0:α) (hz:V z0=z) (hk:∀ k,o=.error k→k≠0):
 ∃ (t k:Int) (x:α),e=.returned (.tuple #[Iz s t k,V x])∧Ai w w'∧Hid (El s o t k x):=by
 obtain ⟨hb,hm⟩:=h;cases o with
 |error k=>
  obtain ⟨t,rfl⟩:=hm;exact ⟨t,k,z0,by rw [hz],hb,.inl ⟨hk k rfl,rfl⟩⟩
 |ok q=>
  obtain ⟨x,l⟩:=q;obtain ⟨t,ht,hl,rfl⟩:=hm;exact ⟨t,0,x,rfl,hb,.inr ⟨rfl,t,rfl,ht,by rw [hl]⟩⟩
theorem NQ {most k:Int} {l:List UInt8} (h:Dp most l=.error k):k=3∨k=5:=by
 unfold Dp at h;split at h
 ·rename_i h2;injection h with h;subst h;exact EE h2
 ·exact .inl (aF h).1
end Go.Proofs.YtijplolmkcdflaaGreat
namespace Go.Proofs.YtijplolmkcdflaaGreat
open Tryz
open Go.RowKit Go.ChangeShapes Go.WideShapes Go.Deep
def Ap9 (P:Prop) (w:World) (e:Ending) (w':World):Prop:=∃ b:Bool,e=.returned (.bool b)∧(b=true→P)∧Ai w w'
structure Row.rd {α:Type} [AY α] (w:World) (x:Row α):Prop where
 r:Rd w (AY.size α) x.A x.n (x.l.flatMap AY.cells)
 all:∀ a ∈ x.l,AY.ok w a
 n63:x.n≤9223372036854775807
section
variable {α : Type} [AY α] {w w' : World} {x : Row α}
theorem Row.ok.zS (h:x.ok w):x.rd w:=⟨h.rd,h.all,h.size⟩
theorem Row.rd.mono (h:x.rd w) (hb:Ai w w'):x.rd w':=⟨h.r.Av hb,fun a ha=>AY.mono hb (h.all a ha),h.n63⟩
theorem Row.rd.len (h:x.rd w):x.l.length=x.n:=Il h.r
theorem Row.rd.texts {w:World} {x:Row (List UInt8)} (h:x.rd w):Rd w 1 x.A x.n (x.l.map tx):=by have:=h.r;rwa [IQ] at this
theorem Row.rd.ints {w:World} {x:Row Int} (h:x.rd w):Rd w 1 x.A x.n (x.l.map (Value.int .i64)):=by have:=h.r;rwa [Gz] at this
theorem Row.rd.nU {w:World} {x:Row (List UInt8)} (h:x.rd w):TxOk x.l:=fun t ht=>IA (h.all t ht) Xl
theorem Row.MS {α:Type} [AY α] (w:World):(Row.mk none 0 0 ([]:List α)).rd w:=⟨Rd.nil,(fun a ha=>by cases ha),by show (0:Nat)≤_;omega⟩
end
structure Bt where
 nm:List UInt8
 ts:Row (List UInt8)
 up:Row Int
abbrev Bt.cs (t:Bt):Array Value:=#[.string ⟨t.nm.toArray⟩,.slice t.ts.A t.ts.n t.ts.c,.slice t.up.A t.up.n t.up.c]
structure Bt.rd (w:World) (t:Bt):Prop where
 nm:t.nm.length≤140737488351232
 ts:t.ts.rd w
 up:t.up.rd w
theorem Bt.rd.mono {w w':World} {t:Bt} (h:t.rd w) (hb:Ai w w'):t.rd w':=⟨h.nm,h.ts.mono hb,h.up.mono hb⟩
instance As8:AY Bt where
 size:=3
 bytes:=64
 cells t:=t.cs.toList
 ok w t:=t.rd w
 len _:=rfl
 pos:=by omega
 mono hb h:=h.mono hb
theorem Lb (t:Bt):t.cs.all (·.oneCell')=true:=by simp [Value.oneCell']
structure Dm where
 nm:List UInt8
 tr:Row Bt
abbrev Dm.cs (d:Dm):Array Value:=#[.string ⟨d.nm.toArray⟩,.slice d.tr.A d.tr.n d.tr.c]
structure Dm.rd (w:World) (d:Dm):Prop where
 nm:d.nm.length≤140737488351232
 tr:d.tr.rd w
theorem Dm.rd.mono {w w':World} {d:Dm} (h:d.rd w) (hb:Ai w w'):d.rd w':=⟨h.nm,h.tr.mono hb⟩
instance Av2:AY Dm where
 size:=2
 bytes:=40
 cells d:=d.cs.toList
 ok w d:=d.rd w
 len _:=rfl
 pos:=by omega
 mono hb h:=h.mono hb
theorem Qs (d:Dm):d.cs.all (·.oneCell')=true:=by simp [Value.oneCell']
theorem Du:Ep prog 75 3:=⟨⟨_,underlying75,rfl⟩,by kernel_rfl⟩
theorem CX:Ep prog 73 2:=⟨⟨_,underlying73,rfl⟩,by kernel_rfl⟩
theorem OV:Cy prog 71 75 3 64:=Cy.mk' (z:=.agg #[.string ⟨#[]⟩,.slice none 0 0,.slice none 0 0]) underlying71 Za0 rfl Xl
theorem fV:Cy prog 22 73 2 40:=Cy.mk' (z:=.agg #[.string ⟨#[]⟩,.slice none 0 0]) underlying22 Za0 rfl Xl
theorem LM:Cy prog 47 3 1 8:=Cy.mk' (z:=.int .i64 0) underlying47 Za0 rfl Xl
theorem Aw6:prog.cellsOf 9=1:=by kernel_rfl
theorem Aw7:prog.cellsOf 3=1:=by kernel_rfl
theorem Row.rd.GR {w:World} {x:Row (List UInt8)} (h:x.rd w) {k:Nat} (hk:k<x.n):∃ b o t,x.A=some ⟨b,o,none⟩∧x.l[k]?=some t∧t.length≤140737488351232∧w.cell? ⟨b,o+k,none⟩=some (.string ⟨t.toArray⟩):=by
 obtain ⟨b,o,t,e,ht,hc⟩:=Oz rfl h.r hk;exact ⟨b,o,t,e,ht,h.all t (CU ht),hc _ rfl⟩
theorem Row.rd.Pv {w:World} {x:Row Int} (h:x.rd w) {k:Nat} (hk:k<x.n):∃ b o z,x.A=some ⟨b,o,none⟩∧x.l[k]?=some z∧AZ z∧w.cell? ⟨b,o+k,none⟩=some (.int .i64 z):=by
 obtain ⟨b,o,z,e,hz,hc⟩:=Oz rfl h.r hk;exact ⟨b,o,z,e,hz,h.all z (CU hz),hc _ rfl⟩
theorem Row.rd.JO {w:World} {x:Row Bt} (h:x.rd w) {k:Nat} (hk:k<x.n):∃ b o t,x.A=some ⟨b,o,none⟩∧b<w.heap.size∧x.l[k]?=some t∧t.rd w∧w.rangeAt b (o+k * 3) t.cs.toList:=by
 obtain ⟨b,o,t,e,hb,ht,hc⟩:=NP h.r hk;exact ⟨b,o,t,e,hb,ht,h.all t (CU ht),hc⟩
theorem Row.rd.Sd {w:World} {x:Row Dm} (h:x.rd w) {k:Nat} (hk:k<x.n):∃ b o t,x.A=some ⟨b,o,none⟩∧b<w.heap.size∧x.l[k]?=some t∧t.rd w∧w.rangeAt b (o+k * 2) t.cs.toList:=by
 obtain ⟨b,o,t,e,hb,ht,hc⟩:=NP h.r hk;exact ⟨b,o,t,e,hb,ht,h.all t (CU ht),hc⟩
end Go.Proofs.YtijplolmkcdflaaGreat
namespace Go.Proofs.YtijplolmkcdflaaGreat
open Tryz
open Go.RowKit
structure TC where
 nm:List UInt8
 ts:List (List UInt8)
 up:List Int
deriving DecidableEq
def DW (up:List Int) (members:Nat) (above:Int):Bool:=
 if above≤0 then up.isEmpty
 else decide (up.length=members) && up.all (fun n=>decide (0≤n∧n<above)) && (List.range above.toNat).all (fun i=>up.contains (i:Int))
def Bo (t:TC) (above:Int):Int:=
 if DJ t.nm then (if t.ts.length<1∨200<t.ts.length then 5 else if Cr t.ts≠0 then Cr t.ts else if DW t.up t.ts.length above then 0 else 14) else 2
def JN (up:List Int):List UInt8:=up.flatMap fun n=>Cx n.toNat
def Cz (t:TC):List UInt8:=Dc t.nm++LW t.ts++JN t.up
def LF (most:Int):Nat→List UInt8→PR (List Int)
 |0,l=>.ok ([],l)
 |n+1,l=>
  match DD most l with
  |.error k=>.error k
  |.ok (x,r)=>
   match LF most n r with
   |.error k=>.error k
   |.ok (xs,r)=>.ok ((x:Int)::xs,r)
def QT (above:Int) (n:Nat) (l:List UInt8):PR (List Int):=if 0<above then LF (above - 1) n l else .ok ([],l)
def JV (above:Int) (t:TC) (r:List UInt8):PR TC:=if Bo t above=0 then .ok (t,r) else .error (Bo t above)
def ED (above:Int) (l:List UInt8):PR TC:=
 match Dp 12 l with
 |.error k=>.error k
 |.ok (nm,r)=>
  match tread 200 r with
  |.error k=>.error k
  |.ok (ts,r)=>
   match QT above ts.length r with
   |.error k=>.error k
   |.ok (up,r)=>JV above ⟨nm,ts,up⟩ r
theorem eT (ts:List (List UInt8)):∀ p,rowFrom p ts=0∨rowFrom p ts=2∨rowFrom p ts=4:=by
 induction ts with
 |nil=>intro p;exact .inl rfl
 |cons t r ih=>
  intro p;rw [rowFrom];split
  ·split
   ·exact .inr (.inr rfl)
   ·exact ih _
  ·exact .inr (.inl rfl)
theorem Kh (t:TC) (above:Int):Bo t above=0∨Bo t above=2∨Bo t above=4∨Bo t above=5∨Bo t above=14:=by
 unfold Bo;have:=eT t.ts none;unfold Cr
 (repeat' split)<;>omega
theorem EK {t:TC} {above:Int} (h:Bo t above=0):DJ t.nm=true∧1≤t.ts.length∧t.ts.length≤200∧Cr t.ts=0∧DW t.up t.ts.length above=true:=by
 unfold Bo at h;split at h
 ·rename_i h1;split at h
  ·cases h
  ·rename_i h2;split at h
   ·rename_i h3;exact absurd h h3
   ·rename_i h3;split at h
    ·rename_i h4;exact ⟨h1,Xl,Xl,Xl,h4⟩
    ·cases h
 ·cases h
theorem Ev {l:List UInt8} (h:DJ l=true):1≤l.length∧l.length≤12:=by
 unfold DJ at h;simp at h;exact h.1
theorem PX {up:List Int} {m:Nat} {above:Int} (h:above≤0):DW up m above=up.isEmpty:=by unfold DW;rw [Al h]
theorem WH {up:List Int} {m:Nat} {above:Int} (h:0<above) (ht:DW up m above=true):up.length=m∧(∀ n ∈ up,0≤n∧n<above)∧∀ i:Nat,(i:Int)<above→(i:Int) ∈ up:=by
 unfold DW at ht;rw [Ak Xl] at ht;simp only [Vj,Rb,Rl] at ht;obtain ⟨⟨h1,h2⟩,h3⟩:=ht;refine ⟨h1,fun n hn=>by simpa using h2 n hn,fun i hi=>?_⟩;have:=h3 i Za3;simpa using this
theorem P5 {above:Int}:∀ {up:List Int},(∀ n ∈ up,0≤n∧n<above)→above≤9223372036854775807→∀ r,LF (above - 1) up.length (JN up++r)=.ok (up,r):=by
 intro up;induction up with
 |nil=>intro h ha r;rfl
 |cons n up ih=>
  intro h ha r;have hn:=h n (Gg ..);have e:JN (n::up)++r=Cx n.toNat++(JN up++r):=by unfold JN;rw [Df,Ef]
  rw [En,LF,e,RG Xl Xl];simp only;rw [ih (fun x hx=>h x (Ii _ hx)) ha];simp only;rw [show ((n.toNat:Nat):Int)=n by omega]
theorem wW {most:Int}:∀ {n:Nat} {l r:List UInt8} {up:List Int},LF most n l=.ok (up,r)→up.length=n∧l=JN up++r∧∀ x ∈ up,0≤x∧x≤most:=by
 intro n;induction n with
 |zero=>
  intro l r up h;injection h with h;injection h with h1 h2;subst h1;subst h2;exact ⟨rfl,rfl,fun x hx=>by cases hx⟩
 |succ n ih=>
  intro l r up h;rw [LF] at h;split at h
  ·cases h
  ·rename_i x r1 hp;split at h
   ·cases h
   ·rename_i xs r2 hs;injection h with h;injection h with h1 h2;subst h1;subst h2;obtain ⟨a1,a2,a3⟩:=ih hs;refine ⟨by simp [a1],?_,fun y hy=>?_⟩
    ·rw [Fy hp,a2];unfold JN;rw [Df,Ef]
     rfl
    ·rcases FJ.1 hy with rfl|hy
     ·have:=ES hp;omega
     ·exact a3 y hy
theorem P6 {most:Int}:∀ {n:Nat} {l:List UInt8} {k:Int},LF most n l=.error k→k=3∨k=5:=by
 intro n;induction n with
 |zero=>intro l k h;cases h
 |succ n ih=>
  intro l k h;rw [LF] at h;split at h
  ·rename_i hp;injection h with h;subst h;exact EE hp
  ·split at h
   ·rename_i hs;injection h with h;subst h;exact ih hs
   ·cases h
theorem vO {ts:List (List UInt8)} {most:Int} (h:Cr ts=0) (hn:(ts.length:Int)≤most) (hb:ts.length≤100000) (r:List UInt8):tread most (LW ts++r)=.ok (ts,r):=by
 unfold tread LW;rw [Ef,RG Xl hn];simp only;exact kJ (ts:=ts) (p:=none) (was:=[]) h (.inr ⟨rfl,rfl⟩) uH r
theorem O1 {t:TC} {above:Int} (ha:above≤9223372036854775807) (h:Bo t above=0) (r:List UInt8):ED above (Cz t++r)=.ok (t,r):=by
 obtain ⟨h1,h2,h3,h4,h5⟩:=EK h;have hl:=Ev h1;have e:Cz t++r=Dc t.nm++(LW t.ts++(JN t.up++r)):=by unfold Cz;simp only [Ef]
 unfold ED;rw [e,kX Xl Xl];simp only;rw [vO h4 Xl Xl];simp only;have hu:QT above t.ts.length (JN t.up++r)=.ok (t.up,r):=by
  unfold QT;by_cases h0:0<above
  ·rw [Al h0];obtain ⟨a1,a2,_⟩:=WH h0 h5;rw [←a1];exact P5 a2 ha r
  ·rw [Ak h0];rw [PX Xl] at h5;have:t.up=[]:=by simpa using h5
   rw [this]
   rfl
 rw [hu];simp only;unfold JV;rw [Al h]
theorem wU {above:Int} {l r:List UInt8} {t:TC} (h:ED above l=.ok (t,r)):Bo t above=0∧l=Cz t++r:=by
 unfold ED at h;split at h
 ·cases h
 ·rename_i nm r1 h1;split at h
  ·cases h
  ·rename_i ts r2 h2;split at h
   ·cases h
   ·rename_i up r3 h3;unfold JV at h;split at h
    ·rename_i h4;injection h with h;injection h with h5 h6;subst h5;subst h6;refine ⟨h4,?_⟩;have hu:r2=JN up++r3:=by
      unfold QT at h3;split at h3
      ·exact (wW h3).2.1
      ·injection h3 with h3;injection h3 with h7 h8;subst h7;subst h8
       rfl
     unfold Cz;rw [KN h1,(LV h2).2,hu];simp only [Ef]
    ·cases h
theorem RS:∀ {xs ys:List Nat},xs.Nodup→(∀ x ∈ xs,x ∈ ys)→xs.length≤ys.length
 |[],_,_,_=>by simp
 |x::xs,ys,hd,hs=>by
  obtain ⟨hx,hd'⟩:=WA.1 hd;have hm:=hs x (Gg ..);have h1:=RS (xs:=xs) (ys:=ys.erase x) hd' (fun y hy=>(List.mem_erase_of_ne (a:=y) (b:=x) (by intro e;rw [e] at hy;exact hx hy)).2 (hs y (Ii _ hy)));rw [List.length_erase_of_mem hm] at h1;have:=List.length_pos_of_mem hm;rw [En];omega
theorem mW {xs:List Nat} {m:Nat} (h:∀ x ∈ xs,x<m) (hd:xs.Nodup):xs.length=m↔∀ i,i<m→i ∈ xs:=by
 constructor
 ·intro hl i hi;by_cases hm:i ∈ xs
  ·exact hm
  ·exfalso;have h1:(i::xs).Nodup:=WA.2 ⟨hm,hd⟩;have h2:=RS (ys:=List.range m) h1 (by
    intro y hy;rcases FJ.1 hy with rfl|hy
    ·exact PV.2 hi
    ·exact PV.2 (h y hy))
   simp at h2;omega
 ·intro hc;have a:=RS (ys:=List.range m) hd (fun y hy=>PV.2 (h y hy));have b:=RS (xs:=List.range m) (ys:=xs) List.nodup_range (fun y hy=>hc y (PV.1 hy));simp at a b;omega
def UW (acc:List Int) (x:Int):List Int:=if acc.contains x then acc else acc++[x]
theorem zC (xs:List Int):∀ acc:List Int,(xs.map (Lit.int .i64)).foldl Maps.addKey (acc.map (Lit.int .i64))=(xs.foldl UW acc).map (Lit.int .i64):=by
 induction xs with
 |nil=>intro acc;rfl
 |cons x xs ih=>
  intro acc;rw [Em,Wz,Wz,←ih]
  congr 1
  unfold Maps.addKey UW;have e:((acc.map (Lit.int .i64)).any fun y=>y.sameKey (Lit.int .i64 x))=acc.contains x:=by
   rw [List.any_map,List.contains_eq_any_beq]
   congr 1
   funext y
   simp only [Function.comp,Lit.sameKey];by_cases h:y=x<;>simp [h];exact fun e=>h e.symm
  rw [e];split
  ·rfl
  ·simp
theorem Ak3 (xs:List Int):∀ (acc:List Int) (y:Int),y ∈ xs.foldl UW acc↔y ∈ acc∨y ∈ xs:=by
 induction xs with
 |nil=>intro acc y;simp
 |cons x xs ih=>
  intro acc y;rw [Wz,ih];unfold UW;split
  ·rename_i h;have hx:x ∈ acc:=by simpa using h
   simp only [FJ];constructor
   ·rintro (h|h)
    ·exact .inl h
    ·exact .inr (.inr h)
   ·rintro (h|h|h)
    ·exact .inl h
    ·subst h;exact .inl hx
    ·exact .inr h
  ·simp only [Eb,Ee,FJ,or_assoc,List.not_mem_nil,or_false]
theorem zD (xs:List Int):∀ acc:List Int,acc.Nodup→(xs.foldl UW acc).Nodup:=by
 induction xs with
 |nil=>intro acc h;exact h
 |cons x xs ih=>
  intro acc h;rw [Wz];apply ih;unfold UW;split
  ·exact h
  ·rename_i hx;have hx':x ∉ acc:=by simpa using hx
   rw [List.nodup_append];exact ⟨h,uH,fun a ha b hb=>by simp at hb;subst hb;exact fun e=>hx' (e ▸ ha)⟩
theorem dV {xs:List Int} {above:Int} (h0:0<above) (h:∀ x ∈ xs,0≤x∧x<above):decide (((xs.foldl UW []).length:Int)=above)=(List.range above.toNat).all (fun i=>xs.contains (i:Int)):=by
 have hm:∀ y,y ∈ xs.foldl UW []↔y ∈ xs:=fun y=>by rw [Ak3];simp
 have hd:=zD xs [] List.nodup_nil;have hn:((xs.foldl UW []).map Int.toNat).Nodup:=by
  rw [List.Nodup,List.pairwise_map];refine List.Pairwise.imp_of_mem (fun {a b} ha hb hne e=>hne ?_) hd;have h1:=h a ((hm a).1 ha);have h2:=h b ((hm b).1 hb);omega
 have hc:=mW (xs:=(xs.foldl UW []).map Int.toNat) (m:=above.toNat) (by
  intro x hx;obtain ⟨y,hy,rfl⟩:=Kc.1 hx;have:=h y ((hm y).1 hy);omega) hn
 rw [CQ] at hc;rw [Wy];simp only [Rb,Rl,PV];constructor
 ·intro hl i hi;have:=hc.1 Xl i hi;obtain ⟨y,hy,hyi⟩:=Kc.1 this;have h1:=h y ((hm y).1 hy);have:(i:Int)=y:=by omega
  rw [this];simpa using (hm y).1 hy
 ·intro ha;have:=hc.2 (fun i hi=>by
   have h1:(i:Int) ∈ xs:=by simpa using ha i hi
   exact Kc.2 ⟨(i:Int),(hm _).2 h1,Xl⟩)
  omega
abbrev Nl:DataW Unit:=.lit (.int .i64 1)
def VJ (xs:List Int):List Lit:=xs.map (Lit.int .i64)
theorem V3 (xs:List Int):∀ x ∈ VJ xs,WideAt.IsKeyLit x:=by
 intro x hx;obtain ⟨y,_,rfl⟩:=Kc.1 hx
 trivial
theorem K3 (xs:List Int):Maps.size (Maps.setOf Nl (VJ xs))=(xs.foldl UW []).length:=by
 rw [Maps.size_setOf _ _ (V3 xs)];have:=zC xs [];rw [EX] at this;unfold VJ;rw [this,CQ]
theorem G8 {z:Int} (h:AZ z):(Lit.int .i64 z).wf=true:=by
 unfold AZ at h;simp [Lit.wf,IntKind.min,IntKind.max,IntKind.signed,IntKind.bits];omega
theorem vR {up:List Int} {k:Nat} {z:Int} (h:up[k]?=some z):VJ (up.take (k+1))=VJ (up.take k)++[.int .i64 z]:=by
 obtain ⟨hk,rfl⟩:=CB.1 h;unfold VJ;rw [Rh hk,Cf]
 rfl
theorem Rd.rA {w:World} {A:Option Addr} {n k:Nat} {zs:List Int} (h:Rd w 1 A n (zs.map (Value.int .i64))) (hk:k<n):∃ ad z,A=some ad∧zs[k]?=some z∧w.cell? (ad.add k)=some (.int .i64 z):=by
 obtain ⟨ad,u,e,_,hx,hc⟩:=Reads.at_ h hk;rw [Ed] at hx;cases hz:zs[k]? with
 |none=>rw [hz] at hx;cases hx
 |some z=>
  rw [hz] at hx;simp at hx;subst hx;exact ⟨ad,z,e,rfl,hc⟩
theorem Zv0 {p:Prop} (h:p:=by show _=_;rw [HT.Ab,Bool.and_eq_false_iff];left;rw [←Bool.not_eq_true,Rl];intro h;have:=h z hzm.Ab;simp at this;omega):p:=h
theorem Za4 {p:Prop} (h:p:=by unfold maxLen;omega):p:=h
theorem Ac6 (A:Option Addr) (n c:Nat) (up:List Int) (m:Nat) (above:Int) (w:World) (hr:Rd w 1 A n (up.map (Value.int .i64))) (hI:∀ z ∈ up,AZ z) (hn:n≤100000) (hm:m≤9223372036854775807) (ha:AZ above):
 Calls prog 194 #[.slice A n c,.int .i64 m,.int .i64 above] w fun e w'=>e=.returned (.bool (DW up m above))∧Ai w w':=by
 have hlen:Hid (up.length=n):=by have:=hr.len;show _=_;simpa using this
 obtain ⟨a0,a1⟩:=ha;by_cases h0:above≤0
 ·have HT:Hid (DW up m above=decide (n=0)):=by
   show _=_;rw [PX h0,←hlen.Ab];cases up<;>simp
  go_enter func194,ntmps194;go_wp2;go_ret;rw [HT.Ab];refine ⟨ZQ ?_,Ai.refl _⟩;by_cases h:n=0<;>simp [h]
 ·have h0':0<above:=by omega
  have d0:decide (above≤0)=false:=by simp;omega
  by_cases hl:n=m
  ·subst hl;have HT:Hid (DW up n above=(up.all (fun n=>decide (0≤n∧n<above)) && (List.range above.toNat).all (fun i=>up.contains (i:Int)))):=by
    show _=_;unfold DW;rw [Ak h0,hlen.Ab];simp
   have hmm:=@run_makeMap prog;have hHI:=Aa hI;have hHr:=Aa hr;clear hI;go_enter func194,ntmps194;go_wp2_with fail;have M0:Hid ((w.alloc (.map #[] 0)).ownsMap prog 3 (plainElem prog 3) w.heap.size 0 (Maps.setOf Nl (VJ (up.take 0)))):=World.ownsMap_made _ _ _ _;have B0:Hid (Ai w (w.alloc (.map #[] 0))):=(Ai.refl w).alloc _;have A0:Hid (∀ z ∈ up.take 0,0≤z∧z<above):=by show ∀ z ∈ up.take 0,_;simp
   go_loopg [22] n (fun gg i wr=>∃ k:Nat,gg=n - k∧k≤n∧i=.int .i64 k∧Hid (wr.ownsMap prog 3 (plainElem (H:=Unit) prog 3) w.heap.size k (Maps.setOf Nl (VJ (up.take k))))∧Hid (Ai w wr)∧Hid (∀ z ∈ up.take k,0≤z∧z<above));case atStart=>exact ⟨0,rfl,Xl,rfl,M0,B0,A0⟩
   case round=>
    clear M0 B0 A0;obtain ⟨k,BR,hk,rfl,hM,hB,hA⟩:=hrel;have Cs:=Aa BR;clear BR;by_cases hlt:k<n
    ·obtain ⟨ad,z,rfl,hz,hc⟩:=Rd.rA (hHr.Av hB.Ab) hlt;obtain ⟨z0,z1⟩:=hHI z (CU hz);have Hz:=Aa hz;have hzm:=Aa (CU hz);clear hz;by_cases hz0:0≤z
     ·by_cases hz1:z<above
      ·have HA2:Hid (∀ y ∈ up.take (k+1),0≤y∧y<above):=by
        show ∀ y ∈ up.take (k+1),_;obtain ⟨hk',rfl⟩:=CB.1 Hz.Ab;rw [Rh hk'];intro y hy;rcases Eb.1 hy with hy|hy
        ·exact hA y hy
        ·simp at hy;subst hy;exact ⟨hz0,hz1⟩
       go_wp2_with ((with_reducible show wpList _ _ _ (⟨_,.mapUpdate _ _ _ _,_,_,_,_⟩::_) _ _);refine Zf _ rfl (.tmp 33) (.tmp 34) _ 290 rfl 3 3 (Maps.int_keyed underlying3) underlying290 _ w.heap.size k _ rfl hM Za4 _ _ (.int .i64 z) rfl rfl (Maps.keyOf_int_mk underlying3 (G8 ⟨z0,z1⟩)) Nl [] (YV underlying3 (G8 Za5)) ?_;intro w1 hown1 hgrow1);go_roundg (n - (k+1));case rel=>exact ⟨k+1,rfl,Xl,by go_num,by show World.ownsMap _ _ _ _ _ _ _;rw [vR Hz.Ab,Maps.setOf_snoc];exact hown1,hB.DN hgrow1 (Ci _),HA2⟩
       case measure=>rw [Cs.Ab];omega
      ·have HF:Hid (DW up n above=false):=by
        exact Zv0
       go_wp2;go_ret;rw [HF.Ab];exact ⟨rfl,hB.Ab⟩
     ·have HF:Hid (DW up n above=false):=by
       exact Zv0
      go_wp2;go_ret;rw [HF.Ab];exact ⟨rfl,hB.Ab⟩
    ·have hkn:Hid (up.take k=up):=by show _=_;exact EU Za9
     rw [hkn.Ab] at hM hA;have HF:Hid (DW up n above=decide (((Maps.size (Maps.setOf Nl (VJ up)):Nat):Int)=above)):=by
      show _=_;rw [HT.Ab,K3,dV h0' hA.Ab];have:(up.all fun n=>decide (0≤n∧n<above))=true:=by rw [Rl];intro y hy;simpa using hA y hy
      rw [this,YT]
     go_wp2_with ((with_reducible refine OP 37 ?_);refine wpList_len_own _ rfl (.tmp 36) 290 rfl 3 3 underlying290 _ w.heap.size k _ rfl hM.Ab ?_);go_ret;rw [HF.Ab];refine ⟨ZQ ?_,hB.Ab⟩;rw [Wy];simp
  ·have HF:Hid (DW up m above=false):=by
    show _=_;unfold DW;rw [Ak h0,hlen.Ab];simp [hl]
   go_enter func194,ntmps194;go_wp2;go_ret;rw [HF.Ab];exact ⟨rfl,Ai.refl _⟩
abbrev Bt.Ac (t:Bt):TC:=⟨t.nm,t.ts.l,t.up.l⟩
theorem Zc7 {p:Prop} (h:p:=by have:=htl.Ab;omega):p:=h
theorem Rs (t:Bt) (above:Int) (w:World) (ht:t.rd w) (hn:t.up.n≤100000) (ha:AZ above):
 Calls prog 173 #[.agg t.cs,.int .i64 above] w fun e w'=>e=.returned (.int .i64 (Bo t.Ac above))∧Ai w w':=by
 have hW:=(Ai.refl w).alloc (.cells t.cs 75);have h1:=ht.mono hW;obtain ⟨hnm,hts,hup⟩:=ht;have htl:Hid (t.ts.l.length=t.ts.n):=hts.len;have hn63:=hts.n63;obtain ⟨nm,⟨A,n,c,ts⟩,⟨A2,n2,c2,up⟩⟩:=t;simp only [Bt.cs,Bt.Ac] at *;have HR:=Aa h1.ts.texts;have HX:=Aa h1.ts.nU;have HU:=Aa h1.up.ints;have HUI:=Aa h1.up.all;have HW:=Aa hW;clear hW h1 hts hup;cases hN:DJ nm with
 |false=>
  have HE:Hid (Bo ⟨nm,ts,up⟩ above=2):=by show _=_;unfold Bo;simp [hN]
  go_enter func173,ntmps173;go_wp2_with fail;refine (Mx nm _ Xl).mono ?_;rintro e w1 ⟨rfl,rfl⟩;rw [hN,show PD false=2 from rfl];go_wp2;go_ret;rw [HE.Ab];exact ⟨rfl,HW.Ab⟩
 |true=>
  by_cases hl:1≤n∧n≤200
  ·obtain ⟨hl1,hl2⟩:=hl;have d1:decide ((n:Int)<1)=false:=by simp;omega
   have d2:decide ((200:Int)<n)=false:=by simp;omega
   by_cases hE:Cr ts=0
   ·have HE:Hid (Bo ⟨nm,ts,up⟩ above=if DW up n above then 0 else 14):=by
     show _=_;unfold Bo;simp only [hN,Gu];rw [Ak Zc7,Ak Xl,htl.Ab]
    have Ng:=Aa hE;clear hE;go_enter func173,ntmps173;go_wp2_with fail;refine (Mx nm _ Xl).mono ?_;rintro e w1 ⟨rfl,rfl⟩;rw [hN,show PD true=0 from rfl];go_wp2_with fail;refine (Rq A n c ts _ HR HX Xl).mono ?_;rintro e w1 ⟨rfl,rfl⟩;rw [Ng.Ab];go_wp2_with fail;refine (Ac6 A2 n2 c2 up n above _ HU HUI hn Xl ha).mono ?_;rintro e w1 ⟨rfl,hb1⟩;cases hT:DW up n above with
    |false=>
     rw [hT] at HE;go_wp2;go_ret;rw [HE.Ab];exact ⟨rfl,HW.trans hb1⟩
    |true=>
     rw [hT] at HE;go_wp2;go_ret;rw [HE.Ab];exact ⟨rfl,HW.trans hb1⟩
   ·have HE:Hid (Bo ⟨nm,ts,up⟩ above=Cr ts):=by
     show _=_;unfold Bo;simp only [hN,Gu];rw [Ak Zc7,Al hE]
    have dE:(Cr ts !=0)=true:=by simpa using hE
    have dE2:(Cr ts==0)=false:=by simpa using hE
    clear hE;go_enter func173,ntmps173;go_wp2_with fail;refine (Mx nm _ Xl).mono ?_;rintro e w1 ⟨rfl,rfl⟩;rw [hN,show PD true=0 from rfl];go_wp2_with fail;refine (Rq A n c ts _ HR HX Xl).mono ?_;rintro e w1 ⟨rfl,rfl⟩;go_wp2;go_ret;rw [HE.Ab];exact ⟨rfl,HW.Ab⟩
  ·have HE:Hid (Bo ⟨nm,ts,up⟩ above=5):=by
    show _=_;unfold Bo;simp only [hN,Gu];rw [Al Zc7]
   rcases (show n<1∨(1≤n∧200<n) by omega) with h|⟨h,h'⟩;all_goals
    first|(have d1:decide ((n:Int)<1)=true:=by simp;omega)|(have d1:decide ((n:Int)<1)=false:=by simp;omega)
    first|(have d2:decide ((200:Int)<n)=true:=by simp;omega)|(have d2:decide ((200:Int)<n)=false:=by simp;omega)
    clear hl;go_enter func173,ntmps173;go_wp2_with fail;refine (Mx nm _ Xl).mono ?_;rintro e w1 ⟨rfl,rfl⟩;rw [hN,show PD true=0 from rfl];go_wp2;go_ret;rw [HE.Ab];exact ⟨rfl,HW.Ab⟩
theorem An0 (A:Option Addr) (n c:Nat) (up:List Int) (x:Int) (w:World) (hr:Rd w 1 A n (up.map (Value.int .i64))) (hn:n≤9223372036854775806):
 Calls prog 169 #[.slice A n c,.int .i64 x] w fun e w'=>e=.returned (.bool (up.contains x))∧w=w':=by
 have hlen:Hid (up.length=n):=by have:=hr.len;show _=_;simpa using this
 have HF0:Hid (up.contains x=(up.drop 0).contains x):=rfl;go_enter func169,ntmps169;go_wp2;go_loopg [9] n (fun gg i wr=>∃ k:Nat,gg=n - k∧k≤n∧i=.int .i64 k∧wr=w∧Hid (up.contains x=(up.drop k).contains x));case atStart=>exact ⟨0,rfl,Xl,rfl,rfl,HF0⟩
 case round=>
  clear HF0;obtain ⟨k,BR,hk,rfl,rfl,hF⟩:=hrel;have Cs:=Aa BR;clear BR;by_cases hlt:k<n
  ·obtain ⟨ad,z,rfl,hz,hc⟩:=Rd.rA hr hlt;have hd:up.drop k=z::up.drop (k+1):=by
    obtain ⟨hk',rfl⟩:=CB.1 hz;exact Eg hk'
   by_cases hzx:z=x
   ·have HN:Hid (up.contains x=true):=by show _=_;rw [hF.Ab,hd,hzx];simp
    have e1:(z==x)=true:=by simp [hzx]
    clear hF hd hz hzx;go_wp2;go_ret;rw [HN.Ab];exact ⟨rfl,rfl⟩
   ·have HN:Hid (up.contains x=(up.drop (k+1)).contains x):=by
     show _=_;rw [hF.Ab,hd,List.contains_cons];have:(x==z)=false:=by simp;exact fun e=>hzx e.symm
     rw [this,Bool.false_or]
    have e1:(z==x)=false:=by simp [hzx]
    clear hF hd hz hzx;go_wp2;go_roundg (n - (k+1));case rel=>exact ⟨k+1,rfl,Xl,by go_num,rfl,HN⟩
    case measure=>rw [Cs.Ab];omega
  ·have HN:Hid (up.contains x=false):=by show _=_;rw [hF.Ab,EN Za9];rfl
   clear hF;go_wp2;go_ret;rw [HN.Ab];exact ⟨rfl,rfl⟩
theorem Ak4 (xs:List Int):∀ acc:List Int,(xs.foldl UW acc).length≤acc.length+xs.length:=by
 induction xs with
 |nil=>intro acc;simp
 |cons x xs ih=>
  intro acc;rw [Wz];have h1:=ih (UW acc x);have h2:(UW acc x).length≤acc.length+1:=by unfold UW;split<;>simp
  simp only [En];omega
theorem Ab2 {up:List Int} {above:Int} {k:Nat} {z:Int} (hz:up[k]?=some z):(up.drop k).all (fun n=>decide (0≤n∧n<above))=(decide (0≤z∧z<above) && (up.drop (k+1)).all (fun n=>decide (0≤n∧n<above))):=by
 obtain ⟨hk',rfl⟩:=CB.1 hz;rw [Eg hk',List.all_cons]
theorem Zf6 {p:Prop} (h:p:=by have:=lT.Ab;omega):p:=h
theorem L6 (t:Bt) (above:Int) (w:World) (ht:t.rd w) (hn:t.ts.n≤200) (ha:AZ above):
 Calls prog 128 #[.agg t.cs,.int .i64 above] w fun e w'=>e=.returned (.bool (DW t.up.l t.ts.n above))∧Ai w w':=by
 have hW:=(Ai.refl w).alloc (.cells t.cs 75);have h1:=ht.mono hW;obtain ⟨hnm,hts,hup⟩:=ht;have htl:Hid (t.ts.l.length=t.ts.n):=hts.len;have lT:Hid (t.up.l.length=t.up.n):=hup.len;have hn63:=hts.n63;have hu63:=hup.n63;obtain ⟨nm,⟨A,n,c,ts⟩,⟨A2,n2,c2,up⟩⟩:=t;simp only [Bt.cs,Bt.Ac] at *;have HR:=Aa h1.ts.texts;have HX:=Aa h1.ts.nU;have HU:=Aa h1.up.ints;have HUI:=Aa h1.up.all;have HW:=Aa hW;clear hW h1 hts hup;obtain ⟨a0,a1⟩:=ha;have hBK:=Bh.new w 75 #[.string ⟨nm.toArray⟩,.slice A n c,.slice A2 n2 c2];by_cases h0:above≤0
 ·have HT:Hid (DW up n above=decide (n2=0)):=by
   show _=_;rw [PX h0,←lT.Ab];cases up<;>simp
  go_enter func128,ntmps128;go_wp2;go_ret;rw [HT.Ab];refine ⟨ZQ ?_,HW.Ab⟩;by_cases h:n2=0<;>simp [h]
 ·have d0:decide (above≤0)=false:=by simp;omega
  by_cases hl:n2=n
  ·subst hl;by_cases h200:200<above
   ·have d2:decide ((200:Int)<above)=true:=by simp;omega
    have HF:Hid (DW up n2 above=false):=by
     show _=_;rw [←Bool.not_eq_true];intro hT;obtain ⟨b1,b2,b3⟩:=WH Xl hT;have:=(dV (xs:=up) (above:=above) Xl b2);have h4:(List.range above.toNat).all (fun i=>up.contains (i:Int))=true:=by
      rw [Rl];intro i hi;have:=b3 i (by have:=PV.1 hi;omega);simpa using this
     rw [h4] at this;simp only [Rb] at this;have h5:=Ak4 up [];simp at h5;omega
    go_enter func128,ntmps128;go_wp2;go_ret;rw [HF.Ab];exact ⟨rfl,HW.Ab⟩
   ·have d2:decide ((200:Int)<above)=false:=by simp;omega
    have HT:Hid (DW up n2 above=((up.drop 0).all (fun n=>decide (0≤n∧n<above)) && (List.range above.toNat).all (fun i=>up.contains (i:Int)))):=by
     show _=_;unfold DW;rw [Ak h0,lT.Ab];simp
    go_enter func128,ntmps128;go_wp2_with fail;have hzz:w.heap.size<(w.alloc (.cells #[.string ⟨nm.toArray⟩,.slice A n2 c,.slice A2 n2 c2] 75)).heap.size:=by simp
    have cu:=hBK.cell 2;simp only [Re,FR,TE] at cu;generalize w.alloc (.cells #[.string ⟨nm.toArray⟩,.slice A n2 c,.slice A2 n2 c2] 75)=W at *;clear hBK;go_loopg [28] n2 (fun gg i wr=>∃ k:Nat,gg=n2 - k∧k≤n2∧i=.int .i64 k∧wr=W∧Hid (DW up n2 above=((up.drop k).all (fun n=>decide (0≤n∧n<above)) && (List.range above.toNat).all (fun i=>up.contains (i:Int)))));case atStart=>exact ⟨0,rfl,Xl,rfl,rfl,HT⟩
    case round=>
     clear HT;obtain ⟨k,BR,hk,rfl,rfl,hF⟩:=hrel;have Cs:=Aa BR;clear BR;by_cases hlt:k<n2
     ·obtain ⟨ad,z,rfl,hz,hc⟩:=Rd.rA HU hlt;obtain ⟨z0,z1⟩:=HUI z (CU hz);have HS:=Aa (Ab2 (above:=above) hz);clear hz;by_cases hz0:0≤z
      ·by_cases hz1:z<above
       ·have HN:Hid (DW up n2 above=((up.drop (k+1)).all (fun n=>decide (0≤n∧n<above)) && (List.range above.toNat).all (fun i=>up.contains (i:Int)))):=by
         show _=_;rw [hF.Ab,HS.Ab];simp [hz0,hz1]
        clear hF HS;go_wp2;go_roundg (n2 - (k+1));case rel=>exact ⟨k+1,rfl,Xl,by go_num,rfl,HN⟩
        case measure=>rw [Cs.Ab];omega
       ·have HN:Hid (DW up n2 above=false):=by show _=_;rw [hF.Ab,HS.Ab];simp [hz1]
        clear hF HS;go_wp2;go_ret;rw [HN.Ab];exact ⟨rfl,HW.Ab⟩
      ·have HN:Hid (DW up n2 above=false):=by show _=_;rw [hF.Ab,HS.Ab];simp [hz0]
       clear hF HS;go_wp2;go_ret;rw [HN.Ab];exact ⟨rfl,HW.Ab⟩
     ·have HN:Hid (DW up n2 above=(List.range' 0 (above.toNat - 0)).all (fun i=>up.contains (i:Int))):=by
       show _=_;rw [hF.Ab,EN Zf6,List.range_eq_range'];simp
      clear hF;go_wp2_with fail;go_loopg [7] above.toNat (fun gg i wx=>∃ k:Nat,gg=above.toNat - k∧(k:Int)≤above∧i=.int .i64 k∧wx=wr∧Hid (DW up n2 above=(List.range' k (above.toNat - k)).all (fun i=>up.contains (i:Int))));case atStart=>exact ⟨0,rfl,Xl,rfl,rfl,HN⟩
      case round=>
       clear HN;obtain ⟨j,hgj,hj,rfl,rfl,hF⟩:=hrel;have Lt:=Aa hgj;clear hgj;by_cases hjl:(j:Int)<above
       ·have HS:Hid ((List.range' j (above.toNat - j)).all (fun i=>up.contains (i:Int))=(up.contains (j:Int) && (List.range' (j+1) (above.toNat - (j+1))).all (fun i=>up.contains (i:Int)))):=by
         show _=_;rw [show above.toNat - j=(above.toNat - (j+1))+1 by omega,List.range'_succ,List.all_cons]
        go_wp2_with fail;refine (An0 A2 n2 c2 up j _ HU Xl).mono ?_;rintro e w1 ⟨rfl,rfl⟩;cases hC:up.contains (j:Int) with
        |false=>
         have HN:Hid (DW up n2 above=false):=by show _=_;rw [hF.Ab,HS.Ab,hC];rfl
         clear hF HS hC;go_wp2;go_ret;rw [HN.Ab];exact ⟨rfl,HW.Ab⟩
        |true=>
         have HN:Hid (DW up n2 above=(List.range' (j+1) (above.toNat - (j+1))).all (fun i=>up.contains (i:Int))):=by show _=_;rw [hF.Ab,HS.Ab,hC];rfl
         clear hF HS hC;go_wp2;go_roundg (above.toNat - (j+1));case rel=>exact ⟨j+1,rfl,Xl,by go_num,rfl,HN⟩
         case measure=>rw [Lt.Ab];omega
       ·have HN:Hid (DW up n2 above=true):=by show _=_;rw [hF.Ab,show above.toNat - j=0 by omega];rfl
        clear hF;go_wp2;go_ret;rw [HN.Ab];exact ⟨rfl,HW.Ab⟩
  ·have HF:Hid (DW up n above=false):=by
    show _=_;unfold DW;rw [Ak h0,lT.Ab];simp [hl]
   have dl:((n2:Int) !=(n:Int))=true:=by simp;omega
   have dl2:((n2:Int)==(n:Int))=false:=by simp;omega
   go_enter func128,ntmps128;go_wp2;go_ret;rw [HF.Ab];exact ⟨rfl,HW.Ab⟩
theorem Rp (t:Bt) (above:Int) (w:World) (ht:t.rd w) (ha:AZ above):
 Calls prog 83 #[.agg t.cs,.int .i64 above] w fun e w'=>e=.returned (.int .i64 (Bo t.Ac above))∧Ai w w':=by
 have F3:=Aa (fun (hl:t.ts.n≤200) w' (hb:Ai w w')=>L6 t above w' (ht.mono hb) hl ha);have hW:=(Ai.refl w).alloc (.cells t.cs 75);have h1:=ht.mono hW;obtain ⟨hnm,hts,hup⟩:=ht;have htl:Hid (t.ts.l.length=t.ts.n):=hts.len;have lT:Hid (t.up.l.length=t.up.n):=hup.len;have hn63:=hts.n63;obtain ⟨nm,⟨A,n,c,ts⟩,⟨A2,n2,c2,up⟩⟩:=t;simp only [Bt.cs,Bt.Ac] at *;have HR:=Aa h1.ts.texts;have HX:=Aa h1.ts.nU;have HU:=Aa h1.up.ints;have HUI:=Aa h1.up.all;have HW:=Aa hW;clear hW h1 hts hup;cases hN:DJ nm with
 |false=>
  have HE:Hid (Bo ⟨nm,ts,up⟩ above=2):=by show _=_;unfold Bo;simp [hN]
  go_enter func83,ntmps83;go_wp2_with fail;refine (KM nm _ Xl).mono ?_;rintro e w1 ⟨rfl,rfl⟩;rw [hN];go_wp2;go_ret;rw [HE.Ab];exact ⟨rfl,HW.Ab⟩
 |true=>
  by_cases hl:1≤n∧n≤200
  ·obtain ⟨hl1,hl2⟩:=hl;have d1:decide ((n:Int)<1)=false:=by simp;omega
   have d2:decide ((200:Int)<n)=false:=by simp;omega
   have HTR2:=Aa (F3 hl2);clear F3;by_cases hE:Cr ts=0
   ·have HE:Hid (Bo ⟨nm,ts,up⟩ above=if DW up n above then 0 else 14):=by
     show _=_;unfold Bo;simp only [hN,Gu];rw [Ak Zc7,Ak Xl,htl.Ab]
    have Ng:=Aa hE;clear hE;go_enter func83,ntmps83;go_wp2_with fail;refine (KM nm _ Xl).mono ?_;rintro e w1 ⟨rfl,rfl⟩;rw [hN];go_wp2_with fail;refine (WK A n c ts _ HR HX Xl).mono ?_;rintro e w1 ⟨rfl,hb1⟩;rw [Ng.Ab];have q1:=((Bh.new w 75 #[.string ⟨nm.toArray⟩,.slice A n c,.slice A2 n2 c2]).Av hb1);have HB1:=Aa (HW.trans hb1);clear hb1;go_wp2_with ((with_reducible refine OP 26 ?_);refine CY rfl Du (.tmp 2) rfl w.heap.size rfl q1 rfl ?_);refine (HTR2 _ HB1.Ab).mono ?_;rintro e w2 ⟨rfl,hb2⟩;cases hT:DW up n above with
    |false=>
     rw [hT] at HE;go_wp2;go_ret;rw [HE.Ab];exact ⟨rfl,HB1.trans hb2⟩
    |true=>
     rw [hT] at HE;go_wp2;go_ret;rw [HE.Ab];exact ⟨rfl,HB1.trans hb2⟩
   ·have HE:Hid (Bo ⟨nm,ts,up⟩ above=Cr ts):=by
     show _=_;unfold Bo;simp only [hN,Gu];rw [Ak Zc7,Al hE]
    have dE:(Cr ts !=0)=true:=by simpa using hE
    have dE2:(Cr ts==0)=false:=by simpa using hE
    clear hE;go_enter func83,ntmps83;go_wp2_with fail;refine (KM nm _ Xl).mono ?_;rintro e w1 ⟨rfl,rfl⟩;rw [hN];go_wp2_with fail;refine (WK A n c ts _ HR HX Xl).mono ?_;rintro e w1 ⟨rfl,hb1⟩;go_wp2;go_ret;rw [HE.Ab];exact ⟨rfl,HW.trans hb1⟩
  ·have HE:Hid (Bo ⟨nm,ts,up⟩ above=5):=by
    show _=_;unfold Bo;simp only [hN,Gu];rw [Al Zc7]
   rcases (show n<1∨(1≤n∧200<n) by omega) with h|⟨h,h'⟩;all_goals
    first|(have d1:decide ((n:Int)<1)=true:=by simp;omega)|(have d1:decide ((n:Int)<1)=false:=by simp;omega)
    first|(have d2:decide ((200:Int)<n)=true:=by simp;omega)|(have d2:decide ((200:Int)<n)=false:=by simp;omega)
    clear hl;go_enter func83,ntmps83;go_wp2_with fail;refine (KM nm _ Xl).mono ?_;rintro e w1 ⟨rfl,rfl⟩;rw [hN];go_wp2;go_ret;rw [HE.Ab];exact ⟨rfl,HW.Ab⟩
def Mr (t:TC) (above:Int):List UInt8 × Int:=if Bo t above=0 then (Cz t,0) else ([],Bo t above)
theorem PY {t:TC} {above:Int} (h:Bo t above=0):t.up.length≤200:=by
 obtain ⟨_,_,h3,_,h5⟩:=EK h;by_cases h0:0<above
 ·have:=(WH h0 h5).1;omega
 ·rw [PX Xl] at h5;have:t.up=[]:=by simpa using h5
  rw [this];simp
theorem Zr1 {p:Prop} (h:p:=by
 go_wp2;go_roundg (n2 - (k+1));case rel=>exact ⟨k+1,l++Cx z.toNat,rfl,Xl,by go_num,by simp only [Ch],by simp only [Cn];omega,hB.trans hb5,hB2.trans hb5,HN⟩
 case measure=>rw [Cs.Ab];omega
):p:=h
theorem Zv5 {p:Prop} (h:p:=by refine (HC _ HW.Ab).mono ?_;rintro e w1 ⟨rfl,hb1⟩;go_wp2;go_ret2;rw [HV.Ab];exact ⟨rfl,HW.trans hb1⟩):p:=h
theorem I5 (t:Bt) (above:Int) (w:World) (ht:t.rd w) (hn:t.up.n≤100000) (ha:AZ above):
 Calls prog 189 #[.agg t.cs,.int .i64 above] w fun e w'=>e=.returned (.tuple #[.string ⟨(Mr t.Ac above).1.toArray⟩,.int .i64 (Mr t.Ac above).2])∧Ai w w':=by
 have HC:=Aa (fun w' (hb:Ai w w')=>Rs t above w' (ht.mono hb) hn ha);have hW:=(Ai.refl w).alloc (.cells t.cs 75);have h1:=ht.mono hW;obtain ⟨hnm,hts,hup⟩:=ht;have htl:Hid (t.ts.l.length=t.ts.n):=hts.len;have lT:Hid (t.up.l.length=t.up.n):=hup.len;have hn63:=hts.n63;have hu63:=hup.n63;obtain ⟨nm,⟨A,n,c,ts⟩,⟨A2,n2,c2,up⟩⟩:=t;simp only [Bt.cs,Bt.Ac] at *;have HR:=Aa h1.ts.texts;have HX:=Aa h1.ts.nU;have HU:=Aa h1.up.ints;have HUI:=Aa h1.up.all;have HW:=Aa hW;clear hW h1 hts hup;by_cases hE:Bo ⟨nm,ts,up⟩ above=0
 ·have HV:Hid (Mr ⟨nm,ts,up⟩ above=(Cz ⟨nm,ts,up⟩,0)):=by show _=_;unfold Mr;rw [Al hE]
  obtain ⟨e1,e2,e3,e4,_⟩:=EK hE;have e5:=PY hE;have e6:=Ev e1;have e7:=Zt e4;simp only at e1 e2 e3 e4 e5 e6 e7;have htv:Hid (XB ts=(LW ts,0)):=by show _=_;unfold XB;rw [Al e4]
  have hp:(Dc nm).length≤21:=by unfold Dc;rw [Cn];have:=Cc nm.length;omega
  have HO:Hid (Cz ⟨nm,ts,up⟩=(Dc nm++LW ts)++JN (up.drop 0)):=by show _=_;unfold Cz;simp
  have hl2:n≤200:=by have:=htl.Ab;omega
  have hl3:n2≤200:=by have:=lT.Ab;omega
  have htl2:(LW ts).length≤6809:=by omega
  rw [hE] at HC;clear hE e1 e2 e3 e4 e5 e7;go_enter func189,ntmps189;go_wp2_with fail;refine (HC _ HW.Ab).mono ?_;rintro e w1 ⟨rfl,hb1⟩;have q1:=((Bh.new w 75 #[.string ⟨nm.toArray⟩,.slice A n c,.slice A2 n2 c2]).Av hb1);obtain ⟨c0,c1,c2',_,_,_⟩:=q1.three;have HB1:=Aa (HW.trans hb1);have HR1:=Aa (HR.Av hb1);have HU1:=Aa (HU.Av hb1);have hz1:=q1.lt;clear hb1 HW HR HU HC;go_wp2_with fail;refine (Ac7 A n c ts _ HR1 HX Xl).mono ?_;rintro e w2 ⟨rfl,hb2⟩;rw [htv.Ab];obtain ⟨d0,d1,d2',_,_,_⟩:=(q1.Av hb2).three;have q2:=q1.Av hb2;have HB2:=Aa (HB1.trans hb2);have HU2':=Aa (HU1.Av hb2);clear hb2 c0 c1 c2' HB1 HR1 HU1 q1 hz1;go_wp2_with fail;refine (OA nm _ Xl).mono ?_;rintro e w3 ⟨rfl,hb3⟩;obtain ⟨f0,f1,f2',_,_,_⟩:=(q2.Av hb3).three;have HWB:=Aa (HB2.trans hb3);have HU2:=Aa (HU2'.Av hb3);clear hb3 d0 d1 d2' q2 HB2 HU2';go_wp2_with fail;clear f0 f1 f2';go_loopg [9,32] n2 (fun gg o i wr=>∃ (k:Nat) (l:List UInt8),gg=n2 - k∧k≤n2∧i=.int .i64 k∧o=.string ⟨l.toArray⟩∧l.length≤7000+9 * k∧Hid (Ai w wr)∧Hid (Ai w3 wr)∧Hid (Cz ⟨nm,ts,up⟩=l++JN (up.drop k)));case atStart=>exact ⟨0,_,rfl,Xl,rfl,by simp only [Ch],by simp only [Cn];omega,HWB,Ai.refl _,HO⟩
  case round=>
   clear HO HWB;obtain ⟨k,l,BR,hk,rfl,rfl,hl,hB,hB2,hO⟩:=hrel;have Cs:=Aa BR;clear BR;by_cases hlt:k<n2
   ·obtain ⟨ad,z,rfl,hz,hc⟩:=Rd.rA (HU2.Av hB2.Ab) hlt;obtain ⟨z0,z1⟩:=HUI z (CU hz);have HN:Hid (Cz ⟨nm,ts,up⟩=(l++Cx z.toNat)++JN (up.drop (k+1))):=by
     show _=_;obtain ⟨hk',rfl⟩:=CB.1 hz;rw [hO.Ab,Eg hk'];unfold JN;rw [Df,Ef]
    have hl9:=Cc z.toNat;clear hz hO;go_wp2_with fail;refine (Jt z _ z0 z1).mono ?_;rintro e w5 ⟨rfl,hb5⟩;exact Zr1
   ·have HN:Hid (Cz ⟨nm,ts,up⟩=l):=by
     show _=_;rw [hO.Ab,EN Zf6];simp [JN]
    clear hO;go_wp2;go_ret2;rw [HV.Ab,HN.Ab];exact ⟨rfl,hB.Ab⟩
 ·have HV:Hid (Mr ⟨nm,ts,up⟩ above=([],Bo ⟨nm,ts,up⟩ above)):=by show _=_;unfold Mr;rw [Ak hE]
  have dE:(Bo ⟨nm,ts,up⟩ above !=0)=true:=by simpa using hE
  have dE2:(Bo ⟨nm,ts,up⟩ above==0)=false:=by simpa using hE
  clear hE;go_enter func189,ntmps189;go_wp2_with fail;exact Zv5
theorem wF (t:Bt) (above:Int) (w:World) (ht:t.rd w) (hE:Bo t.Ac above=0):
 Calls prog 55 #[.agg t.cs] w fun e w'=>e=.returned (.string ⟨(Cz t.Ac).toArray⟩)∧Ai w w':=by
 have hW:=(Ai.refl w).alloc (.cells t.cs 75);have h1:=ht.mono hW;obtain ⟨hnm,hts,hup⟩:=ht;have htl:Hid (t.ts.l.length=t.ts.n):=hts.len;have lT:Hid (t.up.l.length=t.up.n):=hup.len;have hn63:=hts.n63;have hu63:=hup.n63;obtain ⟨nm,⟨A,n,c,ts⟩,⟨A2,n2,c2,up⟩⟩:=t;simp only [Bt.cs,Bt.Ac] at *;have HR:=Aa h1.ts.texts;have HX:=Aa h1.ts.nU;have HU:=Aa h1.up.ints;have HUI:=Aa h1.up.all;have HW:=Aa hW;clear hW h1 hts hup;obtain ⟨e1,e2,e3,e4,_⟩:=EK hE;have e5:=PY hE;have e6:=Ev e1;have e7:=Zt e4;simp only at e1 e2 e3 e4 e5 e6 e7;have hp:(Dc nm).length≤21:=by unfold Dc;rw [Cn];have:=Cc nm.length;omega
 have HO:Hid (Cz ⟨nm,ts,up⟩=(Dc nm++LW ts)++JN (up.drop 0)):=by show _=_;unfold Cz;simp
 have hl2:n≤200:=by have:=htl.Ab;omega
 have hl3:n2≤200:=by have:=lT.Ab;omega
 have htl2:(LW ts).length≤6809:=by omega
 have HE4:=Aa e4;clear hE e1 e2 e3 e4 e5 e7;have q0:=Bh.new w 75 #[.string ⟨nm.toArray⟩,.slice A n c,.slice A2 n2 c2];obtain ⟨g0,g1,g2,_,_,_⟩:=q0.three;go_enter func55,ntmps55;go_wp2_with fail;have d0:=fun u:Over (w.alloc (.cells #[.string ⟨nm.toArray⟩,.slice A n c,.slice A2 n2 c2] 75))=>Over.cell g0 u
 have d1:=fun u:Over (w.alloc (.cells #[.string ⟨nm.toArray⟩,.slice A n c,.slice A2 n2 c2] 75))=>Over.cell g1 u
 refine Am ?_;repeat (go_big_quiet_step (first|(go_at_call 30;exact AB (Nj nm _ Xl))|(go_at_call 31;rename_i u;exact AB (L8 A n c ts _ (HR.Av u.Av) HE4 Xl))))
 refine CS ?_;rintro _ ⟨u,rfl⟩;clear d0 d1 g0 g1 g2;have q3:=q0.Av u.Av;obtain ⟨f0,f1,f2',_,_,_⟩:=q3.three;have HWB:=Aa (HW.trans u.Av);have HU2:=Aa (HU.Av u.Av);have hzz:=q3.lt;generalize u.wd=w3 at *;clear q0 q3;go_wp2_with fail;clear f0 f1 f2';go_loopg [3,16] n2 (fun gg o i wr=>∃ (k:Nat) (l:List UInt8),gg=n2 - k∧k≤n2∧i=.int .i64 k∧o=.string ⟨l.toArray⟩∧l.length≤7000+9 * k∧Hid (Ai w wr)∧Hid (Ai w3 wr)∧Hid (Cz ⟨nm,ts,up⟩=l++JN (up.drop k)));case atStart=>exact ⟨0,_,rfl,Xl,rfl,by simp only [Ch],by simp only [Cn];omega,HWB,Ai.refl _,HO⟩
 case round=>
  clear HO HWB;obtain ⟨k,l,BR,hk,rfl,rfl,hl,hB,hB2,hO⟩:=hrel;have Cs:=Aa BR;clear BR;by_cases hlt:k<n2
  ·obtain ⟨ad,z,rfl,hz,hc⟩:=Rd.rA (HU2.Av hB2.Ab) hlt;obtain ⟨z0,z1⟩:=HUI z (CU hz);have HN:Hid (Cz ⟨nm,ts,up⟩=(l++Cx z.toNat)++JN (up.drop (k+1))):=by
    show _=_;obtain ⟨hk',rfl⟩:=CB.1 hz;rw [hO.Ab,Eg hk'];unfold JN;rw [Df,Ef]
   have hl9:=Cc z.toNat;clear hz hO;go_wp2_with fail;refine (Jr z _ z0 z1).mono ?_;rintro e w5 ⟨rfl,hb5⟩;exact Zr1
  ·have HN:Hid (Cz ⟨nm,ts,up⟩=l):=by
    show _=_;rw [hO.Ab,EN Zf6];simp [JN]
   clear hO;go_wp2;go_ret;rw [HN.Ab];exact ⟨rfl,hB.Ab⟩
def Ki (a b:TC):Bool:=(a.nm==b.nm) && (a.ts==b.ts) && (a.up==b.up)
theorem K7 (a b:TC):Ki a b=decide (a=b):=by
 obtain ⟨n1,t1,u1⟩:=a;obtain ⟨n2,t2,u2⟩:=b;unfold Ki;rw [Wy];simp [and_assoc]
theorem qZ {xs ys:List Int} {k:Nat} {a b:Int} (ha:xs[k]?=some a) (hb:ys[k]?=some b):(xs.drop k==ys.drop k)=((a==b) && (xs.drop (k+1)==ys.drop (k+1))):=by
 obtain ⟨h1,rfl⟩:=CB.1 ha;obtain ⟨h2,rfl⟩:=CB.1 hb;rw [Eg h1,Eg h2]
 rfl
theorem mO {α:Type} [BEq α] [LawfulBEq α] {xs ys:List α} (h:xs.length≠ys.length):(xs==ys)=false:=by
 rw [Xt];intro e;exact h (by rw [e])
theorem vL (t s:Bt) (w:World) (ht:t.rd w) (hs:s.rd w):
 Calls prog 163 #[.agg t.cs,.agg s.cs] w fun e w'=>e=.returned (.bool (Ki t.Ac s.Ac))∧Ai w w':=by
 have hW:=((Ai.refl w).alloc (.cells t.cs 75)).alloc (.cells s.cs 75);have h1:=ht.mono hW;have h2:=hs.mono hW;have q1:=(Bh.new w 75 t.cs).alloc (.cells s.cs 75);have q2:=Bh.new (w.alloc (.cells t.cs 75)) 75 s.cs;rw [Gf] at q2;have tl1:Hid (t.ts.l.length=t.ts.n):=ht.ts.len;have tl2:Hid (t.up.l.length=t.up.n):=ht.up.len;have sl1:Hid (s.ts.l.length=s.ts.n):=hs.ts.len;have sl2:Hid (s.up.l.length=s.up.n):=hs.up.len;have n1:=ht.ts.n63;have n2:=ht.up.n63;obtain ⟨nm,⟨A,n,c,ts⟩,⟨A2,m,c2,up⟩⟩:=t;obtain ⟨nm',⟨A',n',c',ts'⟩,⟨A2',m',c2',up'⟩⟩:=s;simp only [Bt.cs,Bt.Ac] at *;have HT1:=Aa h1.ts.texts;have HU1:=Aa h1.up.ints;have HT2:=Aa h2.ts.texts;have HU2:=Aa h2.up.ints;have HW:=Aa hW;obtain ⟨x0,x1,x2,_,_,_⟩:=q1.three;obtain ⟨y0,y1,y2,_,_,_⟩:=q2.three;clear h1 h2 ht hs hW;by_cases hnm:nm=nm'
 ·subst hnm;by_cases hl:n=n'
  ·subst hl;by_cases hl2:m=m'
   ·subst hl2;have HS0:Hid (Ki ⟨nm,ts,up⟩ ⟨nm,ts',up'⟩=((ts.drop 0==ts'.drop 0) && (up==up'))):=by show _=_;unfold Ki;simp
    go_enter func163,ntmps163;go_wp2_with fail;generalize (w.alloc (.cells #[.string ⟨nm.toArray⟩,.slice A n c,.slice A2 m c2] 75)).alloc (.cells #[.string ⟨nm.toArray⟩,.slice A' n c',.slice A2' m c2'] 75)=W at *;have hz:=q2.lt;clear q1 q2;go_loopg [33] n (fun gg i wr=>∃ k:Nat,gg=n - k∧k≤n∧i=.int .i64 k∧Hid (Ai W wr)∧Hid (Ki ⟨nm,ts,up⟩ ⟨nm,ts',up'⟩=((ts.drop k==ts'.drop k) && (up==up'))));case atStart=>exact ⟨0,rfl,Xl,rfl,Ai.refl _,HS0⟩
    case round=>
     clear HS0;obtain ⟨k,BR,hk,rfl,hB,hF⟩:=hrel;have Cs:=Aa BR;clear BR;have x1':=(hB.cell (JM _ _ x1)).trans x1;have x2':=(hB.cell (JM _ _ x2)).trans x2;have y1':=(hB.cell (JM _ _ y1)).trans y1;have y2':=(hB.cell (JM _ _ y2)).trans y2;by_cases hlt:k<n
     ·obtain ⟨ad,a,rfl,hak,hc⟩:=(HT1.Av hB.Ab).tx hlt;obtain ⟨bd,b,rfl,hbk,hd⟩:=(HT2.Av hB.Ab).tx hlt;have HS:=Aa (vK hak hbk);clear hak hbk;cases hab:(a==b) with
      |true=>
       have HR:Hid (Ki ⟨nm,ts,up⟩ ⟨nm,ts',up'⟩=((ts.drop (k+1)==ts'.drop (k+1)) && (up==up'))):=by show _=_;rw [hF.Ab,HS.Ab,hab];rfl
       clear hF HS;exact Zt0
      |false=>
       have HR:Hid (Ki ⟨nm,ts,up⟩ ⟨nm,ts',up'⟩=false):=by show _=_;rw [hF.Ab,HS.Ab,hab];rfl
       clear hF HS;go_wp2_with fail;go_quiet (fail);go_wp2;go_ret;rw [HR.Ab];exact ⟨rfl,(HW.trans hB.Ab).drewN _⟩
     ·have HR0:Hid (Ki ⟨nm,ts,up⟩ ⟨nm,ts',up'⟩=(up.drop 0==up'.drop 0)):=by
       show _=_;rw [hF.Ab,EN (by have:=tl1.Ab;omega),EN (by have:=sl1.Ab;omega)];simp
      clear hF;go_wp2_with fail;go_loopg [51] m (fun gg i wx=>∃ j:Nat,gg=m - j∧j≤m∧i=.int .i64 j∧Hid (Ai W wx)∧Hid (Ki ⟨nm,ts,up⟩ ⟨nm,ts',up'⟩=(up.drop j==up'.drop j)));case atStart=>exact ⟨0,rfl,Xl,rfl,hB,HR0⟩
      case round=>
       clear HR0 x1' x2' y1' y2';obtain ⟨j,hgj,hj,rfl,xY,hF⟩:=hrel;have Lt:=Aa hgj;clear hgj;have x2':=(xY.cell (JM _ _ x2)).trans x2;have y2':=(xY.cell (JM _ _ y2)).trans y2;by_cases hjl:j<m
       ·obtain ⟨ad,a,rfl,hak,hc⟩:=Rd.rA (HU1.Av xY.Ab) hjl;obtain ⟨bd,b,rfl,hbk,hd⟩:=Rd.rA (HU2.Av xY.Ab) hjl;have HS:=Aa (qZ hak hbk);clear hak hbk;cases hab:(a==b) with
        |true=>
         have HR:Hid (Ki ⟨nm,ts,up⟩ ⟨nm,ts',up'⟩=(up.drop (j+1)==up'.drop (j+1))):=by show _=_;rw [hF.Ab,HS.Ab,hab];rfl
         have hne:(a !=b)=false:=by rw [bne,hab];rfl
         clear hF HS;go_wp2_with fail;go_quiet (fail);go_wp2;go_roundg (m - (j+1));case rel=>exact ⟨j+1,rfl,Xl,by go_num,xY.drewN _,HR⟩
         case measure=>rw [Lt.Ab];omega
        |false=>
         have HR:Hid (Ki ⟨nm,ts,up⟩ ⟨nm,ts',up'⟩=false):=by show _=_;rw [hF.Ab,HS.Ab,hab];rfl
         have hne:(a !=b)=true:=by rw [bne,hab];rfl
         clear hF HS;go_wp2_with fail;go_quiet (fail);go_wp2;go_ret;rw [HR.Ab];exact ⟨rfl,(HW.trans xY.Ab).drewN _⟩
       ·have HR:Hid (Ki ⟨nm,ts,up⟩ ⟨nm,ts',up'⟩=true):=by
         show _=_;rw [hF.Ab,EN (by have:=tl2.Ab;omega),EN (by have:=sl2.Ab;omega)]
         rfl
        clear hF;go_wp2;go_ret;rw [HR.Ab];exact ⟨rfl,HW.trans xY.Ab⟩
   ·have HR:Hid (Ki ⟨nm,ts,up⟩ ⟨nm,ts',up'⟩=false):=by
     show _=_;unfold Ki;rw [mO (xs:=up) (ys:=up') (by have:=tl2.Ab;have:=sl2.Ab;omega)];simp
    have d1:((m:Int) !=(m':Int))=true:=by simp;omega
    have d2:((m:Int)==(m':Int))=false:=by simp;omega
    clear q1 q2;go_enter func163,ntmps163;go_wp2;go_ret;rw [HR.Ab];exact ⟨rfl,HW.Ab⟩
  ·have HR:Hid (Ki ⟨nm,ts,up⟩ ⟨nm,ts',up'⟩=false):=by
    show _=_;unfold Ki;rw [mO (xs:=ts) (ys:=ts') (by have:=tl1.Ab;have:=sl1.Ab;omega)];simp
   have d1:((n:Int) !=(n':Int))=true:=by simp;omega
   have d2:((n:Int)==(n':Int))=false:=by simp;omega
   clear q1 q2;go_enter func163,ntmps163;go_wp2;go_ret;rw [HR.Ab];exact ⟨rfl,HW.Ab⟩
 ·have HR:Hid (Ki ⟨nm,ts,up⟩ ⟨nm',ts',up'⟩=false):=by show _=_;unfold Ki;simp [hnm]
  have d1:(nm==nm')=false:=by simpa using hnm
  clear q1 q2 hnm;go_enter func163,ntmps163;go_wp2;go_ret;rw [HR.Ab];exact ⟨rfl,HW.Ab⟩
end Go.Proofs.YtijplolmkcdflaaGreat
