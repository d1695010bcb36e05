/- What follows was written short by a program: the walks that lead to YtijplolmkcdflaaGreatModelOrder. -/
import GoSem.Op.String
import Derived.Test.YtijplolmkcdflaaGreatProg
import Derived.WalkKit
import Derived.WalkLawsBesides
import Derived.WalkSpells
import Derived.Lib.Hide
import Derived.Below
import Derived.Deep.Draws
import Derived.Deep.QuietTactic
import Derived.BigQuiet
import Derived.IntWalk
import Derived.Deep.LoopGhost
import Derived.Outline
import Derived.Lib.SlBytesRow
import Derived.Deep.RegionHeld3
import Derived.OpenShut
import Derived.Laws.BitsAllLaws
import Derived.Laws.Bits64
import Derived.Laws.OwnMore
import Derived.Maps.AppendAt
import Derived.Deep.AppendLies
import Derived.RegionTactic
import Derived.OwnWalk
import Derived.Deep.RegionLaw
import Derived.Laws.Rows
import Derived.Deep.MidRow
import Derived.Laws.ResultCell
import Derived.ProofKit
import Derived.Deep.Slices
import Derived.SizedLaws
import Derived.StillTail
import Derived.Deep.DeepCutAuto
import Derived.Defers
import Derived.Recover
import Derived.Maps.OwnSet
import Derived.Maps.OwnOps
import Derived.Maps.Own
set_option maxHeartbeats 1000000
set_option maxRecDepth 100000
set_option linter.unusedVariables false
set_option linter.unusedSimpArgs false
namespace Go.Proofs.YtijplolmkcdflaaGreat
abbrev Ca.{u}:=@List.getElem?_eq_some_iff.{u}
abbrev CE.{u}:=@List.mem_of_getElem?.{u}
abbrev Ah.{u}:=@if_neg.{u}
abbrev Ak.{u}:=@if_pos.{u}
abbrev BQ.{u}:=@List.length_append.{u}
abbrev Ep.{u}:=@List.getElem?_eq_getElem.{u}
abbrev Ce:=@Go.bodyPost_ret
abbrev Cq.{u,v}:=@List.length_map.{u,v}
abbrev EY.{u}:=@List.drop_of_length_le.{u}
abbrev DD.{u,v}:=@List.getElem?_map.{u,v}
abbrev DZ.{u}:=@List.drop_eq_getElem_cons.{u}
abbrev Da:=@Int.toNat_natCast
abbrev Bw:=@Nat.zero_le
abbrev EG:=@Go.wp_region_held_drew
abbrev DY.{u}:=@List.take_of_length_le.{u}
abbrev BZ:=@Nat.le_refl
abbrev BR.{u,v}:=@List.map_append.{u,v}
abbrev CZ.{u}:=@List.length_cons.{u}
abbrev Dk.{u}:=@List.append_assoc.{u}
abbrev FW.{u}:=@List.getElem?_cons_succ.{u}
abbrev Dt.{u}:=@List.mem_singleton.{u}
abbrev CY.{u,v}:=@List.flatMap_cons.{u,v}
abbrev Dr.{u}:=@List.mem_cons_self.{u}
abbrev EO.{u}:=@List.mem_cons_of_mem.{u}
abbrev Gu.{u}:=@List.getElem?_take_of_lt.{u}
abbrev DT.{u}:=@List.mem_append.{u}
abbrev PN:=@Go.World.block_lt_of_cell?
abbrev Gt.{u}:=@List.getElem?_eq_none.{u}
abbrev Fa.{u}:=@List.length_take.{u}
abbrev Km.{u}:=@List.eq_nil_of_length_eq_zero.{u}
abbrev CX:=@Go.wpQuiet_nil
abbrev Kl:=@Go.World.size_alloc
abbrev Fy.{u}:=@List.nil_append.{u}
abbrev FD.{u,v}:=@List.flatMap_append.{u,v}
abbrev IA.{u}:=@List.length_drop.{u}
abbrev En.{u}:=@List.mem_cons.{u}
abbrev DI.{u,v}:=@List.map_cons.{u,v}
abbrev NB.{u}:=@Array.all_eq_true_iff_forall_mem.{u}
abbrev Kk:=@Nat.lt_of_lt_of_le
abbrev Kj:=@Go.IntWalk.i64_in
abbrev EZ.{u}:=@List.append_nil.{u}
abbrev Hw:=@Nat.zero_add
abbrev Cm.{u,v}:=@congrArg.{u,v}
abbrev Ki.{u}:=@List.take_append_drop.{u}
abbrev Iz.{u}:=@List.mem_iff_getElem?.{u}
abbrev LZ.{u}:=@List.getElem?_set_self.{u}
abbrev DX:=@Go.wpAnyH_ready
abbrev Oa.{u}:=@List.take_succ_eq_append_getElem.{u}
abbrev JK:=@Go.Result.andThen_ok
abbrev Nz.{u}:=@List.getElem?_append_left.{u}
abbrev IQ.{u}:=@List.cons_append.{u}
abbrev Rb:=@Int.eq_ofNat_of_zero_le
abbrev EF.{u,v}:=@List.map_nil.{u,v}
abbrev Ny:=@Go.WideMaps.keyOf_string_mk
abbrev NZ.{u}:=@List.getElem?_append_right.{u}
abbrev Nw.{u}:=@List.getElem?_set_ne.{u}
abbrev Gm:=@Nat.le_trans
abbrev GZ.{u,v}:=@List.mem_map.{u,v}
abbrev Nv:=@Nat.mul_le_mul_right
abbrev KN.{u}:=@List.getElem?_drop.{u}
abbrev IP:=@Go.Sem.run_bind
abbrev Jk:=@Nat.add_zero
abbrev nW.{u}:=@List.take_succ_cons.{u}
abbrev Gs:=@Nat.add_mul
abbrev Ra.{u}:=@List.getElem?_toArray.{u}
abbrev JJ:=@Go.Sem.run_pure
abbrev KM.{u}:=@List.length_nil.{u}
abbrev IM.{u,v}:=@List.flatMap_nil.{u,v}
abbrev PM.{u}:=@List.getElem?_cons_zero.{u}
abbrev Nu:=@Go.Maps.string_keyed
abbrev QZ:=@Go.wpAnyH_take
abbrev PL.{u}:=@Array.replicate_zero.{u}
abbrev PK.{u}:=@Array.replicate_succ.{u}
abbrev nV.{u}:=@Array.getElem?_eq_none.{u}
abbrev PI.{u,v}:=@List.map_toArray.{u,v}
abbrev Y6.{u}:=@List.drop_succ_cons.{u}
abbrev PH.{u}:=@List.append_toArray.{u}
abbrev Ad6:=@Go.Calls.quiet_of_same
abbrev Nt:=@Nat.lt_or_ge
abbrev Tx:=@decide_eq_true_eq
abbrev QY:=@Go.World.cell?_of_block
abbrev QX.{u}:=@List.mem_of_mem_drop.{u}
abbrev nU.{u}:=@List.getD_eq_getElem?_getD.{u}
abbrev QW:=@Go.World.ownsRow_nil
abbrev Tw.{u}:=@List.take_add_one.{u}
abbrev PG.{u}:=@List.size_toArray.{u}
abbrev PE.{u}:=@List.push_toArray.{u}
abbrev Tv:=@Go.wpList_lookup_own_int
abbrev Tu:=@Go.Lib.run_eql_slice_nil
abbrev wU.{u}:=@List.take_zero.{u}
abbrev Y5.{u}:=@List.drop_zero.{u}
abbrev Tt:=@Nat.eq_zero_or_pos
abbrev aH:=@Nat.pow_le_pow_right
abbrev nT.{u}:=@beq_eq_false_iff_ne.{u}
abbrev Lj:=@Int.le_refl
abbrev XD:=@Bool.and_eq_true
abbrev Tq:=@Nat.add_comm
abbrev Ns:=@Nat.add_assoc
abbrev PD:=@Nat.min_eq_left
abbrev iL.{u}:=@Array.getElem?_setIfInBounds.{u}
abbrev ER.{u}:=@if_true.{u}
abbrev JX:=@Nat.one_mul
abbrev Qn:=@Go.heap_alloc_new
abbrev MP:=@List.mem_range
abbrev UZ.{u}:=@Array.getElem?_eq_some_iff.{u}
abbrev YO.{u}:=@List.mem_or_eq_of_mem_set.{u}
abbrev UY.{u}:=@Array.getElem?_eq_getElem.{u}
abbrev Qm.{u}:=@List.length_set.{u}
abbrev LK:=@of_decide_eq_true
abbrev UX.{u}:=@List.mem_of_mem_take.{u}
abbrev Jo.{u}:=@List.take_set.{u}
abbrev Oe.{u}:=@List.all_eq_true.{u}
abbrev Ql:=@Nat.sub_self
abbrev Od:=@Nat.pow_succ
abbrev Qk.{u}:=@List.getElem?_take.{u}
abbrev UW.{u}:=@Array.getElem?_toList.{u}
abbrev Sw.{u}:=@List.flatten_cons.{u}
abbrev UU:=@decide_eq_true
abbrev Qj.{u}:=@List.drop_drop.{u}
abbrev UT:=@Go.wpList_mapUpdate_own
abbrev UR.{u}:=@List.pairwise_append.{u}
abbrev UQ.{u}:=@List.length_dropLast.{u}
abbrev MO:=@Go.wpList_plain
abbrev LJ:=@Go.callsIn_wide
abbrev Oc:=@Nat.mul_comm
abbrev UO.{u,v,w}:=@List.map_map.{u,v,w}
abbrev YN:=@Go.World.cell?_setCell_other
abbrev Sv:=@Classical.byContradiction
abbrev UN.{u}:=@List.flatten_append.{u}
abbrev wV:=@decide_eq_false
abbrev Su.{u}:=@List.nodup_cons.{u}
abbrev Sr.{u,v}:=@List.foldl_cons.{u,v}
abbrev YM:=@Bool.eq_iff_iff
abbrev UM:=@Nat.add_sub_cancel
abbrev UL:=@Go.RowKit.Below.heap_setCell
abbrev UK:=@Go.wp_store_mid
abbrev Qi:=@Go.Addr.add_mid
abbrev UJ.{u}:=@List.ext_getElem?.{u}
abbrev UI:=@Go.wpList_store_mid
abbrev iK:=@Nat.mod_eq_of_lt
abbrev iJ:=@Go.run_loadVar_mid
abbrev Sq.{u}:=@List.drop_set_of_lt.{u}
abbrev Sn:=@Nat.zero_mul
abbrev Sm.{u}:=@beq_iff_eq.{u}
abbrev UH:=@of_decide_eq_false
abbrev YL.{u}:=@List.set_cons_zero.{u}
abbrev Sl:=@Nat.mul_one
abbrev iI:=@Nat.lt_trichotomy
abbrev YK.{u,v,w}:=@Function.comp_def.{u,v,w}
abbrev Ob:=@Classical.not_not
abbrev UG:=@Go.plainElem_int
abbrev UF:=@Go.callsIn_of_wp
abbrev iH:=@Bool.true_and
end Go.Proofs.YtijplolmkcdflaaGreat
namespace Go.Proofs.YtijplolmkcdflaaGreat
open Tryz
theorem OP (n:Nat) {P:Program} {ops:Array Oper} {Q:Exit→Act→World→Prop} {o:Op} {t:TypeId} {p:String} {e:Array Edge} {g:Option (Nat×Bool)} {l:List Oper} {a:Act} {w:World} (h:wpList P ops Q (⟨some n,o,t,p,e,g⟩::l) a w):wpList P ops Q (⟨some n,o,t,p,e,g⟩::l) a w:=h
theorem OS (n:Nat) {P:Program} {ops:Array Oper} {Q:Exit→Act→World→Prop} {d:Option Tmp} {ty:TypeId} {y:Operand} {t:TypeId} {p:String} {e:Array Edge} {g:Option (Nat×Bool)} {l:List Oper} {a:Act} {w:World} (h:wpList P ops Q (⟨d,.store ty (.tmp n) y,t,p,e,g⟩::l) a w):wpList P ops Q (⟨d,.store ty (.tmp n) y,t,p,e,g⟩::l) a w:=h
theorem Aa {p:Prop} (h:p):RowKit.Hid p:=h
end Go.Proofs.YtijplolmkcdflaaGreat
namespace Go.RowKit
theorem Hid.Ab {p:Prop} (h:Hid p):p:=h
end Go.RowKit
namespace Go.Proofs.YtijplolmkcdflaaGreat
open Go
theorem LP {α:Type}:(∀ (l:List α) (i:Nat) (a:α),l.toArray.setIfInBounds i a=(l.set i a).toArray)∧(∀ {x:α} {xs:List α} {a:α},(x::xs).set 0 a=a::xs)∧(∀ {x:α} {xs:List α} {i:Nat} {a:α},(x::xs).set (i+1) a=x::xs.set i a):=
 ⟨List.setIfInBounds_toArray,YL,List.set_cons_succ⟩
theorem LG {α:Type}:(∀ {xs:List α} {i:Nat},xs.toArray[i]?=xs[i]?)∧(∀ {a:α} {l:List α},(a::l)[0]?=some a)∧(∀ {a:α} {i:Nat} {l:List α},(a::l)[i+1]?=l[i]?):=
 ⟨Ra,PM,FW⟩
def AU (n:Nat):Nat:=
 if n<128 then 1 else if n<16384 then 2 else if n<2097152 then 3 else if n<268435456 then 4 else
 if n<34359738368 then 5 else if n<4398046511104 then 6 else if n<562949953421312 then 7 else if n<72057594037927936 then 8 else 9
theorem IG (n:Nat):1≤AU n:=by unfold AU;(repeat' split)<;>omega
theorem JQ (n:Nat):AU n≤9:=by unfold AU;(repeat' split)<;>omega
theorem dN {n k:Nat} (h1:1≤k) (h8:k≤8) (hlt:n<2 ^ (7 * k)) (hge:k=1∨2 ^ (7 * (k - 1))≤n):AU n=k:=by
 obtain rfl|rfl|rfl|rfl|rfl|rfl|rfl|rfl:k=1∨k=2∨k=3∨k=4∨k=5∨k=6∨k=7∨k=8:=by omega
 all_goals
  simp only [Nat.reduceMul,Nat.reduceSub,Nat.reducePow] at hlt hge
  unfold AU
  (repeat' split)<;>omega
theorem VN {n:Nat} (hge:2 ^ (7 * 8)≤n):AU n=9:=by
 simp only [Nat.reduceMul,Nat.reducePow] at hge
 unfold AU
 (repeat' split)<;>omega
theorem RP {n k:Nat}:n / 2 ^ k=0↔n<2 ^ k:=by
 rw [Nat.div_eq_zero_iff]
 have:=Nat.two_pow_pos k
 omega
theorem zJ {n:Nat} (h:AU n≤8):n<2 ^ (7 * AU n):=by
 have:=IG n
 revert h
 unfold AU
 (repeat' split)<;>intro h<;>simp only [Nat.reduceMul,Nat.reducePow]<;>omega
def lead (s:Nat):Nat:=256 - 2 ^ (9 - s)
def be:Nat→Nat→List UInt8
 |0,_=>[]
 |k+1,n=>be k (n / 256)++[UInt8.ofNat (n % 256)]
def CK (n:Nat):List UInt8:=UInt8.ofNat (lead (AU n)+n / 256 ^ (AU n - 1))::be (AU n - 1) n
theorem GY (k n:Nat):(be k n).length=k:=by
 induction k generalizing n with
 |zero=>rfl
 |succ k ih=>simp [be,ih]
theorem Uc (k n j:Nat) (h:j<k):(be k n)[j]?=some (UInt8.ofNat (n / 256 ^ (k - 1 - j) % 256)):=by
 induction k generalizing n j with
 |zero=>omega
 |succ k ih=>
  simp only [be]
  by_cases hj:j<k
  ·rw [Nz (by simpa [GY] using hj),ih _ _ hj,Nat.div_div_eq_div_mul,←Nat.pow_succ']
   rw [show (k - 1 - j).succ=k+1 - 1 - j by omega]
  ·have:j=k:=by omega
   subst this
   rw [NZ (by simp [GY])]
   simp [GY]
theorem Gx (n:Nat):(CK n).length=AU n:=by
 have:=IG n
 simp [CK,GY];omega
theorem iX {n:Nat} (hn:n<18446744073709551616):n / 256 ^ (AU n - 1)<2 ^ (9 - AU n) / 2∨(AU n=9∧n / 256 ^ (AU n - 1)=0):=by
 by_cases h:AU n≤8
 ·left
  have hlt:=zJ h
  have h1:=IG n
  revert hlt h1 h
  generalize AU n=k
  intro hlt h1 h
  obtain rfl|rfl|rfl|rfl|rfl|rfl|rfl|rfl:k=1∨k=2∨k=3∨k=4∨k=5∨k=6∨k=7∨k=8:=by omega
  all_goals
   simp only [Nat.reduceSub,Nat.reducePow,Nat.reduceDiv] at hlt ⊢
   omega
 ·right
  have:AU n=9:=by have:=JQ n;omega
  rw [this]
  exact ⟨rfl,Nat.div_eq_of_lt hn⟩
end Go.Proofs.YtijplolmkcdflaaGreat
namespace Go.Proofs.YtijplolmkcdflaaGreat
open Tryz
open Go
def JA:List UInt8→Nat
 |[]=>0
 |c::l=>c.toNat * 256 ^ l.length+JA l
theorem UE (l:List UInt8):JA l<256 ^ l.length:=by
 induction l with
 |nil=>simp [JA]
 |cons c l ih=>
  simp only [JA,CZ,Od]
  have:=c.toNat_lt
  have h:c.toNat * 256 ^ l.length≤255 * 256 ^ l.length:=Nv _ (by omega)
  omega
theorem Ub (a b:List UInt8):JA (a++b)=JA a * 256 ^ b.length+JA b:=by
 induction a with
 |nil=>simp [JA]
 |cons c a ih=>
  simp only [IQ,JA,BQ,ih,Nat.pow_add,Gs,Nat.mul_assoc]
  omega
theorem U6 (k n:Nat):JA (be k n)=n % 256 ^ k:=by
 induction k generalizing n with
 |zero=>simp [be,JA,Nat.mod_one]
 |succ k ih=>
  rw [be,Ub,ih]
  simp only [JA,CZ,KM,Hw,Nat.pow_one,Nat.pow_zero,Sl,Jk]
  rw [Od,Oc (256 ^ k) 256,Nat.mod_mul]
  have:(UInt8.ofNat (n % 256)).toNat=n % 256:=by simp
  omega
theorem F9 {a b:List UInt8} (h:a.length=b.length) (hv:JA a=JA b):a=b:=by
 induction a generalizing b with
 |nil=>exact (Km (by simpa using h.symm)).symm
 |cons c a ih=>
  cases b with
  |nil=>simp at h
  |cons d b=>
   have h':a.length=b.length:=by simpa using h
   simp only [JA,←h'] at hv
   have ha:=UE a
   have hb:=UE b
   rw [←h'] at hb
   have e:c.toNat=d.toNat:=by
    have h1:(c.toNat * 256 ^ a.length+JA a) / 256 ^ a.length=(d.toNat * 256 ^ a.length+JA b) / 256 ^ a.length:=by rw [hv]
    rw [Oc,Oc d.toNat,Nat.mul_add_div (Nat.pow_pos (by omega)),Nat.mul_add_div (Nat.pow_pos (by omega)),Nat.div_eq_of_lt ha,Nat.div_eq_of_lt hb] at h1
    omega
   have e1:c=d:=UInt8.toNat_inj.1 e
   subst e1
   rw [ih h' (by omega)]
theorem YB {n:Nat} (hn:n<18446744073709551616):JA (CK n)=lead (AU n) * 256 ^ (AU n - 1)+n:=by
 have hlt:lead (AU n)+n / 256 ^ (AU n - 1)<256:=by
  have h1:=IG n
  have h2:=JQ n
  unfold lead
  rcases iX hn with h|⟨h,h'⟩
  ·have h3:(2:Nat) ^ (9 - AU n)≤2 ^ 8:=aH (by omega) (by omega)
   have h4:=Nat.two_pow_pos (9 - AU n)
   simp only [Nat.reducePow] at h3
   omega
  ·rw [h',h];simp
 simp only [CK,JA,GY,U6]
 have:(UInt8.ofNat (lead (AU n)+n / 256 ^ (AU n - 1))).toNat=lead (AU n)+n / 256 ^ (AU n - 1):=by simp [iK hlt]
 rw [this,Gs,Ns]
 have:=Nat.div_add_mod n (256 ^ (AU n - 1))
 rw [Oc] at this
 omega
theorem Zv {n:Nat} (hn:n<18446744073709551616):∃ c,(CK n).head?=some c∧lead (AU n)≤c.toNat∧(AU n<9→c.toNat<lead (AU n+1)):=by
 have h1:=IG n
 have h2:=JQ n
 refine ⟨_,rfl,?_⟩
 have hlt:lead (AU n)+n / 256 ^ (AU n - 1)<256∧(AU n<9→lead (AU n)+n / 256 ^ (AU n - 1)<lead (AU n+1)):=by
  unfold lead
  have h3:(2:Nat) ^ (9 - AU n)≤2 ^ 8:=aH (by omega) (by omega)
  simp only [Nat.reducePow] at h3
  have h5:=Nat.two_pow_pos (9 - AU n)
  rcases iX hn with h|⟨h,h'⟩
  ·refine ⟨by omega,fun h9=>?_⟩
   have h4:(2:Nat) ^ (9 - AU n)=2 ^ (9 - (AU n+1)) * 2:=by rw [←Od];congr 1;omega
   omega
  ·rw [h',h];simp
 have:(UInt8.ofNat (lead (AU n)+n / 256 ^ (AU n - 1))).toNat=lead (AU n)+n / 256 ^ (AU n - 1):=by simp [iK hlt.1]
 rw [this]
 exact ⟨Nat.le_add_right _ _,hlt.2⟩
def Bv (c:Nat):Nat:=
 if c<128 then 1 else if c<192 then 2 else if c<224 then 3 else if c<240 then 4 else if c<248 then 5 else if c<252 then 6 else if c<254 then 7 else if c<255 then 8 else 9
theorem OZ (c:Nat):1≤Bv c:=by unfold Bv;(repeat' split)<;>omega
theorem Mv (c:Nat):Bv c≤9:=by unfold Bv;(repeat' split)<;>omega
theorem Wt:∀ c:Nat,c<256→lead (Bv c)≤c∧(Bv c<9→c<lead (Bv c+1))∧(Bv c=9→c=255)∧lead (Bv c)≤255:=by decide+kernel
theorem uT:∀ c:Nat,c<256→∀ s:Nat,s<10→(decide (1≤s) && decide (lead s≤c) && (!decide (s<9)||decide (c<lead (s+1))))=true→Bv c=s:=by decide+kernel
theorem u6 (c:Nat) (hc:c<256) (s:Nat) (hs:s<10) (h1:1≤s) (h2:lead s≤c) (h3:s<9→c<lead (s+1)):Bv c=s:=by
 apply uT c hc s hs
 by_cases h9:s<9
 ·simp [h1,h2,h9,h3 h9]
 ·simp [h1,h2,h9]
theorem Yq:∀ c:Nat,c<256→c - lead (Bv c)<2 ^ (8 - Bv c):=by decide+kernel
def NN (c:Nat) (r:List UInt8):Nat:=(c - lead (Bv c)) * 256 ^ (Bv c - 1)+JA (r.take (Bv c - 1))
def Dw:List UInt8→Nat × Nat × Bool
 |[]=>(0,0,false)
 |c::r=>if r.length+1<Bv c.toNat then (0,0,false) else if AU (NN c.toNat r)=Bv c.toNat then (NN c.toNat r,Bv c.toNat,true) else (0,0,false)
theorem take_len {r:List UInt8} {k:Nat} (h:k≤r.length):(r.take k).length=k:=by rw [Fa];omega
theorem oD (c:UInt8) (r:List UInt8) (h:¬ r.length+1<Bv c.toNat):NN c.toNat r<18446744073709551616:=by
 have h1:=OZ c.toNat
 have h2:=Mv c.toNat
 have h3:=Yq c.toNat c.toNat_lt
 have h4:=UE (r.take (Bv c.toNat - 1))
 rw [take_len (by omega)] at h4
 unfold NN
 generalize c.toNat - lead (Bv c.toNat)=d at *
 generalize JA (r.take (Bv c.toNat - 1))=v at *
 generalize Bv c.toNat=s at *
 obtain rfl|rfl|rfl|rfl|rfl|rfl|rfl|rfl|rfl:s=1∨s=2∨s=3∨s=4∨s=5∨s=6∨s=7∨s=8∨s=9:=by omega
 all_goals
  simp only [Nat.reduceSub,Nat.reducePow] at *
  omega
theorem YC (c:UInt8) (r:List UInt8) (h:¬ r.length+1<Bv c.toNat):JA ((c::r).take (Bv c.toNat))=lead (Bv c.toNat) * 256 ^ (Bv c.toNat - 1)+NN c.toNat r:=by
 have h1:=OZ c.toNat
 have h2:=(Wt c.toNat c.toNat_lt).1
 obtain ⟨k,hk⟩:∃ k,Bv c.toNat=k+1:=⟨Bv c.toNat - 1,by omega⟩
 unfold NN
 rw [hk] at h ⊢ h2
 rw [nW,JA,take_len (by omega),UM]
 have:c.toNat * 256 ^ k=lead (k+1) * 256 ^ k+(c.toNat - lead (k+1)) * 256 ^ k:=by rw [←Gs];congr 1;omega
 omega
theorem A7 (c:UInt8) (r:List UInt8) (h:¬ r.length+1<Bv c.toNat):CK (NN c.toNat r)=(c::r).take (Bv c.toNat)↔AU (NN c.toNat r)=Bv c.toNat:=by
 have hl:((c::r).take (Bv c.toNat)).length=Bv c.toNat:=take_len (by simp;omega)
 constructor
 ·intro e
  rw [←Gx,e,hl]
 ·intro e
  apply F9 (by rw [Gx,hl,e])
  rw [YB (oD c r h),YC c r h,e]
theorem dL (l:List UInt8):(Dw l).1<18446744073709551616:=by
 unfold Dw
 split
 ·decide
 ·rename_i c r
  by_cases h:r.length+1<Bv c.toNat
  ·rw [Ak h];decide
  ·rw [Ah h]
   by_cases h':AU (NN c.toNat r)=Bv c.toNat
   ·rw [Ak h'];exact oD c r h
   ·rw [Ah h'];decide
theorem QG (l:List UInt8):(Dw l).2.1≤l.length∧(Dw l).2.1≤9∧((Dw l).2.2=true→1≤(Dw l).2.1):=by
 unfold Dw
 split
 ·simp
 ·rename_i c r
  have:=Mv c.toNat
  have:=OZ c.toNat
  by_cases h:r.length+1<Bv c.toNat
  ·rw [Ak h];simp
  ·rw [Ah h]
   by_cases h':AU (NN c.toNat r)=Bv c.toNat
   ·rw [Ak h'];simp;omega
   ·rw [Ah h'];simp
theorem kQ {n:Nat} (hn:n<18446744073709551616) (t:List UInt8):Dw (CK n++t)=(n,AU n,true):=by
 obtain ⟨c,hc,hc1,hc2⟩:=Zv hn
 have h1:=IG n
 have h2:=JQ n
 obtain ⟨r,hr⟩:∃ r,CK n=c::r:=by
  cases h:CK n with
  |nil=>rw [h] at hc;simp at hc
  |cons d r=>rw [h] at hc;simp at hc;subst hc;exact ⟨r,rfl⟩
 have hs:Bv c.toNat=AU n:=u6 c.toNat c.toNat_lt _ (by omega) h1 hc1 hc2
 have hrl:r.length=AU n - 1:=by
  have:=Gx n
  rw [hr] at this
  simp at this
  omega
 have hlen:¬ (r++t).length+1<Bv c.toNat:=by rw [hs];simp;omega
 have hb:=YC c (r++t) hlen
 have htk:(c::(r++t)).take (Bv c.toNat)=CK n:=by
  rw [hs,hr,←IQ,List.take_append_of_le_length (by simp;omega),DY (by simp;omega)]
 rw [htk,YB hn,hs] at hb
 have hv:NN c.toNat (r++t)=n:=by omega
 rw [hr,IQ,Dw,Ah hlen,hv,hs,Ak rfl]
theorem VM {l:List UInt8} (h:(Dw l).2.2=true):l.take (Dw l).2.1=CK (Dw l).1∧(Dw l).2.1=AU (Dw l).1:=by
 unfold Dw at h ⊢
 split at h
 ·simp at h
 ·rename_i c r
  by_cases h1:r.length+1<Bv c.toNat
  ·rw [Ak h1] at h;simp at h
  ·rw [Ah h1] at h ⊢
   by_cases h':AU (NN c.toNat r)=Bv c.toNat
   ·simp only [Ak h']
    exact ⟨((A7 c r h1).2 h').symm,h'.symm⟩
   ·rw [Ah h'] at h;simp at h
theorem dM {l:List UInt8} (h:(Dw l).2.2=false):Dw l=(0,0,false):=by
 unfold Dw at h ⊢
 split at h
 ·rfl
 ·rename_i c r
  by_cases h1:r.length+1<Bv c.toNat
  ·simp only [Ak h1]
  ·rw [Ah h1] at h
   simp only [Ah h1]
   by_cases h':AU (NN c.toNat r)=Bv c.toNat
   ·rw [Ak h'] at h;simp at h
   ·simp only [Ah h']
end Go.Proofs.YtijplolmkcdflaaGreat
namespace Go.Proofs.YtijplolmkcdflaaGreat
open Tryz
open Go.RowKit
theorem GJ {k:IntKind} {a b:Int} (h:a=b):Ending.returned (.int k a)=.returned (.int k b):=by rw [h]
theorem Vv {a b:Bool} (h:a=b):Ending.returned (.bool a)=.returned (.bool b):=by rw [h]
theorem SE (l:List UInt8) (i:Nat) (h:i<(⟨l.toArray⟩:ByteArray).size):(⟨l.toArray⟩:ByteArray)[i]'h=l[i]'(by simpa [ByteArray.size] using h):=by
 simp [ByteArray.getElem_eq_getElem_data]
theorem Cs (a b:List UInt8):((⟨a.toArray⟩:ByteArray)++⟨b.toArray⟩)=⟨(a++b).toArray⟩:=by
 apply ByteArray.ext
 simp
theorem aT (c:UInt8) (b:List UInt8):((⟨#[c]⟩:ByteArray)++⟨b.toArray⟩)=⟨(c::b).toArray⟩:=Cs [c] b
theorem Og (l:List UInt8) (a b:Nat):(⟨l.toArray⟩:ByteArray).extract a b=⟨((l.drop a).take (b - a)).toArray⟩:=by
 apply ByteArray.ext
 apply Array.toList_inj.1
 rw [Lib.extract_data]
def Aj (w w':World):Prop:=Below w.heap.size w w'
theorem Aj.refl (w:World):Aj w w:=Below.refl _ _
theorem Aj.size {w w':World} (h:Aj w w'):w.heap.size≤w'.heap.size:=Below.size h
theorem Aj.trans {a b c:World} (h:Aj a b) (k:Aj b c):Aj a c:=Below.trans h (Below.mono k h.size)
theorem Aj.alloc {a w:World} (h:Aj a w) (o:Obj):Aj a (w.alloc o):=Below.alloc h h.size o
theorem Aj.drew {a w:World} (h:Aj a w):Aj a w.drew:=Below.drew h
theorem Aj.drewN {a w:World} (h:Aj a w) (n:Nat):Aj a (w.drewN n):=⟨h.os,h.tape,h.output,h.size,h.block⟩
theorem Aj.setCell {a w:World} (h:Aj a w) {p:Addr} (hp:a.heap.size≤p.block) (u:Value):Aj a (w.setCell p u):=Below.setCell h hp u
theorem Aj.grown {a w w':World} {row:Option Nat} (h:Aj a w) (hg:w.grownBy w' row) (hr:∀ k,row=some k→a.heap.size≤k):Aj a w':=Below.grown h hg h.size hr
theorem Aj.cell {w w':World} (h:Aj w w') {p:Addr} (hp:p.block<w.heap.size):w'.cell? p=w.cell? p:=Below.cell h hp
theorem Aj.frozen {w w':World} (h:Aj w w') {p:Addr} (hp:p.block<w.heap.size):w'.frozen? p=w.frozen? p:=Below.frozen h hp
theorem Xw {n k:Nat} (h:((n:Int) / 2 ^ k==0)=true):n<2 ^ k:=by
 have h1:(n:Int) / ((2 ^ k:Nat):Int)=0:=by simpa using h
 rw [←Int.natCast_ediv] at h1
 exact RP.1 (by omega)
theorem ZC {n k:Nat} (h:((n:Int) / 2 ^ k==0)=false):2 ^ k≤n:=by
 have h1:¬ (n:Int) / ((2 ^ k:Nat):Int)=0:=by simpa using h
 rw [←Int.natCast_ediv] at h1
 have h2:¬ n / 2 ^ k=0:=by omega
 rw [RP] at h2
 omega
theorem aV (x:Int) (w:World) (h0:0≤x):
 Calls prog 190 #[.int .u64 x] w fun e w'=>e=.returned (.int .i64 (AU x.toNat:Nat))∧w=w':=by
 obtain ⟨n,rfl⟩:=Rb h0
 rw [Da]
 clear h0
 go_enter func190,ntmps190
 go_wp2
 go_loop [3] (fun i=>∃ k:Nat,1≤k∧k≤9∧i=.int .i64 k∧Hid (k=1∨2^(7*(k-1))≤n)) (fun i=>9 - (intOf i).toNat)
 case atStart=>exact ⟨1,by omega,by omega,rfl,Or.inl rfl⟩
 case round=>
  obtain ⟨k,hk1,hk2,rfl,hd⟩:=hrel
  by_cases hlt:k<9
  ·go_wp2
   ·have h:((n:Int) / 2 ^ (7 * k)==0)=true:=by assumption
    have:=dN hk1 (by omega) (Xw h) hd.Ab
    go_ret
    exact ⟨GJ (by omega),rfl⟩
   ·have h:((n:Int) / 2 ^ (7 * k)==0)=false:=by assumption
    have:=ZC h
    go_round
    case rel=>exact ⟨k+1,by omega,by omega,by go_num,Or.inr this⟩
    case measure=>simp [intOf];omega
  ·have hk:k=9:=by omega
   have hN:Hid (AU n=9):=VN (by rcases hd.Ab with h|h;omega;subst hk;exact h)
   clear hd hk
   go_wp2
   go_ret
   exact ⟨GJ (by have:=hN.Ab;omega),rfl⟩
theorem Q5 (s:Nat) (h1:1≤s) (h2:s≤9):((255 * 2 ^ (9 - s) % 256:Int))=(lead s:Nat):=by
 obtain rfl|rfl|rfl|rfl|rfl|rfl|rfl|rfl|rfl:s=1∨s=2∨s=3∨s=4∨s=5∨s=6∨s=7∨s=8∨s=9:=by omega
 all_goals decide
theorem vE (x:Int) (w:World) (h1:1≤x) (h2:x≤9):
 Calls prog 191 #[.int .i64 x] w fun e w'=>e=.returned (.int .u8 (lead x.toNat:Nat))∧w=w':=by
 obtain ⟨s,rfl⟩:=Rb (show 0≤x by omega)
 rw [Da]
 go_enter func191,ntmps191
 go_wp2
 go_ret
 exact ⟨GJ (Q5 s (by omega) (by omega)),rfl⟩
def oK (s n t j:Nat):Nat:=if t≤j∧j<s then n / 256 ^ (s - 1 - j) % 256 else 0
theorem rM {n:Nat} (hn:n<18446744073709551616):oK (AU n) n 0 0=n / 256 ^ (AU n - 1)∧(CK n).getD 0 0=UInt8.ofNat (lead (AU n)+n / 256 ^ (AU n - 1))∧lead (AU n)+n / 256 ^ (AU n - 1)<256∧(AU n<9→n / 256 ^ (AU n - 1)<2 ^ (8 - AU n))∧(AU n=9→n / 256 ^ (AU n - 1)=0):=by
 have h1:=IG n
 have h2:=JQ n
 have ht:n / 256 ^ (AU n - 1)<2 ^ (8 - AU n)∨(AU n=9∧n / 256 ^ (AU n - 1)=0):=by
  rcases iX hn with h|h
  ·by_cases h9:AU n=9
   ·rw [h9] at h;simp at h
   ·left;rwa [show 9 - AU n=8 - AU n+1 by omega,Od,Nat.mul_div_cancel _ (by omega)] at h
  ·exact .inr h
 have hlt:lead (AU n)+n / 256 ^ (AU n - 1)<256:=by
  unfold lead
  rcases ht with h|⟨h,h'⟩
  ·by_cases h9:AU n=9
   ·rw [h9] at h ⊢;simp at h ⊢;omega
   ·have h3:2 ^ (9 - AU n)=2 ^ (8 - AU n) * 2:=by rw [←Od];congr 1;omega
    have h4:(2:Nat) ^ (8 - AU n)≤2 ^ 7:=aH (by omega) (by omega)
    simp only [Nat.reducePow] at h4
    omega
  ·rw [h',h];simp
 refine ⟨?_,rfl,hlt,?_,?_⟩
 ·unfold oK
  rw [Ak (by omega),Nat.sub_zero]
  exact iK (by omega)
 ·intro h
  rcases ht with h'|h'
  ·exact h'
  ·omega
 ·intro h
  rcases ht with h'|h'
  ·rw [h] at h' ⊢;simp at h';exact Nat.div_eq_of_lt hn
  ·exact h'.2
def Gq (i:Int):Nat:=if i<0 then (2 * (-i - 1)+1).toNat else (2 * i).toNat
def GM (n:Nat):Int:=if n % 2=1 then -((n / 2:Nat):Int) - 1 else ((n / 2:Nat):Int)
theorem Xm (i:Int):GM (Gq i)=i:=by
 unfold Gq GM
 by_cases h:i<0
 ·rw [Ak h,Ak (by omega)];omega
 ·rw [Ah h,Ah (by omega)];omega
theorem Xo (n:Nat):Gq (GM n)=n:=by
 unfold Gq GM
 by_cases h:n % 2=1
 ·rw [Ak h,Ak (by omega)];omega
 ·rw [Ah h,Ah (by omega)];omega
theorem dO {i:Int} (h0:-9223372036854775808≤i) (h1:i≤9223372036854775807):Gq i<18446744073709551616:=by
 unfold Gq
 by_cases h:i<0
 ·rw [Ak h];omega
 ·rw [Ah h];omega
theorem Aa5 (x:Int) (h0:-9223372036854775808≤x) (h1:x≤9223372036854775807):bits .xor .i64 (-1) x=-x - 1:=by
 show IntKind.i64.wrap ((BitVec.ofInt 64 (-1) ^^^ BitVec.ofInt 64 x).toNat:Int)=_
 rw [show BitVec.ofInt 64 (-1)=BitVec.allOnes 64 from rfl,BitVec.allOnes_xor,BitVec.toNat_not,BitVec.toNat_ofInt,IntKind.wrap_i64]
 simp only [Nat.reducePow]
 omega
theorem rG (x:Int) (w:World) (h0:-9223372036854775808≤x) (h1:x≤9223372036854775807):
 Calls prog 66 #[.int .i64 x] w fun e w'=>e=.returned (.int .u64 (Gq x:Nat))∧w=w':=by
 by_cases h:x<0
 ·have q3:Hid ((Gq x:Int)=2 * (-(x+1))+1):=by show _=_;unfold Gq;rw [Ak h];omega
  go_enter func66,ntmps66
  go_wp2
  go_ret
  exact ⟨GJ q3.symm,rfl⟩
 ·have q3:Hid ((Gq x:Int)=2 * x):=by show _=_;unfold Gq;rw [Ah h];omega
  go_enter func66,ntmps66
  go_wp2
  go_ret
  exact ⟨GJ q3.symm,rfl⟩
theorem iR (x:Int) (w:World) (h0:0≤x) (h1:x<18446744073709551616):
 Calls prog 168 #[.int .u64 x] w fun e w'=>e=.returned (.int .i64 (GM x.toNat))∧w=w':=by
 obtain ⟨n,rfl⟩:=Rb h0
 rw [Da]
 have b1:(0:Int)≤(n:Int) / 2:=by omega
 have b2:(n:Int) / 2≤9223372036854775807:=by omega
 have q1:=Aa5 ((n:Int) / 2) (by omega) (by omega)
 by_cases h:n % 2=1
 ·have q2:(bits BinOp.and IntKind.u64 (n:Int) 1==1)=true:=by rw [and_one_u64 _ (by omega) (by omega)];simp;omega
  have q3:Hid (GM n=-((n:Int) / 2) - 1):=by show _=_;unfold GM;rw [Ak h];omega
  clear h0 h1 h
  go_enter func168,ntmps168
  go_wp2
  go_ret
  exact ⟨GJ q3.symm,rfl⟩
 ·have q2:(bits BinOp.and IntKind.u64 (n:Int) 1==1)=false:=by rw [and_one_u64 _ (by omega) (by omega)];simp;omega
  have q3:Hid (GM n=(n:Int) / 2):=by show _=_;unfold GM;rw [Ah h];omega
  clear h0 h1 h
  go_enter func168,ntmps168
  go_wp2
  go_ret
  exact ⟨GJ q3.symm,rfl⟩
attribute [local go_sem] SE
theorem sV:∀ b:Nat,b<256→(if bits BinOp.and IntKind.u8 (b:Int) 128=0 then Bv b=1 else Bv b=1+Bv (b * 2 % 256)):=by decide+kernel
theorem dJ (x:Int) (w:World) (h0:0≤x) (h1:x<256):
 Calls prog 195 #[.int .u8 x] w fun e w'=>e=.returned (.int .i64 ((Bv x.toNat:Nat) - 1:Int))∧w=w':=by
 obtain ⟨c,rfl⟩:=Rb h0
 rw [Da]
 have hc:=Mv c
 go_enter func195,ntmps195
 go_wp2
 go_loop [0,3] (fun b n=>∃ k p:Nat,p<256∧k+Bv p≤9∧n=.int .i64 k∧b=.int .u8 p∧Hid (k+Bv p=Bv c)) (fun b _=>Bv (intOf b).toNat)
 case atStart=>exact ⟨0,c,by omega,by omega,rfl,rfl,by show _=_;omega⟩
 case round=>
  obtain ⟨k,p,hp,hk,rfl,rfl,hd⟩:=hrel
  have hst:=sV p hp
  by_cases hb:bits BinOp.and IntKind.u8 (p:Int) 128=0
  ·rw [Ak hb] at hst
   have q1:(bits BinOp.and IntKind.u8 (p:Int) 128 !=0)=false:=by simp [hb]
   have hq:Hid ((k:Int)=(Bv c:Int) - 1):=by have:=hd.Ab;show _=_;omega
   clear hb hst hd
   go_wp2
   go_ret
   exact ⟨GJ hq.Ab,rfl⟩
  ·rw [Ah hb] at hst
   have q1:(bits BinOp.and IntKind.u8 (p:Int) 128 !=0)=true:=by simp [hb]
   have Hst:=Aa hst
   clear hb hst
   go_wp2
   go_round
   case rel=>exact ⟨k+1,p * 2 % 256,by omega,by have:=Hst.Ab;omega,by go_num,by simp,by have:=Hst.Ab;have:=hd.Ab;show _=_;omega⟩
   case measure=>have:=Hst.Ab;simp only [intOf,Da];rw [show ((p:Int) * 2 % 256).toNat=p * 2 % 256 by omega];omega
theorem take_nil (w:World):Calls prog 175 #[.string ⟨([]:List UInt8).toArray⟩] w fun e w'=>e=.returned (.tuple #[.int .u64 0,.int .i64 0,.bool false])∧w=w':=by
 go_enter func175,ntmps175
 go_wp2
 go_ret3
 exact ⟨rfl,rfl⟩
theorem jA (c:UInt8) (r:List UInt8) (w:World) (hr:r.length≤140737488351231) (h:r.length+1<Bv c.toNat):Calls prog 175 #[.string ⟨(c::r).toArray⟩] w fun e w'=>e=.returned (.tuple #[.int .u64 0,.int .i64 0,.bool false])∧w=w':=by
 have hc:=Mv c.toNat
 have hc':=c.toNat_lt
 go_enter func175,ntmps175
 go_wp2_with fail
 refine (dJ _ _ (by omega) (by omega)).mono ?_;rintro e w1 ⟨rfl,rfl⟩
 go_wp2
 go_ret3
 exact ⟨rfl,rfl⟩
theorem gD:∀ c:Nat,c<256→bits BinOp.andNot IntKind.u8 (c:Int) ((lead (Bv c):Nat):Int)=((c - lead (Bv c):Nat):Int):=by decide+kernel
theorem mE (x:Int) (w:World) (h1:1≤x) (h2:x≤9):
 Calls prog 191 #[.int .i64 x] w fun e w'=>e=.returned (.int .u8 (lead x.toNat:Nat))∧w'=w:=
 (vE x w h1 h2).mono fun _ _ h=>⟨h.1,h.2.symm⟩
def Xk (d:Nat) (r:List UInt8) (k:Nat):Nat:=d * 256 ^ k+JA (r.take k)
theorem XX (d:Nat) (r:List UInt8):Xk d r 0=d:=by simp [Xk,JA]
theorem rJ (d:Nat) (r:List UInt8) (k:Nat) (h:k<r.length):Xk d r (k+1)=Xk d r k * 256+r[k].toNat:=by
 unfold Xk
 rw [Oa h,Ub]
 simp only [JA,CZ,KM,Hw,Nat.pow_zero,Sl,Jk,Od,Gs,Nat.mul_assoc]
 omega
theorem O5 (c:Nat) (hc:c<256) (r:List UInt8) (k:Nat) (h:k+1<Bv c) (hk:k≤r.length):Xk (c - lead (Bv c)) r k<72057594037927936:=by
 have h2:=Mv c
 have h3:=Yq c hc
 have h4:=UE (r.take k)
 rw [take_len hk] at h4
 unfold Xk
 generalize c - lead (Bv c)=d at *
 generalize JA (r.take k)=v at *
 generalize Bv c=s at *
 have h5:(d+1) * 256 ^ k≤2 ^ (8 - s) * 256 ^ k:=Nv _ h3
 have h6:2 ^ (8 - s) * 256 ^ k≤2 ^ (8 - s) * 256 ^ (s - 2):=Nat.mul_le_mul_left _ (aH (by omega) (by omega))
 have h7:2 ^ (8 - s) * 256 ^ (s - 2)≤72057594037927936:=by
  obtain rfl|rfl|rfl|rfl|rfl|rfl|rfl|rfl:s=2∨s=3∨s=4∨s=5∨s=6∨s=7∨s=8∨s=9:=by omega
  all_goals decide
 rw [Gs] at h5
 omega
theorem dG (p b:Nat) (hp:p<72057594037927936) (hb:b<256):bits .or .u64 ((p:Int) * 256) (b:Int)=((p * 256+b:Nat):Int):=by
 have h:=u64_or_nat (p * 256) b (by omega) (by omega)
 rw [Nat.or_comm,nat_join8' (p * 256) b (by omega) (by omega)] at h
 rw [←h]
 simp
theorem qO (c:UInt8) (r:List UInt8) (w:World) (hr:r.length≤140737488351231) (h:¬ r.length+1<Bv c.toNat):
 Calls prog 175 #[.string ⟨(c::r).toArray⟩] w fun e w'=>e=.returned (.tuple #[.int .u64 ((Dw (c::r)).1:Nat),.int .i64 ((Dw (c::r)).2.1:Nat),.bool (Dw (c::r)).2.2])∧Aj w w':=by
 have hc:=Mv c.toNat
 have hc1:=OZ c.toNat
 have hc':=c.toNat_lt
 have q1:=gD c.toNat hc'
 have hd:c.toNat - lead (Bv c.toNat)≤255:=by omega
 obtain ⟨d,Hd⟩:∃ d,Hid (c.toNat - lead (Bv c.toNat)=d):=⟨_,rfl⟩
 rw [Hd.Ab] at q1 hd
 have Hl:=Aa (O5 c.toNat hc' r)
 have He:Hid (NN c.toNat r=Xk d r (Bv c.toNat - 1)):=by show _=_;unfold NN Xk;rw [Hd.Ab]
 have Hf:Hid (Dw (c::r)=if AU (NN c.toNat r)=Bv c.toNat then (NN c.toNat r,Bv c.toNat,true) else (0,0,false)):=by show _=_;rw [Dw,Ah h]
 rw [Hd.Ab] at Hl
 have hd0:decide ((r.length:Int)+1<((Bv c.toNat:Nat):Int))=false:=by simp;omega
 go_enter func175,ntmps175
 go_wp2_with fail
 refine (dJ _ _ (by omega) (by omega)).mono ?_;rintro e w1 ⟨rfl,rfl⟩
 go_wp2_with fail
 go_quiet ((go_at_call 191;exact Ad6 (mE _ _ (by omega) (by omega))))
 rw [Da]
 have q2:(((Bv c.toNat:Nat):Int)==9)=decide (Bv c.toNat=9):=by rw [YM];simp;omega
 have e9:Bv c.toNat=9→d=0:=by
  intro e
  have:=(Wt c.toNat hc').2.2.1 e
  rw [←Hd.Ab,e,this]
  rfl
 clear hd0
 obtain ⟨s,Hs⟩:∃ s,Hid (Bv c.toNat=s):=⟨_,rfl⟩
 rw [Hs.Ab] at hc hc1 h Hl He Hf q2 e9 ⊢
 obtain ⟨b9,q3,q4⟩:∃ b,((s:Int)==9)=b∧Hid (b=true→d=0):=⟨_,rfl,fun hb=>e9 (by simpa [q2] using hb)⟩
 clear q1 q2 e9
 cases b9
 all_goals
  go_wp2_with fail
  go_loop [6,7] (fun n i=>∃ k p:Nat,k+1≤s∧i=.int .i64 ((k:Int)+1)∧n=.int .u64 p∧Hid (p=Xk d r k)) (fun _ i=>s - (intOf i).toNat)
  case atStart=>first|exact ⟨0,d,by omega,by simp,rfl,(XX d r).symm⟩|exact ⟨0,0,by omega,by simp,rfl,by rw [XX];exact (q4 (by first|rfl|trivial)).symm⟩
  case round=>
   obtain ⟨k,p,hk,rfl,rfl,hp⟩:=hrel
   by_cases hlt:k+1<s
   ·have hkr:k<r.length:=by omega
    have b1:p<72057594037927936:=by rw [hp.Ab];exact Hl k hlt (by omega)
    have b2:=r[k].toNat_lt
    have q5:=dG p r[k].toNat b1 b2
    have Hst:=Aa (rJ d r k hkr)
    go_wp2
    go_round
    case rel=>exact ⟨k+1,p * 256+r[k].toNat,by omega,by go_num,by go_num,by rw [hp.Ab];exact Hst.symm⟩
    case measure=>simp [intOf];omega
   ·have hks:k+1=s:=by omega
    have Hp:Hid (NN c.toNat r=p):=by show _=_;rw [He.Ab,hp.Ab,←hks];rfl
    rw [Hp.Ab] at Hf
    clear hp He hks
    by_cases hz:AU p=s
    ·have Hz:=Aa hz
     have q6:(((AU p:Nat):Int) !=(s:Int))=false:=by simp [hz]
     clear hz
     go_wp2_with (go_at_call 190;refine (aV _ _ (by omega)).mono ?_;rintro e w2 ⟨rfl,rfl⟩;rw [Da])
     go_ret3
     rw [Hf.Ab,Ak Hz.Ab]
     exact ⟨rfl,(Aj.refl w).drewN _⟩
    ·have Hz:=Aa hz
     have q6:(((AU p:Nat):Int) !=(s:Int))=true:=by simp;omega
     clear hz
     go_wp2_with (go_at_call 190;refine (aV _ _ (by omega)).mono ?_;rintro e w2 ⟨rfl,rfl⟩;rw [Da])
     go_ret3
     rw [Hf.Ab,Ah Hz.Ab]
     exact ⟨rfl,(Aj.refl w).drewN _⟩
theorem xI (l:List UInt8) (w:World) (hl:l.length≤140737488351232):
 Calls prog 175 #[.string ⟨l.toArray⟩] w fun e w'=>e=.returned (.tuple #[.int .u64 ((Dw l).1:Nat),.int .i64 ((Dw l).2.1:Nat),.bool (Dw l).2.2])∧Aj w w':=by
 cases l with
 |nil=>exact (take_nil w).mono fun _ _ h=>⟨h.1,h.2 ▸ Aj.refl w⟩
 |cons c r=>
  have hr:r.length≤140737488351231:=by simpa using hl
  by_cases h:r.length+1<Bv c.toNat
  ·refine (jA c r w hr h).mono fun _ _ h'=>⟨?_,h'.2 ▸ Aj.refl w⟩
   rw [Dw,Ak h]
   exact h'.1
  ·exact qO c r w hr h
end Go.Proofs.YtijplolmkcdflaaGreat
namespace Go.Proofs.YtijplolmkcdflaaGreat
open Tryz
open Go.RowKit
theorem FU (a:Addr) (n:Nat):(a.add n).block=a.block:=by unfold Addr.add;split<;>rfl
theorem QS (a:Addr) (i j:Nat):(a.add i).add j=a.add (i+j):=by
 unfold Addr.add
 by_cases hi:i=0<;>by_cases hj:j=0<;>simp [hi,hj,Ns]
def Reads (w:World) (B size:Nat) (A:Option Addr) (n:Nat) (xs:List Value):Prop:=
 xs.length=n * size∧(0<n→∃ ad,A=some ad∧ad.block<B∧∀ j u,xs[j]?=some u→w.cell? (ad.add j)=some u)
section
variable {w w' : World} {B B' size n : Nat} {A : Option Addr} {xs : List Value}
theorem Reads.at_ {k:Nat} (h:Reads w B 1 A n xs) (hk:k<n):∃ ad u,A=some ad∧ad.block<B∧xs[k]?=some u∧w.cell? (ad.add k)=some u:=by
 obtain ⟨ad,e,hb,hc⟩:=h.2 (by omega)
 have hl:k<xs.length:=by have:=h.1;omega
 exact ⟨ad,xs[k],e,hb,Ep hl,hc k _ (Ep hl)⟩
theorem Reads.keep (h:Reads w B size A n xs) (hk:∀ p:Addr,p.block<B→w'.cell? p=w.cell? p):Reads w' B size A n xs:=
 ⟨h.1,fun hn=>by
  obtain ⟨ad,e,hb,hc⟩:=h.2 hn
  exact ⟨ad,e,hb,fun j u hu=>(hk _ (by rw [FU];exact hb)).trans (hc j u hu)⟩⟩
theorem Reads.more (h:Reads w B size A n xs) (hB:B≤B'):Reads w B' size A n xs:=
 ⟨h.1,fun hn=>by
  obtain ⟨ad,e,hb,hc⟩:=h.2 hn
  exact ⟨ad,e,by omega,hc⟩⟩
theorem Reads.below (h:Reads w B size A n xs) (hb:Below B w w'):Reads w' B size A n xs:=h.keep fun _ hp=>hb.cell hp
theorem Reads.drew (h:Reads w B size A n xs):Reads w.drew B size A n xs:=h
theorem Reads.drewN (h:Reads w B size A n xs) (k:Nat):Reads (w.drewN k) B size A n xs:=h
theorem Reads.alloc (h:Reads w B size A n xs) (hB:B≤w.heap.size) (o:Obj):Reads (w.alloc o) B size A n xs:=h.keep fun p hp=>World.cell?_alloc_lt w o p (by omega)
theorem Reads.setCell (h:Reads w B size A n xs) {p:Addr} (hB:B≤p.block) (u:Value):Reads (w.setCell p u) B size A n xs:=
 h.keep fun q hq=>YN w p q u (fun e=>by subst e;omega)
theorem Reads.grown (h:Reads w B size A n xs) {row:Option Nat} (hg:w.grownBy w' row) (hB:B≤w.heap.size) (hr:∀ g,row=some g→B≤g):Reads w' B size A n xs:=
 h.keep fun p hp=>QY (hg.block p.block (by omega) (fun e=>by have:=hr _ e.symm;omega))
theorem Reads.cut (h:Reads w B size A n xs) {k cap:Nat} (hk:k≤n) (hc:n≤cap):
 Reads w B size (if cap=k then A else A.map (·.add (k * size))) (n - k) (xs.drop (k * size)):=by
 refine ⟨by rw [IA,h.1,Nat.sub_mul],fun hn=>?_⟩
 obtain ⟨ad,rfl,hb,hcell⟩:=h.2 (by omega)
 rw [Ah (by omega)]
 refine ⟨ad.add (k * size),rfl,by rw [FU];exact hb,fun j u hu=>?_⟩
 rw [QS]
 exact hcell _ u (by rw [←hu,KN])
theorem Reads.Bf {base:Nat} {e:TypeId} {c:Nat} (h:w.ownsRow base e size (.slice A n c) n xs):Reads w w.heap.size size A n xs:=by
 refine ⟨h.1,fun hn=>?_⟩
 obtain ⟨g,cap,hv,_,hlt⟩:=h.form hn
 have hA:A=some ⟨g,0,none⟩:=by injection hv
 subst hA
 exact ⟨_,rfl,hlt,h.cells (g:=g) rfl⟩
end
section
variable {P : Program} (w : World)
theorem Rl (base:Nat) (t ty e:TypeId) (i:TypeInfo) (size:Nat) (ht:P.underlying t=some (.slice e)) (hi:P.info? e=some i)
 (v:Value) (n:Nat) (xs:List Value) (hown:w.ownsRow base e size v n xs) (c:Nat):(Builtin.append_ #[t,t] ty #[v,.slice none 0 c]).run P w=.ok v w:=by
 rcases hown.2 with ⟨rfl,rfl⟩|⟨g,cap,cur,rfl,_,_,hnc,_⟩
 ·simp [Builtin.append_,run_underlying ht,sizeOf,typeInfo,hi,Builtin.lenOf,Builtin.firstCells]
 ·simp [Builtin.append_,run_underlying ht,sizeOf,typeInfo,hi,Builtin.lenOf,Builtin.firstCells,hnc,storeCells]
theorem EI (base:Nat) (t ty e:TypeId) (i:TypeInfo) (z:Value) (size bytes:Nat) (ht:P.underlying t=some (.slice e)) (hi:P.info? e=some i) (hz:i.zero=some z)
 (hsize:i.size=size) (hby:i.bytes=bytes) (hzs:z.cells.size=size) (hsz:0<size)
 (v:Value) (n:Nat) (xs:List Value) (hown:w.ownsRow base e size v n xs)
 (B:Nat) (A:Option Addr) (m c:Nat) (news:List Value) (hr:Reads w B size A m news) (h1:∀ u ∈ news,u.oneCell'=true)
 (h63:n+m≤maxLen) (hbytes:(n+m) * bytes≤140737488355328) (hbase:base≤w.heap.size):
 ∃ v' w',(Builtin.append_ #[t,t] ty #[v,.slice A m c]).run P w=.ok v' w'∧w'.ownsRow base e size v' (n+m) (xs++news)∧w.grownBy w' v.ownBlock∧
  (v'.ownBlock=v.ownBlock∨v'.ownBlock=some w.heap.size):=by
 rcases A with _|ad
 ·have hm:m=0:=by
   rcases Tt m with h0|h0
   ·exact h0
   ·obtain ⟨ad,h,_⟩:=hr.2 h0
    cases h
  subst hm
  have hn:news=[]:=Km (by simpa using hr.1)
  subst hn
  exact ⟨v,w,Rl w base t ty e i size ht hi v n xs hown c,by simpa using hown,World.grownBy.refl w _,.inl rfl⟩
 ·have hcells:∀ j u,news[j]?=some u→w.cell? (ad.add j)=some u:=by
   intro j u hu
   rcases Tt m with h0|h0
   ·subst h0
    have hn:news=[]:=Km (by simpa using hr.1)
    subst hn
    simp at hu
   ·obtain ⟨ad',h,_,hc⟩:=hr.2 h0
    injection h with h
    subst h
    exact hc j u hu
  obtain ⟨v',w',hrun,h2,h3,_,h5⟩:=run_append_own_at (P:=P) w base t ty e i z size bytes ht hi hz hsize hby hzs hsz v n xs hown ad m c news hr.1 hcells h1 h63 hbytes hbase
  exact ⟨v',w',hrun,h2,h3,h5⟩
theorem LM {o:Oper} {a:Act} {K:Act→World→Prop} {Q:Exit→Act→World→Prop} (s x:Operand) (t:TypeId)
 (ho:o.op=.call { callee:=.builtin .append,args:=#[s,x],argTypes:=#[t,t] })
 (base:Nat) (e:TypeId) (i:TypeInfo) (z:Value) (size bytes:Nat) (ht:P.underlying t=some (.slice e)) (hi:P.info? e=some i) (hz:i.zero=some z)
 (hsize:i.size=size) (hby:i.bytes=bytes) (hzs:z.cells.size=size) (hsz:0<size)
 (v:Value) (n:Nat) (xs:List Value) (hs:a.eval s=v) (hown:w.ownsRow base e size v n xs)
 (B:Nat) (A:Option Addr) (m c:Nat) (news:List Value) (hx:a.eval x=.slice A m c) (hr:Reads w B size A m news) (h1:∀ u ∈ news,u.oneCell'=true)
 (h63:n+m≤maxLen) (hbytes:(n+m) * bytes≤140737488355328) (hbase:base≤w.heap.size)
 (h:∀ v' w',w'.ownsRow base e size v' (n+m) (xs++news)→w.grownBy w' v.ownBlock→(v'.ownBlock=v.ownBlock∨v'.ownBlock=some w.heap.size)→K (a.put o.dst v') w'):o.wp P a w K Q:=by
 obtain ⟨v',w',hrun,h2,h3,h4⟩:=EI (P:=P) w base t o.type e i z size bytes ht hi hz hsize hby hzs hsz v n xs hown B A m c news hr h1 h63 hbytes hbase
 unfold Oper.wp execOp
 simp only [ho,resolve,invoke,builtin,IP,JJ,JK,PI,DI,EF,hs,hx,hrun]
 exact h v' w' h2 h3 h4
end
def Rd (w:World) (size:Nat) (A:Option Addr) (n:Nat) (xs:List Value):Prop:=Reads w w.heap.size size A n xs
theorem Rd.Au {w w':World} {size n:Nat} {A:Option Addr} {xs:List Value} (h:Rd w size A n xs) (hb:Aj w w'):Rd w' size A n xs:=(Reads.below h hb).more hb.size
theorem Rd.Bf {w:World} {base:Nat} {e:TypeId} {size n c:Nat} {A:Option Addr} {xs:List Value} (h:w.ownsRow base e size (.slice A n c) n xs):Rd w size A n xs:=Reads.Bf h
theorem Rd.nil {w:World} {size:Nat} {A:Option Addr}:Rd w size A 0 []:=⟨by simp,fun h=>absurd h (by omega)⟩
theorem Rd.int {w:World} {A:Option Addr} {n k:Nat} {kd:IntKind} {zs:List Int} (h:Rd w 1 A n (zs.map (Value.int kd))) (hk:k<n):
 ∃ ad z,A=some ad∧zs[k]?=some z∧w.cell? (ad.add k)=some (.int kd z):=by
 obtain ⟨ad,u,e,_,hx,hc⟩:=Reads.at_ h hk
 rw [DD] at hx
 cases hz:zs[k]? with
 |none=>rw [hz] at hx;cases hx
 |some z=>
  rw [hz] at hx
  simp at hx
  subst hx
  exact ⟨ad,z,e,rfl,hc⟩
theorem Rd.len {w:World} {A:Option Addr} {n:Nat} {xs:List Value} (h:Rd w 1 A n xs):xs.length=n:=by have:=h.1;omega
structure BC (P:Program) (t e:TypeId) (size bytes:Nat):Prop where
 ht:P.underlying t=some (.slice e)
 hi:∃ i z,P.info? e=some i∧i.zero=some z∧i.size=size∧i.bytes=bytes∧z.cells.size=size
 pos:0<size
theorem BC.mk' {P:Program} {t e:TypeId} {size bytes:Nat} {z:Value} (ht:P.underlying t=some (.slice e))
 (h:(P.info? e).map (fun i=>(i.zero,i.size,i.bytes))=some (some z,size,bytes)) (hz:z.cells.size=size) (pos:0<size):BC P t e size bytes:=by
 obtain ⟨i0,hi0,hz0,hz1,hz2⟩:=info_parts h
 exact ⟨ht,⟨i0,z,hi0,hz0,hz1,hz2,hz⟩,pos⟩
theorem Ao {w:World} {base:Nat} {e:TypeId} {size n:Nat} {v:Value} {xs:List Value} (h:w.ownsRow base e size v n xs):∃ A c,v=.slice A n c∧n≤c:=by
 rcases h.2 with ⟨rfl,rfl⟩|⟨g,cap,cur,rfl,_,_,hc,_⟩
 ·exact ⟨_,_,rfl,BZ _⟩
 ·exact ⟨_,_,rfl,hc⟩
theorem AQ {w:World} {g m size:Nat} {cs:Array Value} {e:TypeId} (hb:w.heap[g]?=some (.cells cs e (0,0))) (hcs:cs.size=m * size):Reads w w.heap.size size (some ⟨g,0,none⟩) m cs.toList:=by
 refine ⟨by simpa using hcs,fun _=>⟨_,rfl,?_,fun j u hu=>?_⟩⟩
 ·rcases Nt g w.heap.size with h|h
  ·exact h
  ·rw [nV h] at hb;cases hb
 ·have ha:(⟨g,0,none⟩:Addr).add j=⟨g,j,none⟩:=by
   unfold Addr.add
   split
   ·rename_i h;subst h;rfl
   ·simp
  rw [ha,cell_of_row w g j cs e (0,0) hb]
  simpa using hu
theorem ZF {w0 w w':World} {e:TypeId} {size n:Nat} {v:Value} {xs:List Value} (hB:Aj w0 w) (hown:w.ownsRow w0.heap.size e size v n xs) (hg:w.grownBy w' v.ownBlock):Aj w0 w':=
 hB.grown hg fun k hk=>(hown.lt k hk).1
section
variable {P : Program} {w : World}
theorem Va {o:Oper} {a:Act} {K:Act→World→Prop} {Q:Exit→Act→World→Prop} (s x:Operand) (t:TypeId)
 (ho:o.op=.call { callee:=.builtin .append,args:=#[s,x],argTypes:=#[t,t] })
 {e:TypeId} {size bytes:Nat} (E:BC P t e size bytes) (w0:World) (hB:Aj w0 w)
 (v:Value) (n:Nat) (xs:List Value) (hs:a.eval s=v) (hown:w.ownsRow w0.heap.size e size v n xs)
 (A:Option Addr) (m c:Nat) (news:List Value) (hx:a.eval x=.slice A m c) (hr:Rd w size A m news) (h1:∀ u ∈ news,u.oneCell'=true)
 (h63:n+m≤maxLen) (hbytes:(n+m) * bytes≤140737488355328)
 (h:∀ v' w',w'.ownsRow w0.heap.size e size v' (n+m) (xs++news)→Aj w0 w'→w.grownBy w' v.ownBlock→(v'.ownBlock=v.ownBlock∨v'.ownBlock=some w.heap.size)→K (a.put o.dst v') w'):o.wp P a w K Q:=by
 obtain ⟨i,z,hi,hz,hsz,hby,hzs⟩:=E.hi
 exact LM w s x t ho w0.heap.size e i z size bytes E.ht hi hz hsz hby hzs E.pos v n xs hs hown w.heap.size A m c news hx hr h1 h63 hbytes hB.size fun v' w' h2 h3 h4=>h v' w' h2 (ZF hB hown h3) h3 h4
theorem KO {ops:Array Oper} {rest:List Oper} {o:Oper} {a:Act} {Q:Exit→Act→World→Prop} (hgd:o.guard=none) (s x:Operand) (t:TypeId)
 (ho:o.op=.call { callee:=.builtin .append,args:=#[s,x],argTypes:=#[t,t] })
 {e:TypeId} {size bytes:Nat} (E:BC P t e size bytes) (w0:World) (hB:Aj w0 w)
 (v:Value) (n:Nat) (xs:List Value) (hs:a.eval s=v) (hown:w.ownsRow w0.heap.size e size v n xs)
 (A:Option Addr) (m c:Nat) (news:List Value) (hx:a.eval x=.slice A m c) (hr:Rd w size A m news) (h1:∀ u ∈ news,u.oneCell'=true)
 (h63:n+m≤maxLen) (hbytes:(n+m) * bytes≤140737488355328)
 (h:∀ v' w',w'.ownsRow w0.heap.size e size v' (n+m) (xs++news)→Aj w0 w'→w.grownBy w' v.ownBlock→(v'.ownBlock=v.ownBlock∨v'.ownBlock=some w.heap.size)→wpList P ops Q rest (a.put o.dst v') w'):wpList P ops Q (o::rest) a w:=
 MO hgd fun _ hK=>Va s x t ho E w0 hB v n xs hs hown A m c news hx hr h1 h63 hbytes fun v' w' h2 h3 h4 h5=>hK _ _ (h v' w' h2 h3 h4 h5)
theorem YU {ops:Array Oper} {o:Oper} {a:Act} {K:Act→World→Prop} {Q:Exit→Act→World→Prop} {X:Prop} (hgd:o.guard=none) (s x:Operand) (t:TypeId)
 (ho:o.op=.call { callee:=.builtin .append,args:=#[s,x],argTypes:=#[t,t] })
 {e:TypeId} {size bytes:Nat} (E:BC P t e size bytes) (w0:World) (hB:Aj w0 w)
 (v:Value) (n:Nat) (xs:List Value) (hs:a.eval s=v) (hown:w.ownsRow w0.heap.size e size v n xs)
 (A:Option Addr) (m c:Nat) (news:List Value) (hx:a.eval x=.slice A m c) (hr:Rd w size A m news) (h1:∀ u ∈ news,u.oneCell'=true)
 (h63:n+m≤maxLen) (hbytes:(n+m) * bytes≤140737488355328)
 (h:∀ v' w',w'.ownsRow w0.heap.size e size v' (n+m) (xs++news)→Aj w0 w'→w.grownBy w' v.ownBlock→(v'.ownBlock=v.ownBlock∨v'.ownBlock=some w.heap.size)→K (a.put o.dst v') w'):
 if Region.wanted o (yielded ops a.tmps)=true then Oper.wp P o a w K Q else X:=by
 have hw:Region.wanted o (yielded ops a.tmps)=true:=by simp [Region.wanted,hgd]
 rw [Ak hw]
 exact Va s x t ho E w0 hB v n xs hs hown A m c news hx hr h1 h63 hbytes h
end
theorem Di {w w':World} (h:Aj w w') (row:Option Nat):w.grownBy w' row:=⟨h.os,h.tape,h.output,h.size,fun i hi _=>h.block i hi⟩
theorem FB {w w':World} {base:Nat} {e:TypeId} {size n:Nat} {v:Value} {xs:List Value} (h:w.ownsRow base e size v n xs) (hb:Aj w w'):w'.ownsRow base e size v n xs:=by
 refine h.kept (Di hb none) ?_
 cases v.ownBlock with
 |none=>exact .inl rfl
 |some k=>exact .inr (by simp)
theorem KT (w:World) (e:TypeId) (cs:Array Value) (m size:Nat) (h:cs.size=m * size):Rd (w.alloc (.cells cs e)) size (some ⟨w.heap.size,0,none⟩) m cs.toList:=
 AQ (Qn _ _) h
def Br (w:World) (g:Nat) (t:TypeId) (cs:Array Value):Prop:=w.heap[g]?=some (.cells cs t (0,0))
section
variable {w w' : World} {g : Nat} {t : TypeId} {cs : Array Value}
theorem Br.lt (h:Br w g t cs):g<w.heap.size:=by
 rcases Nt g w.heap.size with hlt|hge
 ·exact hlt
 ·unfold Br at h;rw [nV hge] at h;cases h
theorem Br.cell (h:Br w g t cs) (i:Nat):w.cell? ⟨g,i,none⟩=cs[i]?:=cell_of_row w g i cs t (0,0) h
theorem Br.Am {w:World} {g:Nat} {t:TypeId} {cs:Array Value} (h:Br w g t cs) (i:Nat) {v:Option Value} (e:cs[i]?=v:=by simp only [LG];rfl):w.cell? ⟨g,i,none⟩=v:=(h.cell i).trans e
theorem Br.frozen (h:Br w g t cs) (i:Nat):w.frozen? ⟨g,i,none⟩=false:=by
 unfold Br at h
 simp [World.frozen?,h]
theorem Br.new (w:World) (t:TypeId) (cs:Array Value):Br (w.alloc (.cells cs t)) w.heap.size t cs:=Qn w _
theorem Br.drew (h:Br w g t cs):Br w.drew g t cs:=h
theorem Br.drewN (h:Br w g t cs) (n:Nat):Br (w.drewN n) g t cs:=h
theorem Br.alloc (h:Br w g t cs) (o:Obj):Br (w.alloc o) g t cs:=(Below.heap_alloc w o g h.lt).trans h
theorem Br.Gr (h:Br w g t cs) (i:Nat) (u:Value):Br (w.setCell ⟨g,i,none⟩ u) g t (cs.setIfInBounds i u):=by
 unfold Br at h ⊢
 simp [World.setCell,Array.getElem?_modify,h]
theorem Br.far (h:Br w g t cs) {p:Addr} (hp:g≠p.block) (u:Value):Br (w.setCell p u) g t cs:=(UL w p u g hp).trans h
theorem Br.below {B:Nat} (h:Br w g t cs) (hb:Below B w w') (hg:g<B):Br w' g t cs:=(hb.block g hg).trans h
theorem Br.grown {row:Option Nat} (h:Br w g t cs) (hb:w.grownBy w' row) (hg:some g≠row):Br w' g t cs:=(hb.block g h.lt hg).trans h
theorem Br.ne_ {g':Nat} {t':TypeId} {cs':Array Value} (h:Br w g t cs) (h':Br w g' t' cs') (hne:t≠t'):g≠g':=by
 rintro rfl
 unfold Br at h h'
 rw [h] at h'
 injection h' with h'
 injection h' with _ ht
 exact hne ht
theorem QE {base:Nat} {e:TypeId} {size n:Nat} {v:Value} {xs:List Value} (h:w.ownsRow base e size v n xs) (hg:Br w g t cs) (hne:e≠t):v.ownBlock≠some g:=by
 rcases h.2 with ⟨rfl,_⟩|⟨g',cap,cur,rfl,_,hh,_⟩
 ·simp [Value.ownBlock]
 ·intro he
  have:g'=g:=by simpa [Value.ownBlock] using he
  subst this
  exact Br.ne_ (t:=e) hh hg hne rfl
end
theorem Br.Au {w w':World} {g:Nat} {t:TypeId} {cs:Array Value} (h:Br w g t cs) (hb:Aj w w'):Br w' g t cs:=h.below hb h.lt
theorem Re (l:List UInt8) (a:Nat):(⟨l.toArray⟩:ByteArray).extract a l.length=⟨(l.drop a).toArray⟩:=by
 rw [Og,DY (by simp)]
theorem aS (l:List UInt8) (b:Nat):(⟨l.toArray⟩:ByteArray).extract 0 b=⟨(l.take b).toArray⟩:=by
 rw [Og]
 simp
structure Over (w:World) where
 wd:World
 Au:Aj w wd
instance (w:World):Nonempty (Over w):=⟨⟨w,Aj.refl w⟩⟩
section
variable {P : Program} {w : World}
theorem Al {id:Nat} {Q:Exit→Act→World→Prop} {a:Act} {l:List Oper} (h:wpQuiet P l.toArray (fun w'=>∃ u:Over w,w'=u.wd) (fun a'=>∀ w',(∃ u:Over w,w'=u.wd)→Q .normal a' w') l a) (hm:P.follows .mixedOrders=true:=by kernel_rfl) (hB:Region.lexB .any l.toArray=true:=by kernel_rfl):(Code.region id l.toArray true).wp P Q a w:=
 wp_region_quiet (C:=fun w'=>∃ u:Over w,w'=u.wd) hm hB ⟨⟨_,(Aj.refl w).drew⟩,rfl⟩ (by simpa using h)
theorem Be {f:FuncId} {args:Array Value} {u:Over w} {v:Value} (h:Calls P f args u.wd fun e w'=>e=.returned v∧Aj u.wd w'):
 Calls P f args u.wd fun e w''=>e=.returned v∧∃ m:Over w,w''=m.wd:=
 h.mono fun _ w' ⟨he,hm⟩=>⟨he,⟨w',u.Au.trans hm⟩,rfl⟩
theorem NK {f:FuncId} {args:Array Value} {u:Over w} {v:Value} (h:Calls P f args u.wd fun e w'=>e=.returned v∧u.wd=w'):
 Calls P f args u.wd fun e w''=>e=.returned v∧∃ m:Over w,w''=m.wd:=
 h.mono fun _ w' ⟨he,hm⟩=>⟨he,u,hm.symm⟩
theorem Over.cell {p:Addr} {v:Value} (h:w.cell? p=some v) (u:Over w):u.wd.cell? p=some v:=(u.Au.cell (PN _ _ h)).trans h
end
theorem Br.range {w:World} {g:Nat} {t:TypeId} {cs:Array Value} (h:Br w g t cs):w.rangeAt g 0 cs.toList:=fun j v hv=>by
 rw [Hw,h.cell]
 simpa using hv
theorem Br.there {w:World} {g:Nat} {t:TypeId} {cs:Array Value} (h:Br w g t cs) {n:Nat} (hn:n≤cs.size):w.there g 0 n:=fun j hj=>by
 rw [Hw,h.cell,h.frozen]
 exact ⟨by rw [UY (by omega)];rfl,rfl⟩
structure DV (P:Program) (ty:TypeId) (n:Nat):Prop where
 hu:∃ d,P.underlying ty=some d∧d.isRow=true
 hi:(P.info? ty).map (·.size)=some n
section
variable {P : Program}
theorem Ae {ops:Array Oper} {rest:List Oper} {op:Oper} {a:Act} {w:World} {Q:Exit→Act→World→Prop} (hgd:op.guard=none) {ty:TypeId} {n:Nat} (R:DV P ty n) (x:Operand) (ho:op.op=.load ty x)
 (b o:Nat) (hx:a.eval x=.pointer (some ⟨b,o,none⟩)) (cs:Array Value) (hn:cs.size=n) (hc:w.rangeAt b o cs.toList)
 (h:wpList P ops Q rest (a.put op.dst (.agg cs)) w):wpList P ops Q (op::rest) a w:=by
 obtain ⟨d,hu,hd⟩:=R.hu
 exact wpList_load_mid hgd ty x ho b o hx cs.toList d hc hu hd (by rw [R.hi];simp [hn]) (by simpa using h)
theorem Er {ops:Array Oper} {rest:List Oper} {op:Oper} {a:Act} {w:World} {Q:Exit→Act→World→Prop} (hgd:op.guard=none) {ty:TypeId} {n:Nat} (R:DV P ty n) (x:Operand) (ho:op.op=.load ty x)
 (g:Nat) (hx:a.eval x=.pointer (some ⟨g,0,none⟩)) {t:TypeId} {cs:Array Value} (hb:Br w g t cs) (hn:cs.size=n)
 (h:wpList P ops Q rest (a.put op.dst (.agg cs)) w):wpList P ops Q (op::rest) a w:=
 Ae hgd R x ho g 0 hx cs hn hb.range h
theorem Bj {ops:Array Oper} {rest:List Oper} {op:Oper} {a:Act} {w:World} {Q:Exit→Act→World→Prop} (hw:Region.wanted op (yielded ops a.tmps)=true) {ty:TypeId} {n:Nat} (R:DV P ty n) (x:Operand) (ho:op.op=.load ty x)
 (g:Nat) (hx:a.eval x=.pointer (some ⟨g,0,none⟩)) {t:TypeId} {cs:Array Value} (hb:Br w g t cs) (hn:cs.size=n)
 (h:wpList P ops Q rest (a.put op.dst (.agg cs)) w):wpList P ops Q (op::rest) a w:=by
 obtain ⟨d,hu,hd⟩:=R.hu
 refine wpList_step fun K hK=>?_
 rw [Ak hw]
 exact wp_load_mid ty x ho g 0 hx cs.toList d hb.range hu hd (by rw [R.hi];simp [hn]) (hK _ _ (by simpa using h))
theorem Db (w:World) (g:Nat):∀ (vs:List Value) (o:Nat),w.grownBy (w.setCells g o vs) (some g)
 |[],o=>World.grownBy.refl w _
 |v::vs,o=>by
  have h1:w.grownBy (w.setCell ⟨g,o,none⟩ v) (some g):=
   ⟨rfl,rfl,rfl,by simp [World.setCell],fun i hi hne=>UL w _ _ i (fun e=>hne (by rw [e]))⟩
  have h2:=Db (w.setCell ⟨g,o,none⟩ v) g vs (o+1)
  exact h1.trans h2
def Dp (cs:Array Value):Nat→List Value→Array Value
 |_,[]=>cs
 |o,v::vs=>Dp (cs.setIfInBounds o v) (o+1) vs
theorem Ll:∀ (vs:List Value) (o:Nat) (cs:Array Value),(Dp cs o vs).size=cs.size
 |[],_,_=>rfl
 |v::vs,o,cs=>by rw [Dp,Ll vs];simp
theorem MV:∀ (vs:List Value) (o:Nat) (cs:Array Value) (j:Nat),j<cs.size→(Dp cs o vs)[j]?=if o≤j∧j<o+vs.length then vs[j - o]? else cs[j]?
 |[],o,cs,j,hj=>by rw [Ah (by simp),Dp]
 |v::vs,o,cs,j,hj=>by
  rw [Dp,MV vs (o+1) _ j (by simpa using hj)]
  by_cases h1:o+1≤j∧j<o+1+vs.length
  ·rw [Ak h1,Ak (by simp only [CZ];omega),show j - o=(j - (o+1))+1 by omega,FW]
  ·rw [Ah h1,iL]
   by_cases h2:o=j
   ·subst h2
    rw [Ak rfl,Ak hj,Ak (by simp)]
    simp
   ·rw [Ah h2,Ah (by simp only [CZ];omega)]
theorem Js (cs cs':Array Value) (h:cs.size=cs'.size):Dp cs 0 cs'.toList=cs':=by
 apply Array.ext_getElem?
 intro j
 by_cases hj:j<cs.size
 ·rw [MV _ _ _ _ hj,Ak (by simp;omega)]
  simp
 ·rw [nV (by rw [Ll];omega),nV (by omega)]
theorem Br.Dp {t:TypeId}:∀ (vs:List Value) (o:Nat) {w:World} {g:Nat} {cs:Array Value},Br w g t cs→Br (w.setCells g o vs) g t (Proofs.YtijplolmkcdflaaGreat.Dp cs o vs)
 |[],o,_,_,_,h=>h
 |v::vs,o,_,_,_,h=>Br.Dp vs (o+1) (h.Gr o v)
theorem AA {ops:Array Oper} {rest:List Oper} {op:Oper} {a:Act} {w:World} {Q:Exit→Act→World→Prop} (hgd:op.guard=none) {ty:TypeId} {n:Nat} (R:DV P ty n) (x y:Operand) (ho:op.op=.store ty x y)
 (g:Nat) (hx:a.eval x=.pointer (some ⟨g,0,none⟩)) {t:TypeId} {cs:Array Value} (hb:Br w g t cs) (hn:cs.size=n) (cs':Array Value) (hn':cs'.size=n) (hy:a.eval y=.agg cs') (h1:cs'.all (·.oneCell')=true)
 (h:∀ w',Br w' g t cs'→w.grownBy w' (some g)→wpList P ops Q rest (a.put op.dst undef) w'):wpList P ops Q (op::rest) a w:=by
 refine UI hgd ty x y ho g 0 cs' hx hy (hb.there (by omega)) (by rw [R.hi,hn']) h1 (h _ ?_ (Db w g _ _))
 have:=Br.Dp cs'.toList 0 hb
 rwa [Js cs cs' (by omega)] at this
theorem Aj.Lu {a w w':World} {g:Nat} (h:Aj a w) (hg:w.grownBy w' (some g)) (hr:a.heap.size≤g):Aj a w':=h.grown hg fun k e=>by injection e with e;omega
end
theorem AJ {P:Program} {fn:Func} {p u:Tmp} {ty:TypeId} {n:Nat} (h:fn.results=#[.cell p ty,.tmp u]) (R:DV P ty n) {tmps:Array Value} {w:World} {g:Nat} {t:TypeId} {cs:Array Value}
 (hp:tmps.getD p undef=.pointer (some ⟨g,0,none⟩)) (hb:Br w g t cs) (hn:cs.size=n):
 (results fn tmps).run P w=.ok (.tuple #[.agg cs,tmps.getD u undef]) w:=by
 obtain ⟨d,hu,hd⟩:=R.hu
 rw [results_cell_tmp h,hp]
 simp only [asAddr,JJ,JK]
 rw [iJ w g 0 ty cs.toList d hb.range hu hd (by rw [R.hi];simp [hn])]
 simp
theorem O7 {i:Nat} (h:i≤56):(2:Nat) ^ i≤72057594037927936:=by
 have:(2:Nat) ^ i≤2 ^ 56:=aH (by omega) h
 simpa using this
theorem YD (x:Int) (w:World) (h0:0≤x) (h1:x≤8):
 Calls prog 129 #[.int .i64 x] w fun e w'=>e=.returned (.int .u64 ((2 ^ (7 * x.toNat):Nat):Int))∧w=w':=by
 obtain ⟨s,rfl⟩:=Rb h0
 rw [Da]
 go_enter func129,ntmps129
 go_wp2
 go_loop [3,4] (fun n i=>∃ k p:Nat,k≤7 * s∧i=.int .i64 k∧n=.int .u64 p∧Hid (p=2 ^ k)) (fun _ i=>7 * s - (intOf i).toNat)
 case atStart=>exact ⟨0,1,by omega,rfl,rfl,rfl⟩
 case round=>
  obtain ⟨k,p,hk,rfl,rfl,hp⟩:=hrel
  by_cases hlt:k<7 * s
  ·have hb:p≤72057594037927936:=by rw [hp.Ab];exact O7 (by omega)
   go_wp2
   go_round
   case rel=>exact ⟨k+1,p * 2,by omega,by go_num,by go_num,by show _=_;rw [hp.Ab,Od]⟩
   case measure=>simp [intOf];omega
  ·have:k=7 * s:=by omega
   have hq:Hid (p=2 ^ (7 * s)):=by rw [←this];exact hp
   clear hp this
   go_wp2
   go_ret
   exact ⟨GJ (by simp [hq.Ab]),rfl⟩
theorem tV:∀ k:Nat,k<9→1≤k→lead k+128 / 2 ^ (k - 1)=lead (k+1)∧128 / 2 ^ (k - 1) / 2=128 / 2 ^ k∧lead k≤255∧128 / 2 ^ (k - 1)≤128:=by decide
theorem rE (x:Int) (w:World) (h0:1≤x) (h1:x≤9):
 Calls prog 87 #[.int .i64 x] w fun e w'=>e=.returned (.int .i64 (lead x.toNat:Nat))∧w=w':=by
 obtain ⟨s,rfl⟩:=Rb (show 0≤x by omega)
 rw [Da]
 go_enter func87,ntmps87
 go_wp2
 go_loop [3,4,5] (fun n b i=>∃ k p q:Nat,1≤k∧k≤s∧i=.int .i64 k∧n=.int .i64 p∧b=.int .i64 q∧Hid (p=lead k∧q=128 / 2 ^ (k - 1))) (fun _ _ i=>s - (intOf i).toNat)
 case atStart=>exact ⟨1,0,128,by omega,by omega,rfl,rfl,rfl,rfl,rfl⟩
 case round=>
  obtain ⟨k,p,q,hk1,hk,rfl,rfl,rfl,hp⟩:=hrel
  by_cases hlt:k<s
  ·obtain ⟨s1,s2,s3,s4⟩:=tV k (by omega) hk1
   have b1:p≤255:=by rw [hp.1];exact s3
   have b2:q≤128:=by rw [hp.2];exact s4
   have S:Hid (p+q=lead (k+1)∧q / 2=128 / 2 ^ k):=by rw [hp.1,hp.2];exact ⟨s1,s2⟩
   clear s1 s2 s3 s4
   go_wp2
   go_round
   case rel=>exact ⟨k+1,p+q,q / 2,by omega,by omega,by go_num,by go_num,by go_num,S.1,S.2⟩
   case measure=>simp [intOf];omega
  ·have:k=s:=by omega
   have hq:Hid (p=lead s):=by rw [←this];exact hp.1
   clear hp this
   go_wp2
   go_ret
   exact ⟨GJ (by simp [hq.Ab]),rfl⟩
theorem rC (x:Int) (w:World) (h0:0≤x):
 Calls prog 86 #[.int .u64 x] w fun e w'=>e=.returned (.int .i64 (AU x.toNat:Nat))∧w=w':=by
 obtain ⟨n,rfl⟩:=Rb h0
 rw [Da]
 clear h0
 go_enter func86,ntmps86
 go_wp2
 go_loop [3] (fun i=>∃ k:Nat,1≤k∧k≤9∧i=.int .i64 k∧Hid (k=1∨2^(7*(k-1))≤n)) (fun i=>9 - (intOf i).toNat)
 case atStart=>exact ⟨1,by omega,by omega,rfl,Or.inl rfl⟩
 case round=>
  obtain ⟨k,hk1,hk2,rfl,hd⟩:=hrel
  by_cases hlt:k<9
  ·obtain ⟨p,hp⟩:∃ p:Nat,Hid (2 ^ (7 * k)=p):=⟨_,rfl⟩
   by_cases hc:p≤n
   ·go_wp2_with (go_at_call 129;refine (YD _ _ (by omega) (by omega)).mono ?_;rintro e w' ⟨rfl,rfl⟩;rw [Da,hp.Ab])
    go_round
    case rel=>exact ⟨k+1,by omega,by omega,by go_num,Or.inr (by rw [UM,hp.Ab];exact hc)⟩
    case measure=>simp [intOf];omega
   ·have hN:Hid (AU n=k):=dN hk1 (by omega) (by rw [hp.Ab];omega) hd.Ab
    go_wp2_with (go_at_call 129;refine (YD _ _ (by omega) (by omega)).mono ?_;rintro e w' ⟨rfl,rfl⟩;rw [Da,hp.Ab])
    go_ret
    exact ⟨GJ (by have:=hN.Ab;omega),rfl⟩
  ·have hk:k=9:=by omega
   have hN:Hid (AU n=9):=VN (by rcases hd.Ab with h|h;omega;subst hk;exact h)
   clear hd hk
   go_wp2
   go_ret
   exact ⟨GJ (by have:=hN.Ab;omega),rfl⟩
theorem U7 (k n:Nat):be (k+1) n=UInt8.ofNat (n / 256 ^ k % 256)::be k n:=by
 apply UJ
 intro j
 by_cases hj:j<k+1
 ·rw [Uc _ _ _ hj]
  cases j with
  |zero=>simp
  |succ j=>rw [FW,Uc _ _ _ (by omega)];simp;congr 4;omega
 ·rw [Gt (by rw [GY];omega),Gt (by simp [GY];omega)]
theorem Aa2 (x:Int) (h0:0≤x) (h1:x<256) (W:World):
 (convert 163 9 (.slice (some ⟨W.heap.size,0,none⟩) 1 1)).run prog (W.alloc (.cells #[.int .u8 x] 5))=.ok (.string ⟨[UInt8.ofNat x.toNat].toArray⟩) (W.alloc (.cells #[.int .u8 x] 5)):=by
 exact Lib.run_convert_whole (P:=prog) _ 163 5 9 underlying163 underlying5 underlying9 W.heap.size 0 ⟨[UInt8.ofNat x.toNat].toArray⟩ (fun i hi=>by
  have hi':i=0:=by
   have:i<1:=hi
   omega
  subst hi'
  have:(⟨[UInt8.ofNat x.toNat].toArray⟩:ByteArray)[0]=UInt8.ofNat x.toNat:=rfl
  rw [this]
  have e:((UInt8.ofNat x.toNat).toNat:Int)=x:=by
   rw [UInt8.toNat_ofNat']
   omega
  rw [e]
  simp) 1
theorem P9 (n s:Nat) (h:AU n=s) (c:Nat) (hc:c=lead s+n / 256 ^ (s - 1)) (l:List UInt8) (hl:l=be (s - 1) n):UInt8.ofNat c::l=CK n:=by
 subst h hc hl
 rfl
theorem yB {n:Nat} (hn:n<18446744073709551616):n / 256 ^ (AU n - 1)≤255∧lead (AU n)+n / 256 ^ (AU n - 1)<256:=by
 obtain ⟨_,_,e3,_,_⟩:=rM hn
 omega
theorem Vs (x:Int) (w:World) (h0:0≤x) (hx:x<18446744073709551616):
 Calls prog 53 #[.int .u64 x] w fun e w'=>e=.returned (.string ⟨(CK x.toNat).toArray⟩)∧Aj w w':=by
 obtain ⟨n,rfl⟩:=Rb h0
 rw [Da]
 have hn:n<18446744073709551616:=by omega
 clear h0 hx
 have hs1:=IG n
 have hs2:=JQ n
 have Hn:=Aa hn
 clear hn
 go_enter func53,ntmps53
 go_wp2_with (go_at_call 86;refine (rC _ _ (by omega)).mono ?_;rintro e w' ⟨rfl,rfl⟩)
 obtain ⟨s,Hs⟩:∃ s,Hid (AU n=s):=⟨_,rfl⟩
 rw [Hs.Ab] at hs1 hs2
 rw [Hs.Ab]
 go_loopw [0,4,5] (fun m o i wr=>∃ (t p:Nat) (l:List UInt8),1≤t∧t≤s∧i=.int .i64 t∧m=.int .u64 p∧o=.string ⟨l.toArray⟩∧Aj w wr∧Hid (p=n / 256 ^ (t - 1)∧l=be (t - 1) n)) (fun _ _ i _=>s - (intOf i).toNat)
 case atStart=>exact ⟨1,n,[],by omega,by omega,rfl,rfl,rfl,Aj.refl _,by simp,rfl⟩
 case round=>
  obtain ⟨t,p,l,ht1,ht,rfl,rfl,rfl,hB,hp⟩:=hrel
  by_cases hlt:t<s
  ·have c1:=Aa2 ((p:Int) % 256) (by omega) (by omega)
   have hl:l.length≤9:=by rw [hp.2,GY];omega
   have hpn:p≤18446744073709551615:=by
    have h1:=Hn.Ab
    have h2:p≤n:=by rw [hp.1];exact Nat.div_le_self _ _
    omega
   go_wp2
   go_roundw
   case rel=>
    refine ⟨t+1,p / 256,UInt8.ofNat (p % 256)::l,by omega,by omega,by go_num,by go_num,?_,hB.alloc _,?_,?_⟩
    ·rw [aT]
    ·rw [hp.1,Nat.div_div_eq_div_mul,←Od,show (t - 1).succ=t+1 - 1 by omega]
    ·rw [hp.1,hp.2,show t+1 - 1=t - 1+1 by omega,U7]
   case measure=>simp [intOf];omega
  ·have hts:t=s:=by omega
   have Hp:Hid (p=n / 256 ^ (s - 1)∧l=be (s - 1) n):=by rw [←hts];exact hp
   have htop:p≤255∧lead s+p<256:=by rw [Hp.1,←Hs.Ab];exact yB Hn.Ab
   have hl:l.length≤9:=by rw [Hp.2,GY];omega
   clear hp hts
   obtain ⟨b1,b2⟩:=htop
   obtain ⟨q,Hq⟩:∃ q:Nat,Hid (lead s=q):=⟨_,rfl⟩
   rw [Hq.Ab] at b2
   have c1:=Aa2 ((q:Int)+p) (by omega) (by omega)
   go_wp2_with (go_at_call 87;refine (rE _ _ (by omega) (by omega)).mono ?_;rintro e w' ⟨rfl,rfl⟩;rw [Da,Hq.Ab])
   go_ret
   have hfin:=P9 n s Hs (q+p) (by rw [Hq.Ab,←Hp.1]) l Hp.2
   rw [←hfin]
   refine ⟨?_,hB.alloc _⟩
   show Ending.returned (.string _)=_
   rw [aT,UInt8.ofNat_add]
attribute [local go_sem] SE
end Go.Proofs.YtijplolmkcdflaaGreat
namespace Go.Proofs.YtijplolmkcdflaaGreat
open Tryz
open Go.RowKit Go.ChangeShapes Go.WideShapes
structure qA where
 A:Option Addr
 n:Nat
 c:Nat
 zs:List Int
def qA.v (x:qA):Value:=.slice x.A x.n x.c
structure qA.ok (k:IntKind) (w:World) (x:qA):Prop where
 rd:Rd w 1 x.A x.n (x.zs.map (Value.int k))
 wf:∀ z ∈ x.zs,(Lit.int k z).wf=true
 le:x.n≤x.c
 cap:x.c≤maxLen
section
variable {H : Type} {enc : TypeId × Value → H} {P : Program} {w : World} {base b0 : Nat} {spare : Nat → Bool} {held : Bool} {r : Reach}
end
end Go.Proofs.YtijplolmkcdflaaGreat
namespace Go.Proofs.YtijplolmkcdflaaGreat
open Tryz
open Go.RowKit Go.ChangeShapes Go.WideShapes Go.Deep
theorem oG {w:World} {ad:Addr} {u:Value} (h:w.cell? (ad.add 0)=some u):ad=⟨ad.block,ad.off,none⟩:=by
 obtain ⟨b,o,sp⟩:=ad
 have h1:=World.cell?_spot h
 simp [Addr.add] at h1
 subst h1
 rfl
def MH {H:Type} (P:Program) (t:TypeId) (d:DataW H):Prop:=∀ n ∈ d.weights P t,n≤140737488351232
theorem XQ {H:Type} {P:Program} {e:TypeId}:∀ {l:List (DataW H)} {d:DataW H},d ∈ l→∀ n ∈ d.weights P e,n ∈ DataW.weightsAll P e l
 |a::l,d,hd,n,hn=>by
  rw [DataW.weightsAll,DT]
  rcases En.1 hd with rfl|h
  ·exact .inl hn
  ·exact .inr (XQ h n hn)
theorem MH.arg {H:Type} {P:Program} {ts:List TypeId} {ds:List (DataW H)} (h:(DataW.weightsEach P ts ds).all (·≤reachBytes)=true) {j:Nat} {t:TypeId} {d:DataW H} (ht:ts[j]?=some t) (hd:ds[j]?=some d):MH P t d:=fun n hn=>by
 have:=Oe.1 h _ (DataW.weights_mem_each ht hd n hn)
 exact LK this
def Nq (P:Program) (t:TypeId) {α:Type} (E:World→List Value→α→Prop):Prop:=
 ∀ {H:Type} {enc:TypeId × Value→H} {w:World} {base:Nat} {spare:Nat→Bool} {held:Bool} {fuel:Nat} {cs:List Value} {x:DataW H × List MemPlace},
  DataW.trod enc P w base spare held fuel t cs=some x→MH P t x.1→∃ y:α,E w cs y
theorem eY {α:Type} {n:Nat} {p:Nat→α→Prop} (h:∀ i,i<n→∃ a,p i a):∃ l:List α,l.length=n∧∀ i a,l[i]?=some a→p i a:=by
 induction n with
 |zero=>exact ⟨[],rfl,by simp⟩
 |succ n ih=>
  obtain ⟨l,hl,hp⟩:=ih fun i hi=>h i (by omega)
  obtain ⟨a,ha⟩:=h n (by omega)
  refine ⟨l++[a],by simp [hl],fun i b hb=>?_⟩
  rcases Nt i l.length with h1|h1
  ·rw [Nz h1] at hb
   exact hp i b hb
  ·rw [NZ h1] at hb
   have:i=n:=by
    have:i - l.length<[a].length:=by
     rcases Nt (i - l.length) [a].length with h2|h2
     ·exact h2
     ·rw [Gt h2] at hb;cases hb
    simp at this
    omega
   subst this
   rw [hl] at hb
   simp at hb
   subst hb
   exact ha
section
variable {P : Program}
theorem sQ {t:TypeId} {k:IntKind} (ht:P.underlying t=some (.int k)):Nq P t (fun _ cs (n:Int)=>cs=[.int k n]∧(Lit.int k n).wf=true):=by
 intro H enc w base spare held fuel cs x h hz
 obtain ⟨n,hc,_,hw⟩:=DataW.trod_int ht h
 exact ⟨n,hc,hw⟩
structure SlOf (w:World) (size bytes:Nat) {α:Type} (E:World→List Value→α→Prop) (A:Option Addr) (n c:Nat) (l:List α):Prop where
 len:l.length=n
 le:n≤c
 cap:c≤maxLen
 reach:n * bytes≤140737488351232
 at_:∀ i a,l[i]?=some a→∃ b o cs,A=some ⟨b,o,none⟩∧b<w.heap.size∧cs.length=size∧E w cs a∧∀ j u,cs[j]?=some u→w.cell? ⟨b,o+i * size+j,none⟩=some u
theorem dH {t e:TypeId} {size bytes:Nat} {α:Type} {E:World→List Value→α→Prop} (ht:P.underlying t=some (.slice e)) (hC:P.cellsOf e=size) (hby:P.bytesOf e=bytes) (hs:0<size) (he:Nq P e E):
 Nq P t (fun w cs (l:List α)=>∃ A n c,cs=[.slice A n c]∧SlOf w size bytes E A n c l):=by
 intro H enc w base spare held fuel cs x h hz
 rcases open_slice ht h with ⟨hcs,_⟩|⟨a,len,cap,m,n,D,Pl,hcs,hb,hl,hm,hmm,hxe,hi⟩
 ·exact ⟨[],none,0,0,hcs,⟨rfl,BZ _,Bw _,by simp,by simp⟩⟩
 ·have hlm:len≤m:=by rw [hmm];split<;>omega
  have hz2:MH P t (.slice ((List.range len).map D) ((List.range (m - len)).map fun j=>D (len+j))):=by rw [hxe] at hz;exact hz
  have hrb:len * bytes≤140737488351232:=by
   have h1:=hz2 ((((List.range len).map D).length+((List.range (m - len)).map fun j=>D (len+j)).length) * P.bytesOf e) (by simp only [DataW.weights,ht];exact Dr)
   simp only [Cq,List.length_range,hby] at h1
   exact Gm (Nv _ (by omega)) h1
  have hze:∀ i,i<len→MH P e (D i):=fun i hi n hn=>hz2 n (by
   simp only [DataW.weights,ht]
   exact EO _ (List.mem_append_left _ (XQ (GZ.2 ⟨i,MP.2 hi,rfl⟩) n hn)))
  have key:∀ i,i<len→∃ y:α,∃ cs',cs'.length=size∧E w cs' y∧∀ j u,cs'[j]?=some u→w.cell? ((a.add (i * size)).add j)=some u:=by
   intro i hil
   obtain ⟨cs',hc,ht'⟩:=hi i (by omega)
   rw [hC] at hc
   obtain ⟨_,hcl,hat⟩:=World.cells?_some hc
   obtain ⟨y,hy⟩:=he ht' (hze i hil)
   refine ⟨y,cs',hcl,hy,fun j u hu=>?_⟩
   have hj:j<size:=by
    rcases Nt j size with h'|h'
    ·exact h'
    ·rw [Gt (by omega)] at hu;cases hu
   rw [hat j hj]
   exact hu
  obtain ⟨l,hll,hlp⟩:=eY key
  refine ⟨l,some a,len,cap,hcs,⟨hll,hl,hm,hrb,fun i y hy=>?_⟩⟩
  have hil:i<len:=by
   rcases Nt i len with h'|h'
   ·exact h'
   ·rw [Gt (by omega)] at hy;cases hy
  obtain ⟨cs',hcl,hE,hat⟩:=hlp i y hy
  obtain ⟨_,cs0,hcl0,_,hat0⟩:=key 0 (by omega)
  have h0:w.cell? (a.add 0)=some (cs0[0]'(by omega)):=by
   have:=hat0 0 _ (Ep (by omega))
   rw [Sn,QS] at this
   exact this
  have hs0:=oG h0
  have hblk:=PN _ _ h0
  rw [FU] at hblk
  refine ⟨a.block,a.off,cs',by rw [←hs0],hblk,hcl,hE,fun j u hu=>?_⟩
  have:=hat j u hu
  rw [QS,hs0,Qi] at this
  rw [Ns]
  exact this
theorem Ei {H:Type} {enc:TypeId × Value→H} {w:World} {base:Nat} {spare:Nat→Bool} {held:Bool} {fuel:Nat} {cs:List Value} {x:DataW H × List MemPlace} {t:TypeId} {fs:Array Field}
 (ht:P.underlying t=some (.struct fs)) (h:DataW.trod enc P w base spare held fuel t cs=some x) (hz:MH P t x.1) {α:Type} {E:World→List Value→α→Prop} (i:Nat) (f:Field) (hf:fs[i]?=some f) (hE:Nq P f.type E) {size:Nat} (hC:P.cellsOf f.type=size):
 ∃ y:α,E w ((cs.drop f.offset).take size) y:=by
 obtain ⟨xs,n,_,hxe,_,hxl,hg⟩:=DataW.trod_struct ht h
 have h1:=hg i f hf
 have hi:i<fs.size:=(UZ.1 hf).1
 rw [hC,Ep (by omega)] at h1
 refine hE h1 fun m hm=>hz m ?_
 rw [hxe]
 simp only [DataW.weights,ht]
 exact DataW.weights_mem_each (j:=i) (by rw [DD,UW,hf];rfl) (by rw [DD,Ep (by omega)];rfl) m hm
theorem Jr {H:Type} {enc:TypeId × Value→H} {w:World} {base:Nat} {spare:Nat→Bool} {held:Bool} {fuel:Nat} {cs:List Value} {x:DataW H × List MemPlace} {t:TypeId} {fs:Array Field}
 (ht:P.underlying t=some (.struct fs)) (h:DataW.trod enc P w base spare held fuel t cs=some x) {size:Nat} (hC:P.cellsOf t=size):cs.length=size:=by
 obtain ⟨xs,n,_,_,hl,_,_⟩:=DataW.trod_struct ht h
 omega
end
theorem Zf {P:Program} {t:TypeId} (ht:P.underlying t=some .string):Nq P t (fun _ cs (l:List UInt8)=>cs=[.string ⟨l.toArray⟩]∧l.length≤140737488351232):=by
 intro H enc w base spare held fuel cs x h hz
 obtain ⟨s,hc,hxe,hs⟩:=DataW.trod_string ht h
 exact ⟨s.data.toList,by rw [hc],hz _ (by rw [hxe];simp [DataW.weights])⟩
theorem kM {P:Program} {t:TypeId} (ht:P.underlying t=some .bool):Nq P t (fun _ cs (b:Bool)=>cs=[.bool b]):=by
 intro H enc w base spare held fuel cs x h hz
 obtain ⟨b,hc,_⟩:=DataW.trod_bool ht h
 exact ⟨b,hc⟩
theorem eU {α:Type} (f:α→Value) (l:List α):(l.flatMap fun a=>[f a])=l.map f:=by
 induction l with
 |nil=>rfl
 |cons a l ih=>rw [CY,ih];rfl
end Go.Proofs.YtijplolmkcdflaaGreat
namespace Go.Proofs.YtijplolmkcdflaaGreat
open Tryz
open Go.RowKit
def AP (x:Int):Prop:=-9223372036854775808≤x∧x≤9223372036854775807
instance (x:Int):Decidable (AP x):=by unfold AP;infer_instance
def YP (x:Int):Int × Bool:=if AP x then (x,true) else (0,false)
theorem aI {x:Int} (h:AP x):YP x=(x,true):=by rw [YP,Ak h]
theorem wW {x:Int} (h:¬ AP x):YP x=(0,false):=by rw [YP,Ah h]
def EM (a b:Int):Int × Bool:=YP (a+b)
theorem Sd (a b:Int) (w:World) (ha:AP a) (hb:AP b):
 Calls prog 143 #[.int .i64 a,.int .i64 b] w fun e w'=>e=.returned (.tuple #[.int .i64 (EM a b).1,.bool (EM a b).2])∧w=w':=by
 unfold AP at ha hb
 obtain ⟨a0,a1⟩:=ha
 obtain ⟨b0,b1⟩:=hb
 by_cases h:AP (a+b)
 ·have HX:Hid (EM a b=(a+b,true)):=aI h
  unfold AP at h
  obtain ⟨h0,h1⟩:=h
  rcases Int.lt_trichotomy b 0 with hs|hs|hs
  ·go_enter func143,ntmps143
   go_wp2
   go_ret2
   rw [HX.Ab]
   exact ⟨rfl,rfl⟩
  ·subst hs
   go_enter func143,ntmps143
   go_wp2
   go_ret2
   rw [HX.Ab]
   exact ⟨by simp,rfl⟩
  ·go_enter func143,ntmps143
   go_wp2
   go_ret2
   rw [HX.Ab]
   exact ⟨rfl,rfl⟩
 ·have HX:Hid (EM a b=(0,false)):=wW h
  unfold AP at h
  rcases Int.lt_trichotomy b 0 with hs|hs|hs
  ·have h':a+b < -9223372036854775808:=by omega
   clear h
   go_enter func143,ntmps143
   go_wp2
   go_ret2
   rw [HX.Ab]
   exact ⟨rfl,rfl⟩
  ·omega
  ·have h':9223372036854775807<a+b:=by omega
   clear h
   go_enter func143,ntmps143
   go_wp2
   go_ret2
   rw [HX.Ab]
   exact ⟨rfl,rfl⟩
end Go.Proofs.YtijplolmkcdflaaGreat
namespace Go.Proofs.YtijplolmkcdflaaGreat
open Tryz
open Go.RowKit Go.ChangeShapes Go.WideShapes Go.Deep
class Ar (α:Type) where
 size:Nat
 bytes:Nat
 cells:α→List Value
 ok:World→α→Prop
 len:∀ a,(cells a).length=size
 pos:0<size
 mono:∀ {w w':World} {a:α},Aj w w'→ok w a→ok w' a
structure Row (α:Type) where
 A:Option Addr
 n:Nat
 c:Nat
 l:List α
def Row.v {α:Type} (x:Row α):Value:=.slice x.A x.n x.c
structure Row.ok {α:Type} [Ar α] (w:World) (x:Row α):Prop where
 rd:Rd w (Ar.size α) x.A x.n (x.l.flatMap Ar.cells)
 all:∀ a ∈ x.l,Ar.ok w a
 le:x.n≤x.c
 cap:x.c≤maxLen
 reach:x.n * Ar.bytes α≤140737488351232
section
variable {α : Type} [Ar α] {w w' : World} {x : Row α}
theorem Row.ok.mono (h:x.ok w) (hb:Aj w w'):x.ok w':=⟨h.rd.Au hb,fun a ha=>Ar.mono hb (h.all a ha),h.le,h.cap,h.reach⟩
theorem Dz (l:List α):(l.flatMap Ar.cells).length=l.length * Ar.size α:=by
 induction l with
 |nil=>simp
 |cons a m ih=>rw [CY,BQ,ih,Ar.len,CZ,Gs];omega
theorem KI (l:List α) (k j:Nat) (a:α) (h:l[k]?=some a) (hj:j<Ar.size α):(l.flatMap Ar.cells)[k * Ar.size α+j]?=(Ar.cells a)[j]?:=by
 induction l generalizing k with
 |nil=>simp at h
 |cons b m ih=>
  rw [CY]
  cases k with
  |zero=>
   simp at h
   subst h
   rw [Sn,Hw,Nz (by rw [Ar.len];exact hj)]
  |succ k=>
   simp at h
   rw [NZ (by rw [Ar.len,Gs];omega),Ar.len,←ih k h]
   congr 1
   rw [Gs]
   omega
theorem FO {A:Option Addr} {n:Nat} {l:List α} (h:Rd w (Ar.size α) A n (l.flatMap Ar.cells)):l.length=n:=by
 have:=h.1
 rw [Dz] at this
 exact Nat.eq_of_mul_eq_mul_right Ar.pos this
theorem Row.ok.len (h:x.ok w):x.l.length=x.n:=FO h.rd
theorem Row.ok.size (h:x.ok w):x.n≤9223372036854775807:=by have:=h.le;have:=h.cap;unfold maxLen at this;omega
theorem XV {A:Option Addr} {n k:Nat} {l:List α} (h:Rd w (Ar.size α) A n (l.flatMap Ar.cells)) (hk:k<n):
 ∃ b o a,A=some ⟨b,o,none⟩∧b<w.heap.size∧l[k]?=some a∧∀ j u,(Ar.cells a)[j]?=some u→w.cell? ⟨b,o+k * Ar.size α+j,none⟩=some u:=by
 have hl:=FO h
 obtain ⟨ad,e,hb,hc⟩:=h.2 (by omega)
 have hp:0<Ar.size α:=Ar.pos
 have h0:w.cell? (ad.add 0)=some (((l.flatMap Ar.cells))[0]'(by rw [Dz,hl];exact Nat.mul_pos (by omega) hp)):=hc 0 _ (Ep _)
 have hs:=oG h0
 refine ⟨ad.block,ad.off,l[k]'(by omega),by rw [e,←hs],hb,Ep _,fun j u hu=>?_⟩
 have hj:j<Ar.size α:=by
  rcases Nt j (Ar.size α) with h'|h'
  ·exact h'
  ·rw [Gt (by rw [Ar.len];exact h')] at hu;cases hu
 have:=hc (k * Ar.size α+j) u (by rw [KI l k j _ (Ep (by omega)) hj];exact hu)
 rw [hs,Qi] at this
 rw [Ns]
 exact this
theorem Row.ok.at_ (h:x.ok w) {k:Nat} (hk:k<x.n):
 ∃ b o a,x.A=some ⟨b,o,none⟩∧x.l[k]?=some a∧Ar.ok w a∧∀ j u,(Ar.cells a)[j]?=some u→w.cell? ⟨b,o+k * Ar.size α+j,none⟩=some u:=by
 obtain ⟨b,o,a,e,_,ha,hc⟩:=XV h.rd hk
 exact ⟨b,o,a,e,ha,h.all a (CE ha),hc⟩
def JW (P:Program) (t:TypeId) (α:Type) [Ar α]:Prop:=Nq P t (fun w cs (a:α)=>cs=Ar.cells a∧Ar.ok w a)
instance Ab4:Ar (Row α) where
 size:=1
 bytes:=24
 cells x:=[x.v]
 ok w x:=x.ok w
 len _:=rfl
 pos:=Nat.zero_lt_one
 mono hb h:=h.mono hb
theorem Jv {P:Program} {t e:TypeId} (ht:P.underlying t=some (.slice e)) (hC:P.cellsOf e=Ar.size α) (hby:P.bytesOf e=Ar.bytes α) (he:JW P e α):JW P t (Row α):=by
 intro H enc w base spare held fuel cs x h hz
 obtain ⟨l,A,n,c,hcs,hS⟩:=dH ht hC hby Ar.pos he h hz
 refine ⟨⟨A,n,c,l⟩,hcs,⟨⟨by rw [Dz,hS.len],fun hn=>?_⟩,fun a ha=>?_,hS.le,hS.cap,hS.reach⟩⟩
 ·have hl:=hS.len
  obtain ⟨b,o,cs0,e,hb,_,_,_⟩:=hS.at_ 0 (l[0]'(by simp only at hn;omega)) (Ep _)
  refine ⟨_,e,hb,fun j u hu=>?_⟩
  have hj:j<n * Ar.size α:=by
   rcases Nt j (n * Ar.size α) with h'|h'
   ·exact h'
   ·rw [Gt (by rw [Dz,hl];omega)] at hu;cases hu
  have hk:j / Ar.size α<n:=Nat.div_lt_of_lt_mul (by rw [Oc];exact hj)
  have hjm:j / Ar.size α * Ar.size α+j % Ar.size α=j:=by rw [Oc];exact Nat.div_add_mod j _
  have hla:l[j / Ar.size α]?=some (l[j / Ar.size α]'(by omega)):=Ep (by omega)
  obtain ⟨b',o',cs',e',_,_,⟨hcs,_⟩,hat⟩:=hS.at_ (j / Ar.size α) _ hla
  rw [e] at e'
  injection e' with e'
  injection e' with e1 e2
  subst e1 e2
  rw [←hjm,KI l _ _ _ hla (Nat.mod_lt _ Ar.pos),←hcs] at hu
  have:=hat _ _ hu
  rw [Qi]
  rw [Ns,hjm] at this
  exact this
 ·obtain ⟨i,hi,rfl⟩:=List.getElem_of_mem ha
  obtain ⟨_,_,_,_,_,_,⟨_,ho⟩,_⟩:=hS.at_ i _ (Ep hi)
  exact ho
theorem open_row {P:Program} {t e:TypeId} (ht:P.underlying t=some (.slice e)) (hC:P.cellsOf e=Ar.size α) (hby:P.bytesOf e=Ar.bytes α) (he:JW P e α)
 {H:Type} {enc:TypeId × Value→H} {w:World} {base b0:Nat} {spare:Nat→Bool} {held:Bool} {r:Reach} {v:Value} {d:DataW H} {p:List MemPlace}
 (hv:Value.okWide P w r b0 t v) (h:DataW.Trod enc P w base spare held t v d p) (hz:MH P t d):∃ x:Row α,v=x.v∧x.ok w:=by
 obtain ⟨a0,len0,cap0,rfl⟩:=okWide_slice ht hv
 obtain ⟨fuel,hf⟩:=h
 obtain ⟨x,hx,ho⟩:=Jv ht hC hby he hf hz
 refine ⟨x,?_,ho⟩
 simpa [Value.cells,Ar.cells] using hx
end
instance Ab5:Ar Int where
 size:=1
 bytes:=8
 cells n:=[.int .i64 n]
 ok _ n:=AP n
 len _:=rfl
 pos:=Nat.zero_lt_one
 mono _ h:=h
instance Z7:Ar (List UInt8) where
 size:=1
 bytes:=16
 cells l:=[.string ⟨l.toArray⟩]
 ok _ l:=l.length≤140737488351232
 len _:=rfl
 pos:=Nat.zero_lt_one
 mono _ h:=h
instance Z8:Ar Bool where
 size:=1
 bytes:=1
 cells b:=[.bool b]
 ok _ _:=True
 len _:=rfl
 pos:=Nat.zero_lt_one
 mono _ h:=h
theorem Mf {P:Program} {t:TypeId} (ht:P.underlying t=some (.int .i64)):JW P t Int:=by
 intro H enc w base spare held fuel cs x h hz
 obtain ⟨n,hc,hw⟩:=sQ ht h hz
 exact ⟨n,hc,bounds_i64 hw⟩
theorem KY {P:Program} {t:TypeId} (ht:P.underlying t=some .string):JW P t (List UInt8):=Zf ht
theorem dI {P:Program} {t:TypeId} (ht:P.underlying t=some .bool):JW P t Bool:=by
 intro H enc w base spare held fuel cs x h hz
 obtain ⟨b,hc⟩:=kM ht h hz
 exact ⟨b,hc,trivial⟩
theorem EX (l:List Int):l.flatMap Ar.cells=l.map (Value.int .i64):=eU _ l
theorem FQ (l:List (List UInt8)):l.flatMap Ar.cells=l.map (fun t=>Value.string ⟨t.toArray⟩):=eU _ l
theorem Row.ok.ints {w:World} {x:Row Int} (h:x.ok w):Rd w 1 x.A x.n (x.l.map (Value.int .i64)):=by have:=h.rd;rwa [EX] at this
theorem Row.ok.texts {w:World} {x:Row (List UInt8)} (h:x.ok w):Rd w 1 x.A x.n (x.l.map (fun t=>Value.string ⟨t.toArray⟩)):=by have:=h.rd;rwa [FQ] at this
end Go.Proofs.YtijplolmkcdflaaGreat
namespace Go.Proofs.YtijplolmkcdflaaGreat
open Tryz
open Go.RowKit
theorem Ri (w:World) (t:TypeId):∀ (vs:List Value) (o:Nat) (cs:Array Value),(w.alloc (.cells cs t)).setCells w.heap.size o vs=w.alloc (.cells (Dp cs o vs) t)
 |[],o,cs=>rfl
 |v::vs,o,cs=>by
  rw [World.setCells,World.setCell_alloc_at _ _ _ _ _ rfl,Ri w t vs (o+1),Dp]
section
variable {P : Program}
theorem Sy {ops:Array Oper} {rest:List Oper} {op:Oper} {a:Act} {w:World} {Q:Exit→Act→World→Prop} (hgd:op.guard=none) {ty:TypeId} {n:Nat} (R:DV P ty n) (x y:Operand) (ho:op.op=.store ty x y)
 {t:TypeId} {cs:Array Value} (hx:a.eval x=.pointer (some ⟨w.heap.size,0,none⟩)) (hn:cs.size=n) (cs':Array Value) (hn':cs'.size=n) (hy:a.eval y=.agg cs') (h1:cs'.all (·.oneCell')=true)
 (h:wpList P ops Q rest (a.put op.dst undef) (w.alloc (.cells cs' t))):wpList P ops Q (op::rest) a (w.alloc (.cells cs t)):=by
 have hb:Br (w.alloc (.cells cs t)) w.heap.size t cs:=Br.new w t cs
 refine UI hgd ty x y ho w.heap.size 0 cs' hx hy (hb.there (by omega)) (by rw [R.hi,hn']) h1 ?_
 rw [Ri,Js cs cs' (by omega)]
 exact h
end
section
variable {w : World} {size n : Nat} {A : Option Addr} {xs : List Value}
theorem Rd.take (h:Rd w size A n xs) {k:Nat} (hk:k≤n):Rd w size A k (xs.take (k * size)):=by
 refine ⟨by rw [Fa,h.1];exact PD (Nv _ hk),fun h0=>?_⟩
 obtain ⟨ad,e,hb,hc⟩:=h.2 (by omega)
 refine ⟨ad,e,hb,fun j u hu=>?_⟩
 rw [Qk] at hu
 split at hu
 ·exact hc j u hu
 ·cases hu
theorem Rd.drop (h:Rd w size A n xs) {k cap:Nat} (hk:k≤n) (hc:n≤cap):Rd w size (if cap=k then A else A.map (·.add (k * size))) (n - k) (xs.drop (k * size)):=Reads.cut h hk hc
end
section
variable {α : Type} [Ar α]
theorem uZ (l:List α) (k:Nat):(l.flatMap Ar.cells).take (k * Ar.size α)=(l.take k).flatMap Ar.cells:=by
 induction l generalizing k with
 |nil=>simp
 |cons a l ih=>
  cases k with
  |zero=>simp
  |succ k=>
   rw [CY,nW,CY,Gs,JX,List.take_append,Ar.len]
   rw [DY (by rw [Ar.len];omega),UM,ih]
theorem vD (l:List α) (k:Nat):(l.flatMap Ar.cells).drop (k * Ar.size α)=(l.drop k).flatMap Ar.cells:=by
 induction l generalizing k with
 |nil=>simp
 |cons a l ih=>
  cases k with
  |zero=>simp
  |succ k=>
   rw [CY,Y6,Gs,JX,List.drop_append,Ar.len]
   rw [EY (by rw [Ar.len];omega),UM,ih,Fy]
theorem Md {w:World} {A:Option Addr} {n k:Nat} {l:List α} (h:Rd w (Ar.size α) A n (l.flatMap Ar.cells)) (hk:k<n):
 ∃ b o a,A=some ⟨b,o,none⟩∧b<w.heap.size∧l[k]?=some a∧w.rangeAt b (o+k * Ar.size α) (Ar.cells a):=by
 obtain ⟨b,o,a,e,hb,ha,hc⟩:=XV h hk
 exact ⟨b,o,a,e,hb,ha,fun j v hv=>hc j v hv⟩
end
theorem OO {α:Type} [Ar α] {w:World} {A:Option Addr} {n k:Nat} {l:List α} (h1:Ar.size α=1) (h:Rd w (Ar.size α) A n (l.flatMap Ar.cells)) (hk:k<n):
 ∃ b o a,A=some ⟨b,o,none⟩∧l[k]?=some a∧∀ u,Ar.cells a=[u]→w.cell? ⟨b,o+k,none⟩=some u:=by
 obtain ⟨b,o,a,e,_,ha,hc⟩:=XV h hk
 refine ⟨b,o,a,e,ha,fun u hu=>?_⟩
 have:=hc 0 u (by rw [hu];rfl)
 rw [h1,Sl] at this
 exact this
theorem Row.ok.int {w:World} {x:Row Int} (h:x.ok w) {k:Nat} (hk:k<x.n):∃ b o z,x.A=some ⟨b,o,none⟩∧x.l[k]?=some z∧AP z∧w.cell? ⟨b,o+k,none⟩=some (.int .i64 z):=by
 obtain ⟨b,o,z,e,hz,hc⟩:=OO rfl h.rd hk
 exact ⟨b,o,z,e,hz,h.all z (CE hz),hc _ rfl⟩
def Apart (u v:Value):Prop:=∀ b,u.ownBlock=some b→v.ownBlock≠some b
theorem Apart.symm {u v:Value} (h:Apart u v):Apart v u:=fun b hv hu=>h b hu hv
section
variable {w w' : World} {base : Nat} {e e' : TypeId} {size n size' n' : Nat} {u v v' : Value} {xs ys : List Value}
theorem Zd (h:w.ownsRow base e size v n xs) {b:Nat} (hb:v.ownBlock=some b):b<w.heap.size:=(h.lt b hb).2
theorem Gj (h:w.ownsRow base e size v n xs) {b:Nat} (hb:v.ownBlock=some b):base≤b:=(h.lt b hb).1
theorem Uy (h:w.ownsRow base e size v n xs) {b:Nat} (hb:v.ownBlock=some b):∃ cs,Br w b e cs:=by
 rcases h.2 with ⟨rfl,_⟩|⟨g,cap,cur,rfl,_,hh,_⟩
 ·simp [Value.ownBlock] at hb
 ·have:g=b:=by simpa [Value.ownBlock] using hb
  subst this
  exact ⟨cur,hh⟩
theorem Ud (hu:w.ownsRow base e size u n xs) (hv:w.ownsRow base e' size' v n' ys) (hne:e≠e'):Apart u v:=fun b h1 h2=>by
 obtain ⟨cs,hc⟩:=Uy hu h1
 obtain ⟨ds,hd⟩:=Uy hv h2
 exact Br.ne_ hc hd hne rfl
theorem Yf (h:w.ownsRow base e size u n xs) (hg:w.grownBy w' v.ownBlock) (ha:Apart u v):w'.ownsRow base e size u n xs:=by
 refine h.kept hg ?_
 cases hu:u.ownBlock with
 |none=>exact .inl rfl
 |some k=>exact .inr (fun e=>ha k hu e.symm)
end
theorem RN:∀ (vs:List Value) (k off:Nat) (cells:Array Value),(vs.zipIdx k).foldl (fun cs (x:Value × Nat)=>cs.setIfInBounds (off+x.2) x.1) cells=Dp cells (off+k) vs
 |[],k,off,cells=>rfl
 |v::vs,k,off,cells=>by
  rw [List.zipIdx_cons,Sr,RN vs (k+1) off,Dp,Ns]
theorem vG (place:Nat→Option (Nat × Nat)) (cells:Array Value) (i:Nat) (v:Value) (rest:List (Nat × Value)) (off size:Nat) (hp:place i=some (off,size)) (hs:v.cells.size=size) (hb:off+size≤cells.size):
 Instr.fill place cells ((i,v)::rest)=Instr.fill place (Dp cells off v.cells.toList) rest:=by
 have e:v.cells.zipIdx.foldl (fun cs (x:Value × Nat)=>cs.setIfInBounds (off+x.2) x.1) cells=Dp cells off v.cells.toList:=by
  have:=RN v.cells.toList 0 off cells
  rw [Jk] at this
  rw [←this,←Array.foldl_toList,Array.toList_zipIdx]
 rw [Instr.fill,hp]
 simp only
 rw [Ah (by simp;omega)]
 exact Cm (fun c=>Instr.fill place c rest) e
section
variable {P : Program}
theorem JY {t e:TypeId} {size bytes:Nat} (E:BC P t e size bytes) (v:Value) (hv:v.cells.size=size) (hs:size≤1000) (w:World):
 (Instr.buildSlice t 1 #[(0,v)]).run P w=.ok (.slice (some ⟨w.heap.size,0,none⟩) 1 1) (w.alloc (.cells v.cells e)):=by
 obtain ⟨i,z,hi,hz,hsz,hby,hzs⟩:=E.hi
 have hp:=E.pos
 have hl:¬ 16777216<size:=by omega
 have hf:Instr.fill (fun i=>some (i * size,size)) ((Array.range size).map (z.cells[· % z.cells.size]!)) [(0,v)]=some v.cells:=by
  rw [vG _ _ _ _ _ 0 size (by simp) hv (by simp)]
  rw [Js _ _ (by simp [hv])]
  rfl
 simp only [Instr.buildSlice,IP,run_underlying E.ht,JK,sizeOf,typeInfo,zeroValue]
 simp [hi,hz,hsz,hl,newRow]
 rw [Ah (by omega)]
 simp [hf]
theorem Cr {ops:Array Oper} {rest:List Oper} {o:Oper} {a:Act} {w:World} {Q:Exit→Act→World→Prop} (hgd:o.guard=none) {t e:TypeId} {size bytes:Nat} (E:BC P t e size bytes) (x:Operand) (ho:o.op=.buildSlice t 1 #[(0,x)])
 (cs:Array Value) (hx:a.eval x=.agg cs) (hv:cs.size=size) (hs:size≤1000)
 (h:wpList P ops Q rest (a.put o.dst (.slice (some ⟨w.heap.size,0,none⟩) 1 1)) (w.alloc (.cells cs e))):wpList P ops Q (o::rest) a w:=by
 refine MO hgd fun K hK=>?_
 unfold Oper.wp execOp
 have hr:=JY E (.agg cs) hv hs w
 simp only [ho,PI,DI,EF,hx,IP,hr,JK,JJ]
 exact hK _ _ h
end
section
variable {P : Program}
theorem ND {op:BinOp} {t:TypeId} {x y:Operand} {xs ys:Array Value} {w:World} (hg:P.eqGuardType P.depth t=false):(eqGuard op t x y (.agg xs) (.agg ys)).run P w=.ok () w:=by
 unfold eqGuard
 cases op<;>simp [hg]
theorem IU {ops:Array Oper} {rest:List Oper} {op:Oper} {a:Act} {w:World} {Q:Exit→Act→World→Prop} (hw:Region.wanted op (yielded ops a.tmps)=true) (bo:BinOp) (t t2:TypeId) (x y:Operand) (ho:op.op=.binOp bo t x y t2)
 {xs ys:Array Value} (hx:a.eval x=.agg xs) (hy:a.eval y=.agg ys) (hg:P.eqGuardType P.depth t=false) {b:Bool} (hrun:(binOp bo t (.agg xs) (.agg ys)).run P w=.ok (.bool b) w)
 (h:wpList P ops Q rest (a.put op.dst (.bool b)) w):wpList P ops Q (op::rest) a w:=by
 refine wpList_step fun K hK=>?_
 rw [Ak hw]
 unfold Oper.wp execOp
 simp only [ho,hx,hy,IP,ND hg,JK,hrun,JJ]
 exact hK _ _ h
end
section
variable {P : Program} {ops : Array Oper} {md : Region.Mode} {C : World → Prop}
theorem Tz {w:World} {Q:Act→Prop} {a:Act} {o:Oper} {rest:List Oper} (hw:Region.wanted o (yielded ops a.tmps)=true) (v:Value) (hr:∀ u:Over w,(execOp a.eval o).run P u.wd=.ok (.value v) u.wd)
 (h:wpQuiet P ops (fun w'=>∃ u:Over w,w'=u.wd) Q rest (a.put o.dst v)):wpQuiet P ops (fun w'=>∃ u:Over w,w'=u.wd) Q (o::rest) a:=by
 refine wpQuiet_step fun K hK=>?_
 rw [Ak hw]
 refine ⟨v,fun w' hw'=>?_,hK _ h⟩
 obtain ⟨u,rfl⟩:=hw'
 unfold Oper.quietAt
 rw [hr u]
 exact ⟨rfl,rfl⟩
theorem Rp {w:World} {b o:Nat} {cs:List Value} (hb:b<w.heap.size) (h:w.rangeAt b o cs) (u:Over w):u.wd.rangeAt b o cs:=fun j v hv=>(u.Au.cell (p:=⟨b,o+j,none⟩) hb).trans (h j v hv)
theorem Ee {w w':World} {b o:Nat} {cs:List Value} (hb:b<w.heap.size) (h:w.rangeAt b o cs) (hB:Aj w w'):w'.rangeAt b o cs:=Rp hb h ⟨w',hB⟩
theorem Af {w:World} {Q:Act→Prop} {a:Act} {op:Oper} {rest:List Oper} (hw:Region.wanted op (yielded ops a.tmps)=true) {ty:TypeId} {n:Nat} (R:DV P ty n) (x:Operand) (ho:op.op=.load ty x)
 (b o:Nat) (hx:a.eval x=.pointer (some ⟨b,o,none⟩)) (cs:Array Value) (hn:cs.size=n) (hb:b<w.heap.size) (hc:w.rangeAt b o cs.toList)
 (h:wpQuiet P ops (fun w'=>∃ u:Over w,w'=u.wd) Q rest (a.put op.dst (.agg cs))):wpQuiet P ops (fun w'=>∃ u:Over w,w'=u.wd) Q (op::rest) a:=by
 refine Tz hw (.agg cs) (fun u=>?_) h
 obtain ⟨d,hu,hd⟩:=R.hu
 have hl:=iJ (P:=P) u.wd b o ty cs.toList d (Rp hb hc u) hu hd (by rw [R.hi];simp [hn])
 unfold execOp
 simp only [ho,hx,Instr.loadAt,Instr.sureAddr,IP,JJ,JK,hl]
theorem FX {w:World} {Q:Act→Prop} {a:Act} {op:Oper} {rest:List Oper} (hw:Region.wanted op (yielded ops a.tmps)=true) (bo:BinOp) (t t2:TypeId) (x y:Operand) (ho:op.op=.binOp bo t x y t2)
 {xs ys:Array Value} (hx:a.eval x=.agg xs) (hy:a.eval y=.agg ys) (hg:P.eqGuardType P.depth t=false) {b:Bool} (hrun:∀ w,(binOp bo t (.agg xs) (.agg ys)).run P w=.ok (.bool b) w)
 (h:wpQuiet P ops (fun w'=>∃ u:Over w,w'=u.wd) Q rest (a.put op.dst (.bool b))):wpQuiet P ops (fun w'=>∃ u:Over w,w'=u.wd) Q (op::rest) a:=by
 refine Tz hw (.bool b) (fun u=>?_) h
 unfold execOp
 simp only [ho,hx,hy,IP,ND hg,JK,hrun,JJ]
end
end Go.Proofs.YtijplolmkcdflaaGreat
namespace Go.Proofs.YtijplolmkcdflaaGreat
open Tryz
theorem BX {P:Program} {ops:Array Oper} {Q:Exit→Act→World→Prop} {md:Region.Mode} {S:World→Prop} {l:Array Bool} {a:Act} {w:World} {f:Nat} (h:Q .normal a w) (h1:Region.ready md ops l=[]:=by kernel_rfl):wpAnyH P md ops Q S f l a w:=wpAnyH_done h1 h f
theorem Cx {P:Program} {ops:Array Oper} {l:List Oper} {o:Oper} {a:Act} {w:World} {Q:Exit→Act→World→Prop} {ty:TypeId} {n:Nat} (R:DV P ty n) {g:Nat} {t:TypeId} {cs:Array Value} (hb:Br w g t cs) (h:wpList P ops Q l (a.put o.dst (.agg cs)) w) {x:Operand} (h1:o.guard=none:=by rfl) (h2:o.op=.load ty x:=by rfl) (h3:a.eval x=.pointer (some ⟨g,0,none⟩):=by rfl) (h4:cs.size=n:=by rfl):wpList P ops Q (o::l) a w:=Er h1 R x h2 g h3 hb h4 h
theorem Fu {P:Program} {ops:Array Oper} {l:List Oper} {o:Oper} {a:Act} {w:World} {Q:Exit→Act→World→Prop} {ty:TypeId} {n:Nat} (R:DV P ty n) {t:TypeId} {cs:Array Value} (cs':Array Value) (k:cs'.all (·.oneCell')=true) (h:wpList P ops Q l (a.put o.dst undef) (w.alloc (.cells cs' t))) {x y:Operand} (h1:o.guard=none:=by rfl) (h2:o.op=.store ty x y:=by rfl) (h3:a.eval x=.pointer (some ⟨w.heap.size,0,none⟩):=by rfl) (h4:cs.size=n:=by rfl) (h5:cs'.size=n:=by rfl) (h6:a.eval y=.agg cs':=by rfl):wpList P ops Q (o::l) a (w.alloc (.cells cs t)):=Sy h1 R x y h2 h3 h4 cs' h5 h6 k h
theorem NG {α:Type} {x0:α} {l:List α}:(List.toArray (x0::l))[0]?=some x0:=rfl
theorem KG {α:Type} {x0 x1:α} {l:List α}:(List.toArray (x0::x1::l))[1]?=some x1:=rfl
theorem NW {α:Type} {x0 x1 x2:α} {l:List α}:(List.toArray (x0::x1::x2::l))[2]?=some x2:=rfl
theorem KF {α:Type} {x0 x1 x2 x3:α} {l:List α}:(List.toArray (x0::x1::x2::x3::l))[3]?=some x3:=rfl
theorem Mr {α:Type} {x0 x1 x2 x3 x4:α} {l:List α}:(List.toArray (x0::x1::x2::x3::x4::l))[4]?=some x4:=rfl
theorem Lv {α:Type} {x0 x1 x2 x3 x4 x5:α} {l:List α}:(List.toArray (x0::x1::x2::x3::x4::x5::l))[5]?=some x5:=rfl
theorem Mq {α:Type} {x0 x1 x2 x3 x4 x5 x6:α} {l:List α}:(List.toArray (x0::x1::x2::x3::x4::x5::x6::l))[6]?=some x6:=rfl
theorem LX {α:Type} {x0 x1 x2 x3 x4 x5 x6 x7:α} {l:List α}:(List.toArray (x0::x1::x2::x3::x4::x5::x6::x7::l))[7]?=some x7:=rfl
theorem Px {α:Type} {x0 x1 x2 x3 x4 x5 x6 x7 x8:α} {l:List α}:(List.toArray (x0::x1::x2::x3::x4::x5::x6::x7::x8::l))[8]?=some x8:=rfl
theorem Qb {α:Type} {x0 x1 x2 x3 x4 x5 x6 x7 x8 x9:α} {l:List α}:(List.toArray (x0::x1::x2::x3::x4::x5::x6::x7::x8::x9::l))[9]?=some x9:=rfl
theorem Jj {α:Type} {x0 x1 x2 x3 x4 x5 x6 x7 x8 x9 LY:α} {l:List α}:(List.toArray (x0::x1::x2::x3::x4::x5::x6::x7::x8::x9::LY::l))[10]?=some LY:=rfl
theorem IL {α:Type} {x0 x1 x2 x3 x4 x5 x6 x7 x8 x9 LY ML:α} {l:List α}:(List.toArray (x0::x1::x2::x3::x4::x5::x6::x7::x8::x9::LY::ML::l))[11]?=some ML:=rfl
theorem Ji {α:Type} {x0 x1 x2 x3 x4 x5 x6 x7 x8 x9 LY ML NC:α} {l:List α}:(List.toArray (x0::x1::x2::x3::x4::x5::x6::x7::x8::x9::LY::ML::NC::l))[12]?=some NC:=rfl
theorem KZ {α:Type} {x0 x1 x2 x3 x4 x5 x6 x7 x8 x9 LY ML NC NT:α} {l:List α}:(List.toArray (x0::x1::x2::x3::x4::x5::x6::x7::x8::x9::LY::ML::NC::NT::l))[13]?=some NT:=rfl
theorem Ms {α:Type} {x0 x1 x2 x3 x4 x5 x6 x7 x8 x9 LY ML NC NT OI:α} {l:List α}:(List.toArray (x0::x1::x2::x3::x4::x5::x6::x7::x8::x9::LY::ML::NC::NT::OI::l))[14]?=some OI:=rfl
theorem R9 {α:Type} {x0 x1 x2 x3 x4 x5 x6 x7 x8 x9 LY ML NC NT OI PO:α} {l:List α}:(List.toArray (x0::x1::x2::x3::x4::x5::x6::x7::x8::x9::LY::ML::NC::NT::OI::PO::l))[15]?=some PO:=rfl
theorem gq16 {α:Type} {x0 x1 x2 x3 x4 x5 x6 x7 x8 x9 LY ML NC NT OI PO QV:α} {l:List α}:(List.toArray (x0::x1::x2::x3::x4::x5::x6::x7::x8::x9::LY::ML::NC::NT::OI::PO::QV::l))[16]?=some QV:=rfl
theorem gq17 {α:Type} {x0 x1 x2 x3 x4 x5 x6 x7 x8 x9 LY ML NC NT OI PO QV Sk:α} {l:List α}:(List.toArray (x0::x1::x2::x3::x4::x5::x6::x7::x8::x9::LY::ML::NC::NT::OI::PO::QV::Sk::l))[17]?=some Sk:=rfl
theorem gq18 {α:Type} {x0 x1 x2 x3 x4 x5 x6 x7 x8 x9 LY ML NC NT OI PO QV Sk Ty:α} {l:List α}:(List.toArray (x0::x1::x2::x3::x4::x5::x6::x7::x8::x9::LY::ML::NC::NT::OI::PO::QV::Sk::Ty::l))[18]?=some Ty:=rfl
theorem gq19 {α:Type} {x0 x1 x2 x3 x4 x5 x6 x7 x8 x9 LY ML NC NT OI PO QV Sk Ty Ut:α} {l:List α}:(List.toArray (x0::x1::x2::x3::x4::x5::x6::x7::x8::x9::LY::ML::NC::NT::OI::PO::QV::Sk::Ty::Ut::l))[19]?=some Ut:=rfl
theorem gq20 {α:Type} {x0 x1 x2 x3 x4 x5 x6 x7 x8 x9 LY ML NC NT OI PO QV Sk Ty Ut x20:α} {l:List α}:(List.toArray (x0::x1::x2::x3::x4::x5::x6::x7::x8::x9::LY::ML::NC::NT::OI::PO::QV::Sk::Ty::Ut::x20::l))[20]?=some x20:=rfl
theorem gq21 {α:Type} {x0 x1 x2 x3 x4 x5 x6 x7 x8 x9 LY ML NC NT OI PO QV Sk Ty Ut x20 XE:α} {l:List α}:(List.toArray (x0::x1::x2::x3::x4::x5::x6::x7::x8::x9::LY::ML::NC::NT::OI::PO::QV::Sk::Ty::Ut::x20::XE::l))[21]?=some XE:=rfl
theorem gq22 {α:Type} {x0 x1 x2 x3 x4 x5 x6 x7 x8 x9 LY ML NC NT OI PO QV Sk Ty Ut x20 XE aA:α} {l:List α}:(List.toArray (x0::x1::x2::x3::x4::x5::x6::x7::x8::x9::LY::ML::NC::NT::OI::PO::QV::Sk::Ty::Ut::x20::XE::aA::l))[22]?=some aA:=rfl
theorem gq23 {α:Type} {x0 x1 x2 x3 x4 x5 x6 x7 x8 x9 LY ML NC NT OI PO QV Sk Ty Ut x20 XE aA iD:α} {l:List α}:(List.toArray (x0::x1::x2::x3::x4::x5::x6::x7::x8::x9::LY::ML::NC::NT::OI::PO::QV::Sk::Ty::Ut::x20::XE::aA::iD::l))[23]?=some iD:=rfl
theorem gq24 {α:Type} {x0 x1 x2 x3 x4 x5 x6 x7 x8 x9 LY ML NC NT OI PO QV Sk Ty Ut x20 XE aA iD x24:α} {l:List α}:(List.toArray (x0::x1::x2::x3::x4::x5::x6::x7::x8::x9::LY::ML::NC::NT::OI::PO::QV::Sk::Ty::Ut::x20::XE::aA::iD::x24::l))[24]?=some x24:=rfl
theorem gq25 {α:Type} {x0 x1 x2 x3 x4 x5 x6 x7 x8 x9 LY ML NC NT OI PO QV Sk Ty Ut x20 XE aA iD x24 x25:α} {l:List α}:(List.toArray (x0::x1::x2::x3::x4::x5::x6::x7::x8::x9::LY::ML::NC::NT::OI::PO::QV::Sk::Ty::Ut::x20::XE::aA::iD::x24::x25::l))[25]?=some x25:=rfl
theorem gq26 {α:Type} {x0 x1 x2 x3 x4 x5 x6 x7 x8 x9 LY ML NC NT OI PO QV Sk Ty Ut x20 XE aA iD x24 x25 J4:α} {l:List α}:(List.toArray (x0::x1::x2::x3::x4::x5::x6::x7::x8::x9::LY::ML::NC::NT::OI::PO::QV::Sk::Ty::Ut::x20::XE::aA::iD::x24::x25::J4::l))[26]?=some J4:=rfl
theorem gq27 {α:Type} {x0 x1 x2 x3 x4 x5 x6 x7 x8 x9 LY ML NC NT OI PO QV Sk Ty Ut x20 XE aA iD x24 x25 J4 x27:α} {l:List α}:(List.toArray (x0::x1::x2::x3::x4::x5::x6::x7::x8::x9::LY::ML::NC::NT::OI::PO::QV::Sk::Ty::Ut::x20::XE::aA::iD::x24::x25::J4::x27::l))[27]?=some x27:=rfl
theorem gq28 {α:Type} {x0 x1 x2 x3 x4 x5 x6 x7 x8 x9 LY ML NC NT OI PO QV Sk Ty Ut x20 XE aA iD x24 x25 J4 x27 x28:α} {l:List α}:(List.toArray (x0::x1::x2::x3::x4::x5::x6::x7::x8::x9::LY::ML::NC::NT::OI::PO::QV::Sk::Ty::Ut::x20::XE::aA::iD::x24::x25::J4::x27::x28::l))[28]?=some x28:=rfl
theorem gq29 {α:Type} {x0 x1 x2 x3 x4 x5 x6 x7 x8 x9 LY ML NC NT OI PO QV Sk Ty Ut x20 XE aA iD x24 x25 J4 x27 x28 x29:α} {l:List α}:(List.toArray (x0::x1::x2::x3::x4::x5::x6::x7::x8::x9::LY::ML::NC::NT::OI::PO::QV::Sk::Ty::Ut::x20::XE::aA::iD::x24::x25::J4::x27::x28::x29::l))[29]?=some x29:=rfl
theorem gq30 {α:Type} {x0 x1 x2 x3 x4 x5 x6 x7 x8 x9 LY ML NC NT OI PO QV Sk Ty Ut x20 XE aA iD x24 x25 J4 x27 x28 x29 x30:α} {l:List α}:(List.toArray (x0::x1::x2::x3::x4::x5::x6::x7::x8::x9::LY::ML::NC::NT::OI::PO::QV::Sk::Ty::Ut::x20::XE::aA::iD::x24::x25::J4::x27::x28::x29::x30::l))[30]?=some x30:=rfl
theorem tkk {P:Program} {ops:Array Oper} {Q:Exit→Act→World→Prop} {md:Region.Mode} {S:World→Prop} {i:Nat} {o:Oper} {v:Value} {f:Nat} {l:Array Bool} {a:Act} {w:World} (hi:ops[i]?=some o) (h:wpAnyH P md ops Q S f (l.setIfInBounds i true) (a.put o.dst v) w) (h1:Region.noSelect ops=true:=by kernel_rfl) (h2:Region.free md ops l i=true:=by kernel_rfl) (h3:(Region.ready md ops l).contains i=true:=by kernel_rfl) (h4:∀ (c:List PanicEntry) (a:Act) (w:World),Q (.panic c) (a.put o.dst v) w→Q (.panic c) a w:=by exact fun _ _ _ h=>h) (h5:YieldsIf P ops S o v a:=by
 refine .inl ⟨by rfl,?_⟩
 (intro w hSw;(try dsimp only at hSw);go_simp)<;>with_reducible rfl) (h6:S w:=by assumption):wpAnyH P md ops Q S (f+1) l a w:=wpAnyH_take hi h1 h2 h3 h4 h5 h6 h
theorem BJ {P:Program} {ops:Array Oper} {Q:Exit→Act→World→Prop} {md:Region.Mode} {S:World→Prop} {i:Nat} {o:Oper} {v:Value} {f:Nat} {l l':Array Bool} {a a':Act} {w:World} (hi:ops[i]?=some o) (h:wpAnyH P md ops Q S f l' a' w) (h1:Region.noSelect ops=true:=by kernel_rfl) (h2:Region.free md ops l i=true:=by kernel_rfl) (h3:(Region.ready md ops l).contains i=true:=by kernel_rfl) (h4:∀ (c:List PanicEntry) (a:Act) (w:World),Q (.panic c) (a.put o.dst v) w→Q (.panic c) a w:=by exact fun _ _ _ h=>h) (h5:YieldsIf P ops S o v a:=by
 refine .inl ⟨by rfl,?_⟩
 (intro w hSw;(try dsimp only at hSw);go_simp)<;>with_reducible rfl) (h6:S w:=by assumption) (e1:l.setIfInBounds i true=l':=by first|(simp only [LP]<;>rfl)|rfl) (e2:a.put o.dst v=a':=by first|(simp only [Act.put,LP]<;>rfl)|rfl):wpAnyH P md ops Q S (f+1) l a w:=by
 subst e1 e2
 exact wpAnyH_take hi h1 h2 h3 h4 h5 h6 h
theorem Ai {P:Program} {ops:Array Oper} {Q:Exit→Act→World→Prop} {md:Region.Mode} {S:World→Prop} {f:Nat} {l l':Array Bool} {a a':Act} {w:World} {K:Act→World→Prop} (h:Shut (∀ (a:Act) (w:World),S w→(S w→wpAnyH P md ops Q S f l a w)→K a w)) (hs:S w) (k:S w→wpAnyH P md ops Q S f l' a' w) (e1:l=l':=by first|(simp only [LP]<;>rfl)|rfl) (e2:a=a':=by first|(simp only [Act.put,LP]<;>rfl)|rfl):K a w:=by
 subst e1 e2
 exact h.out _ _ hs k
theorem BD {P:Program} {ops:Array Oper} {Q:Exit→Act→World→Prop} {md:Region.Mode} {S:World→Prop} {i:Nat} {o:Oper} {f:Nat} {l:Array Bool} {a:Act} {w:World} (hi:ops[i]?=some o) (h:∀ K:Act→World→Prop,Shut (∀ (a:Act) (w:World),S w→(S w→wpAnyH P md ops Q S f (l.setIfInBounds i true) a w)→K a w)→if Region.wanted o (yielded ops a.tmps)=true then Oper.wp P o a w K Q else K (a.put o.dst undef) w) (h1:Region.ready md ops l=[i]:=by kernel_rfl):wpAnyH P md ops Q S (f+1) l a w:=wpAnyH_ready h1 (by simp) (AllReadyH.cons hi h AllReadyH.nil)
theorem NV {P:Program} {ops:Array Oper} {Q:Exit→Act→World→Prop} {md:Region.Mode} {S:World→Prop} {i j:Nat} {o u:Oper} {f:Nat} {l:Array Bool} {a:Act} {w:World} (hi:ops[i]?=some o) (hj:ops[j]?=some u) (h:∀ K:Act→World→Prop,Shut (∀ (a:Act) (w:World),S w→(S w→wpAnyH P md ops Q S f (l.setIfInBounds i true) a w)→K a w)→if Region.wanted o (yielded ops a.tmps)=true then Oper.wp P o a w K Q else K (a.put o.dst undef) w) (k:∀ K:Act→World→Prop,Shut (∀ (a:Act) (w:World),S w→(S w→wpAnyH P md ops Q S f (l.setIfInBounds j true) a w)→K a w)→if Region.wanted u (yielded ops a.tmps)=true then Oper.wp P u a w K Q else K (a.put u.dst undef) w) (h1:Region.ready md ops l=[i,j]:=by kernel_rfl):wpAnyH P md ops Q S (f+1) l a w:=wpAnyH_ready h1 (by simp) (AllReadyH.cons hi h (AllReadyH.cons hj k AllReadyH.nil))
theorem get_o0 {α:Type} {x:α} {l:List α}:(List.toArray (x::l))[0]?=some x:=rfl
theorem get_os {α:Type} {x y:α} {l:List α} {i:Nat} (h:l.toArray[i]?=some x):(List.toArray (y::l))[i+1]?=some x:=by simpa using h
theorem get_ot {α:Type} {x y0 y1 y2 y3 y4 y5 y6 y7 y8 y9:α} {l:List α} {i:Nat} (h:l.toArray[i]?=some x):(List.toArray (y0::y1::y2::y3::y4::y5::y6::y7::y8::y9::l))[i+10]?=some x:=by simpa using h
end Go.Proofs.YtijplolmkcdflaaGreat
namespace Go.Proofs.YtijplolmkcdflaaGreat
open Tryz
open Go.RowKit
structure nS (d0 d1:Nat) (w w':World):Prop where
 os:w'.os=w.os
 tape:w'.tape=w.tape
 output:w'.output=w.output
 size:w.heap.size≤w'.heap.size
 block:∀ g,g<w.heap.size→g≠d0→g≠d1→w'.heap[g]?=w.heap[g]?
theorem nS.Au {d0 d1:Nat} {a w w':World} (h:nS d0 d1 w w') (ha:Aj a w) (h0:a.heap.size≤d0) (h1:a.heap.size≤d1):Aj a w':=
 ⟨h.os.trans ha.os,h.tape.trans ha.tape,h.output.trans ha.output,Gm ha.size h.size,fun k hk=>(h.block k (Kk hk ha.size) (by omega) (by omega)).trans (ha.block k hk)⟩
theorem nS.Mg {d0 d1:Nat} {w w1 w2:World} (h1:w.grownBy w1 (some d0)) (h2:w1.grownBy w2 (some d1)):nS d0 d1 w w2:=
 ⟨h2.os.trans h1.os,h2.tape.trans h1.tape,h2.output.trans h1.output,Gm h1.size h2.size,fun g hg n0 n1=>(h2.block g (Kk hg h1.size) (by simpa using n1)).trans (h1.block g hg (by simpa using n0))⟩
theorem nS.swap {d0 d1:Nat} {w w':World} (h:nS d0 d1 w w'):nS d1 d0 w w':=⟨h.os,h.tape,h.output,h.size,fun g hg n0 n1=>h.block g hg n1 n0⟩
section
variable {P : Program}
end
section
variable {P : Program}
theorem Bd {ops:Array Oper} {rest:List Oper} {op:Oper} {a:Act} {w:World} {Q:Exit→Act→World→Prop} (hgd:op.guard=none) {ty:TypeId} {n:Nat} (R:DV P ty n) (x y:Operand) (ho:op.op=.store ty x y)
 (g o:Nat) (hx:a.eval x=.pointer (some ⟨g,o,none⟩)) {t:TypeId} {cs:Array Value} (hb:Br w g t cs) (cs':Array Value) (hn':cs'.size=n) (hfit:o+n≤cs.size) (hy:a.eval y=.agg cs') (h1:cs'.all (·.oneCell')=true)
 (h:∀ w',Br w' g t (Dp cs o cs'.toList)→w.grownBy w' (some g)→wpList P ops Q rest (a.put op.dst undef) w'):wpList P ops Q (op::rest) a w:=by
 refine UI hgd ty x y ho g o cs' hx hy (fun j hj=>?_) (by rw [R.hi,hn']) h1 (h _ (Br.Dp cs'.toList o hb) (Db w g _ _))
 rw [hb.cell,hb.frozen]
 exact ⟨by rw [UY (by omega)];rfl,rfl⟩
end
theorem Aq {P:Program} {fn:Func} {p:Tmp} {ty:TypeId} {n:Nat} (h:fn.results=#[.cell p ty]) (R:DV P ty n) {tmps:Array Value} {w:World} {g:Nat} {t:TypeId} {cs:Array Value}
 (hp:tmps.getD p undef=.pointer (some ⟨g,0,none⟩)) (hb:Br w g t cs) (hn:cs.size=n):
 (results fn tmps).run P w=.ok (.agg cs) w:=by
 obtain ⟨d,hu,hd⟩:=R.hu
 have hp':tmps[p]?.getD undef=.pointer (some ⟨g,0,none⟩):=by simpa using hp
 have hl:=iJ (P:=P) w g 0 ty cs.toList d hb.range hu hd (by rw [R.hi];simp [hn])
 simp [results,h,hp',asAddr,hl]
section
variable {P : Program} {w : World}
theorem Bc {ops:Array Oper} {o:Oper} {a:Act} {K:Act→World→Prop} {Q:Exit→Act→World→Prop} {X:Prop} (hgd:o.guard=none) {t e:TypeId} {size bytes:Nat} (E:BC P t e size bytes) (x:Operand) (ho:o.op=.buildSlice t 1 #[(0,x)])
 (cs:Array Value) (hx:a.eval x=.agg cs) (hv:cs.size=size) (hs:size≤1000)
 (h:K (a.put o.dst (.slice (some ⟨w.heap.size,0,none⟩) 1 1)) (w.alloc (.cells cs e))):
 if Region.wanted o (yielded ops a.tmps)=true then Oper.wp P o a w K Q else X:=by
 have hw:Region.wanted o (yielded ops a.tmps)=true:=by simp [Region.wanted,hgd]
 rw [Ak hw]
 unfold Oper.wp execOp
 have hr:=JY E (.agg cs) hv hs w
 simp only [ho,PI,DI,EF,hx,IP,hr,JK,JJ]
 exact h
theorem Aw {ops:Array Oper} {o:Oper} {a:Act} {K:Act→World→Prop} {Q:Exit→Act→World→Prop} {X:Prop} (hgd:o.guard=none) (s x:Operand) (t:TypeId)
 (ho:o.op=.call { callee:=.builtin .append,args:=#[s,x],argTypes:=#[t,t] })
 {e:TypeId} {size bytes:Nat} (E:BC P t e size bytes) (base:Nat) (hB:base≤w.heap.size)
 (v:Value) (n:Nat) (xs:List Value) (hs:a.eval s=v) (hown:w.ownsRow base e size v n xs)
 (A:Option Addr) (m c:Nat) (news:List Value) (hx:a.eval x=.slice A m c) (hr:Rd w size A m news) (h1:∀ u ∈ news,u.oneCell'=true)
 (h63:n+m≤maxLen) (hbytes:(n+m) * bytes≤140737488355328)
 (h:∀ v' w',w'.ownsRow base e size v' (n+m) (xs++news)→w.grownBy w' v.ownBlock→(v'.ownBlock=v.ownBlock∨v'.ownBlock=some w.heap.size)→K (a.put o.dst v') w'):
 if Region.wanted o (yielded ops a.tmps)=true then Oper.wp P o a w K Q else X:=by
 have hw:Region.wanted o (yielded ops a.tmps)=true:=by simp [Region.wanted,hgd]
 rw [Ak hw]
 obtain ⟨i,z,hi,hz,hsz,hby,hzs⟩:=E.hi
 exact LM w s x t ho base e i z size bytes E.ht hi hz hsz hby hzs E.pos v n xs hs hown w.heap.size A m c news hx hr h1 h63 hbytes hB h
end
abbrev PR (α:Type):=Except Int (α × List UInt8)
def Lt (l:List UInt8):PR Nat:=if (Dw l).2.2 then .ok ((Dw l).1,l.drop (Dw l).2.1) else .error 3
def Et (most:Int) (l:List UInt8):PR Nat:=
 match Lt l with
 |.error k=>.error k
 |.ok (n,r)=>if most<0∨most<n then .error 5 else .ok (n,r)
def KX (l:List UInt8):PR Int:=
 match Lt l with
 |.error k=>.error k
 |.ok (n,r)=>.ok (GM n,r)
def Rv (n:Int) (l:List UInt8):PR (List UInt8):=if n<0∨(l.length:Int)<n then .error 3 else .ok (l.take n.toNat,l.drop n.toNat)
def Eg (most:Int) (l:List UInt8):PR (List UInt8):=
 match Et most l with
 |.error k=>.error k
 |.ok (n,r)=>Rv n r
def GH (k:Int):Int:=if k=0 then 3 else k
abbrev K3 (k:Int):List PanicEntry:=[{ v:=.iface 219 (.agg #[.int .i64 k]),recovered:=false }]
def Gb (w:World) (b:Nat) (s l:List UInt8):Prop:=
 s.length≤140737488351232∧∃ t:Nat,t≤s.length∧l=s.drop t∧Br w b 217 #[.string ⟨s.toArray⟩,.int .i64 t,.bool true]
theorem Gb.grown {w w':World} {b:Nat} {s l:List UInt8} {row:Option Nat} (h:Gb w b s l) (hg:w.grownBy w' row) (hne:some b≠row):Gb w' b s l:=by
 obtain ⟨h0,t,h1,h2,h3⟩:=h
 exact ⟨h0,t,h1,h2,h3.grown hg hne⟩
theorem Gb.Au {w w':World} {b:Nat} {s l:List UInt8} (h:Gb w b s l) (hb:Aj w w'):Gb w' b s l:=by
 obtain ⟨h0,t,h1,h2,h3⟩:=h
 exact ⟨h0,t,h1,h2,h3.Au hb⟩
theorem Gb.lt {w:World} {b:Nat} {s l:List UInt8} (h:Gb w b s l):b<w.heap.size:=by
 obtain ⟨_,t,_,_,h3⟩:=h
 exact h3.lt
theorem Gb.len {w:World} {b:Nat} {s l:List UInt8} (h:Gb w b s l):l.length≤140737488351232:=by
 obtain ⟨h0,t,h1,h2,h3⟩:=h
 subst h2
 simp
 omega
theorem grownBy_setCell (w:World) (b o:Nat) (v:Value):w.grownBy (w.setCell ⟨b,o,none⟩ v) (some b):=
 ⟨rfl,rfl,rfl,by simp,fun j _ hj=>UL _ _ _ j (fun e=>hj (by rw [e]))⟩
def ROk (b:Nat) (s l:List UInt8) (v:Value) (w:World) (e:Ending) (w':World):Prop:=e=.returned v∧w.grownBy w' (some b)∧Gb w' b s l
def Tj (b:Nat) (s:List UInt8) (k:Int) (w:World) (e:Ending) (w':World):Prop:=e=.panicked (K3 k)∧w.grownBy w' (some b)∧∃ l,Gb w' b s l
theorem Lc (v:Value) (k:Int) (w:World):Calls prog 140 #[v,.int .i64 k] w fun e w'=>e=.panicked (K3 k)∧w=w':=by
 go_enter func140,ntmps140
 go_wp2
 exact ⟨rfl,rfl,rfl⟩
theorem OU (b:Nat) (w:World) (hc:w.cell? ⟨b,2,none⟩=some (.bool true)):
 Calls prog 138 #[.pointer (some ⟨b,0,none⟩)] w fun e w'=>e=.returned (.bool true)∧w=w':=by
 go_enter func138,ntmps138
 go_wp2
 go_ret
 exact ⟨rfl,rfl⟩
theorem aR {l:List UInt8} {n z:Nat} {ok:Bool} (h:Dw l=(n,z,ok)) (w:World) (hl:l.length≤140737488351232):
 Calls prog 175 #[.string ⟨l.toArray⟩] w fun e w'=>e=.returned (.tuple #[.int .u64 (n:Nat),.int .i64 (z:Nat),.bool ok])∧Aj w w':=by
 have q:=xI l w hl
 rw [h] at q
 exact q
theorem VL (b:Nat) (s l:List UInt8) (w:World) (hR:Gb w b s l) (hn:(Dw l).2.2=false):
 Calls prog 139 #[.pointer (some ⟨b,0,none⟩)] w (Tj b s 3 w):=by
 have HN:=Aa (dM hn)
 have HR:=Aa hR
 obtain ⟨h0,t,h1,rfl,h3⟩:=hR
 have c0:=h3.cell 0
 have c1:=h3.cell 1
 simp only [LG] at c0 c1
 clear hn h3
 have k1:(0:Int)≤t:=by omega
 have k2:(t:Int)≤s.length:=by omega
 go_enter func139,ntmps139
 go_wp2_with fail
 have d0:=fun u:Over w=>Over.cell c0 u
 have d1:=fun u:Over w=>Over.cell c1 u
 clear c0 c1
 refine Al ?_
 repeat (go_big_quiet_step ((go_at_call 175;rw [Re];exact Be (aR HN _ (by simp;omega)))))
 refine CX ?_
 rintro _ ⟨u,rfl⟩
 clear d0 d1
 go_wp2_with fail
 refine (Lc _ _ _).mono ?_;rintro e w' ⟨rfl,rfl⟩
 go_wp2
 exact ⟨rfl,rfl,Di u.Au _,_,HR.Au u.Au⟩
theorem Yg (b:Nat) (s l:List UInt8) (n z:Nat) (w:World) (hR:Gb w b s l) (hn:Dw l=(n,z,true)) (hz:z≤l.length):
 Calls prog 139 #[.pointer (some ⟨b,0,none⟩)] w (ROk b s (l.drop z) (.int .u64 n) w):=by
 have HN:=Aa hn
 obtain ⟨h0,t,h1,rfl,h3⟩:=hR
 have c0:=h3.cell 0
 have c1:=h3.cell 1
 simp only [LG] at c0 c1
 have H3:=Aa h3
 clear hn h3
 have k1:(0:Int)≤t:=by omega
 have k2:(t:Int)≤s.length:=by omega
 rw [IA] at hz
 go_enter func139,ntmps139
 go_wp2_with fail
 have d0:=fun u:Over w=>Over.cell c0 u
 have d1:=fun u:Over w=>Over.cell c1 u
 clear c0 c1
 refine Al ?_
 repeat (go_big_quiet_step ((go_at_call 175;rw [Re];exact Be (aR HN _ (by simp;omega)))))
 refine CX ?_
 rintro _ ⟨⟨wd,hwd⟩,rfl⟩
 clear d0 d1
 have hB:=H3.Au hwd
 have c1:=hB.cell 1
 have f1:=hB.frozen 1
 simp only [LG] at c1
 have HB:=Aa hB
 have Hwd:=Aa hwd
 clear hB hwd
 go_wp2
 go_ret
 refine ⟨rfl,(Di Hwd _).trans (grownBy_setCell _ _ _ _),h0,t+z,by omega,by rw [Qj],?_⟩
 have:=HB.Gr 1 (.int .i64 ((t+z:Nat):Int))
 simpa using this
theorem Gb.c2 {w:World} {b:Nat} {s l:List UInt8} (h:Gb w b s l):w.cell? ⟨b,2,none⟩=some (.bool true):=by
 obtain ⟨_,t,_,_,h3⟩:=h
 exact h3.cell 2
theorem Tj.more {b:Nat} {s:List UInt8} {k:Int} {w w1:World} {e:Ending} {w':World} (hg:w.grownBy w1 (some b)) (h:Tj b s k w1 e w'):Tj b s k w e w':=
 ⟨h.1,hg.trans h.2.1,h.2.2⟩
theorem Tj.at {b:Nat} {s l:List UInt8} {k:Int} {w w1:World} (hg:w.grownBy w1 (some b)) (h:Gb w1 b s l):Tj b s k w (.panicked (K3 k)) w1:=⟨rfl,hg,l,h⟩
theorem Jt {most:Int} {l:List UInt8}:(Et most l=.error 3∧(Dw l).2.2=false)∨(∃ n z,Dw l=(n,z,true)∧z≤l.length∧n<18446744073709551616∧((Et most l=.error 5∧(most<0∨most<n))∨(Et most l=.ok (n,l.drop z)∧0≤most∧(n:Int)≤most))):=by
 have h1:=QG l
 have h2:=dL l
 unfold Et Lt
 rcases h:Dw l with ⟨n,z,ok⟩
 rw [h] at h1 h2
 cases ok with
 |false=>left;simp
 |true=>
  right
  refine ⟨n,z,rfl,h1.1,h2,?_⟩
  by_cases hm:most<0∨most<n
  ·left;simp [hm]
  ·right;simp [hm];omega
theorem LV {l:List UInt8}:(Lt l=.error 3∧(Dw l).2.2=false)∨(∃ n z,Dw l=(n,z,true)∧z≤l.length∧n<18446744073709551616∧Lt l=.ok (n,l.drop z)):=by
 have h1:=QG l
 have h2:=dL l
 unfold Lt
 rcases h:Dw l with ⟨n,z,ok⟩
 rw [h] at h1 h2
 cases ok with
 |false=>left;simp
 |true=>exact .inr ⟨n,z,rfl,h1.1,h2,by simp⟩
def pX {α:Type} (b:Nat) (s:List UInt8) (o:PR α) (V:α→Value) (w:World) (e:Ending) (w':World):Prop:=
 match o with
 |.error k=>Tj b s k w e w'
 |.ok (x,l)=>ROk b s l (V x) w e w'
theorem Gp (b:Nat) (s l:List UInt8) (most:Int) (w:World) (hR:Gb w b s l) (h0:-9223372036854775808≤most) (h1:most≤9223372036854775807):
 Calls prog 94 #[.pointer (some ⟨b,0,none⟩),.int .i64 most] w (pX b s (Et most l) (fun n=>.int .i64 (n:Nat)) w):=by
 have c2:=hR.c2
 have HR:=Aa hR
 clear hR
 go_enter func94,ntmps94
 go_wp2_with fail
 refine (OU b _ c2).mono ?_;rintro e w1 ⟨rfl,rfl⟩
 clear c2
 go_wp2_with fail
 rcases Jt (most:=most) (l:=l) with ⟨hp,hn⟩|⟨n,z,hn,hz,hlt,hp⟩
 ·refine (VL b s l _ HR hn).mono ?_;rintro e w1 hE
  obtain ⟨rfl,hg,hr⟩:=hE
  go_wp2
  refine ⟨rfl,?_⟩
  rw [hp]
  exact ⟨rfl,hg,hr⟩
 ·refine (Yg b s l n z _ HR hn hz).mono ?_;rintro e w1 ⟨rfl,hg,hr⟩
  have Hg:=Aa hg
  have Hr:=Aa hr
  have Hp:=Aa hp
  clear hg hr hp hn
  by_cases hm:most<0
  ·go_wp2_with fail
   refine (Lc _ _ _).mono ?_;rintro e w2 ⟨rfl,rfl⟩
   go_wp2
   refine ⟨rfl,?_⟩
   rcases Hp.Ab with ⟨hp,_⟩|⟨hp,hq,_⟩
   ·rw [hp];exact ⟨rfl,Hg.Ab,_,Hr.Ab⟩
   ·omega
  ·have hw:IntKind.u64.wrap most=most:=IntWalk.u64_in _ (by omega)
   by_cases hq:most<n
   ·go_wp2_with fail
    refine (Lc _ _ _).mono ?_;rintro e w2 ⟨rfl,rfl⟩
    go_wp2
    refine ⟨rfl,?_⟩
    rcases Hp.Ab with ⟨hp,_⟩|⟨hp,_,hq'⟩
    ·rw [hp];exact ⟨rfl,Hg.Ab,_,Hr.Ab⟩
    ·omega
   ·go_wp2_with fail
    go_ret
    rcases Hp.Ab with ⟨hp,hx⟩|⟨hp,hq'⟩
    ·omega
    ·rw [hp];exact ⟨rfl,Hg.Ab,Hr.Ab⟩
theorem kP {n:Nat} (h:n<18446744073709551616):-9223372036854775808≤GM n∧GM n≤9223372036854775807:=by
 unfold GM
 split<;>omega
theorem Q9 (b:Nat) (s l:List UInt8) (w:World) (hR:Gb w b s l):
 Calls prog 126 #[.pointer (some ⟨b,0,none⟩)] w (pX b s (KX l) (fun n=>.int .i64 n) w):=by
 have c2:=hR.c2
 have HR:=Aa hR
 clear hR
 go_enter func126,ntmps126
 go_wp2_with fail
 refine (OU b _ c2).mono ?_;rintro e w1 ⟨rfl,rfl⟩
 clear c2
 go_wp2_with fail
 rcases LV (l:=l) with ⟨hp,hn⟩|⟨n,z,hn,hz,hlt,hp⟩
 ·refine (VL b s l _ HR hn).mono ?_;rintro e w1 hE
  obtain ⟨rfl,hg,hr⟩:=hE
  go_wp2
  refine ⟨rfl,?_⟩
  unfold KX
  rw [hp]
  exact ⟨rfl,hg,hr⟩
 ·refine (Yg b s l n z _ HR hn hz).mono ?_;rintro e w1 ⟨rfl,hg,hr⟩
  have Hg:=Aa hg
  have Hr:=Aa hr
  have Hp:=Aa hp
  clear hg hr hp hn
  go_wp2_with fail
  refine (iR n _ (by omega) (by omega)).mono ?_;rintro e w2 ⟨rfl,rfl⟩
  rw [Da]
  go_wp2
  go_ret
  unfold KX
  rw [Hp.Ab]
  exact ⟨rfl,Hg.Ab,Hr.Ab⟩
theorem T9 (b:Nat) (s l:List UInt8) (n:Int) (w:World) (hR:Gb w b s l) (h0:-9223372036854775808≤n) (h1:n≤9223372036854775807):
 Calls prog 171 #[.pointer (some ⟨b,0,none⟩),.int .i64 n] w (pX b s (Rv n l) (fun x=>.string ⟨x.toArray⟩) w):=by
 have c2:=hR.c2
 have HR:=Aa hR
 obtain ⟨hs,t,ht,rfl,h3⟩:=hR
 have c0:=h3.cell 0
 have c1:=h3.cell 1
 have f1:=h3.frozen 1
 simp only [LG] at c0 c1
 have H3:=Aa h3
 clear h3
 go_enter func171,ntmps171
 go_wp2_with fail
 refine (OU b _ c2).mono ?_;rintro e w1 ⟨rfl,rfl⟩
 clear c2
 go_wp2_with fail
 by_cases hm:n<0
 ·have d:decide (n<0)=true:=by simp;omega
  go_quiet (fail)
  go_wp2_with fail
  refine (Lc _ _ _).mono ?_;rintro e w2 ⟨rfl,rfl⟩
  go_wp2
  refine ⟨rfl,?_⟩
  unfold Rv
  rw [Ak (.inl hm)]
  exact ⟨rfl,(Di ((Aj.refl w).drewN _) _),_,HR.Au ((Aj.refl w).drewN _)⟩
 ·obtain ⟨m,rfl⟩:=Rb (show 0≤n by omega)
  have d:decide ((m:Int)<0)=false:=by simp
  have wk:IntKind.i64.wrap ((s.length:Int) - t)=(s.length:Int) - t:=Kj _ (by omega)
  by_cases hq:s.length<t+m
  ·have d2:decide ((s.length:Int) - t<m)=true:=by simp;omega
   go_quiet (fail)
   go_wp2_with fail
   refine (Lc _ _ _).mono ?_;rintro e w2 ⟨rfl,rfl⟩
   go_wp2
   refine ⟨rfl,?_⟩
   unfold Rv
   rw [Ak (.inr (by rw [IA];omega))]
   exact ⟨rfl,(Di ((Aj.refl w).drewN _) _),_,HR.Au ((Aj.refl w).drewN _)⟩
  ·have d2:decide ((s.length:Int) - t<m)=false:=by simp;omega
   have wk2:IntKind.i64.wrap ((t:Int)+m)=(t:Int)+m:=Kj _ (by omega)
   have k0:(0:Int)≤t:=by omega
   have k1:(t:Int)≤(t:Int)+m:=by omega
   have k2:(t:Int)+m≤s.length:=by omega
   have k3:((t:Int)+m).toNat=t+m:=by omega
   go_quiet (fail)
   clear wk d d2
   go_wp2_with fail
   go_quiet (fail)
   clear wk2 k1 k2 k3
   have HB:Hid (∀ n,Br (w.drewN n) b 217 #[.string ⟨s.toArray⟩,.int .i64 t,.bool true]):=fun n=>H3.drewN n
   go_wp2
   go_ret
   have e1:Rv (m:Int) (s.drop t)=.ok ((s.drop t).take m,(s.drop t).drop m):=by
    unfold Rv
    rw [Ah (by rw [IA];omega),Da]
   rw [e1]
   have e2:(⟨s.toArray⟩:ByteArray).extract t (t+m)=⟨((s.drop t).take m).toArray⟩:=by rw [Og];simp
   rw [e2]
   refine ⟨rfl,(Di ((Aj.refl w).drewN _) _).trans (grownBy_setCell _ _ _ _),hs,t+m,by omega,by rw [Qj],?_⟩
   have hx:=fun n=>(HB n).Gr 1 (.int .i64 ((t+m:Nat):Int))
   simpa using hx _
theorem cZ {n k:Int} {l:List UInt8} (h:Rv n l=.error k):k=3∧(n<0∨(l.length:Int)<n):=by
 unfold Rv at h
 split at h
 ·injection h with h;exact ⟨h.symm,by omega⟩
 ·cases h
theorem KQ (b:Nat) (s l:List UInt8) (most:Int) (w:World) (hR:Gb w b s l) (h0:-9223372036854775808≤most) (h1:most≤9223372036854775807):
 Calls prog 133 #[.pointer (some ⟨b,0,none⟩),.int .i64 most] w (pX b s (Eg most l) (fun x=>.string ⟨x.toArray⟩) w):=by
 have H:=Aa (Gp b s l most w hR h0 h1)
 clear hR
 go_enter func133,ntmps133
 go_wp2_with fail
 rcases Jt (most:=most) (l:=l) with ⟨hp,hn⟩|⟨n,z,hn,hz,hlt,⟨hp,_⟩|⟨hp,hm1,hm2⟩⟩
 ·have Hq:Hid (Eg most l=.error 3):=by show _=_;unfold Eg;rw [hp]
  rw [hp] at H
  refine H.mono ?_;rintro e w1 ⟨rfl,hg,hr⟩
  clear hp
  go_wp2
  refine ⟨rfl,?_⟩
  rw [Hq.Ab]
  exact ⟨rfl,hg,hr⟩
 ·have Hq:Hid (Eg most l=.error 5):=by show _=_;unfold Eg;rw [hp]
  rw [hp] at H
  refine H.mono ?_;rintro e w1 ⟨rfl,hg,hr⟩
  clear hp
  go_wp2
  refine ⟨rfl,?_⟩
  rw [Hq.Ab]
  exact ⟨rfl,hg,hr⟩
 ·have Hq:Hid (Eg most l=Rv n (l.drop z)):=by show _=_;unfold Eg;rw [hp]
  rw [hp] at H
  refine H.mono ?_;rintro e w1 ⟨rfl,hg,hr⟩
  have Hg:=Aa hg
  have HF:=Aa (T9 b s _ (n:Int) w1 hr (by omega) (by omega))
  clear hg hr hp H hn
  go_wp2_with fail
  cases hf:Rv (n:Int) (l.drop z) with
  |error k=>
   have Hf:=Aa hf
   rw [hf] at HF
   refine HF.mono ?_;rintro e w2 ⟨rfl,hg,hr⟩
   clear hf
   go_wp2
   refine ⟨rfl,?_⟩
   rw [Hq.Ab,Hf.Ab]
   exact ⟨rfl,Hg.trans hg,hr⟩
  |ok p=>
   have Hf:=Aa hf
   rw [hf] at HF
   refine HF.mono ?_;rintro e w2 ⟨rfl,hg,hr⟩
   clear hf
   go_wp2
   go_ret
   rw [Hq.Ab,Hf.Ab]
   exact ⟨rfl,Hg.trans hg,hr⟩
theorem RI (b:Nat) (s l:List UInt8) (w:World) (hR:Gb w b s l):
 Calls prog 131 #[.pointer (some ⟨b,0,none⟩)] w fun e w'=>e=.returned (.int .i64 (l.length:Nat))∧Aj w w':=by
 have c2:=hR.c2
 obtain ⟨hs,t,ht,rfl,h3⟩:=hR
 have c0:=h3.cell 0
 have c1:=h3.cell 1
 simp only [LG] at c0 c1
 clear h3
 have wk:IntKind.i64.wrap ((s.length:Int) - t)=(s.length:Int) - t:=Kj _ (by omega)
 go_enter func131,ntmps131
 go_wp2_with fail
 refine (OU b _ c2).mono ?_;rintro e w1 ⟨rfl,rfl⟩
 clear c2
 go_wp2_with fail
 go_quiet (fail)
 go_wp2
 go_ret
 exact ⟨GJ (by rw [IA];omega),(Aj.refl w).drewN _⟩
theorem KP (b:Nat) (s l:List UInt8) (k:Int) (w:World) (hR:Gb w b s l):
 Calls prog 127 #[.pointer (some ⟨b,0,none⟩),.bool true,.int .i64 k] w fun e w'=>e=.returned (.tuple #[])∧w=w':=by
 have c2:=hR.c2
 clear hR
 go_enter func127,ntmps127
 go_wp2_with fail
 refine (OU b _ c2).mono ?_;rintro e w1 ⟨rfl,rfl⟩
 clear c2
 go_wp2
 go_end0
 exact ⟨rfl,rfl⟩
theorem Ip (b:Nat) (s l:List UInt8) (k:Int) (w:World) (hR:Gb w b s l):
 Calls prog 127 #[.pointer (some ⟨b,0,none⟩),.bool false,.int .i64 k] w fun e w'=>e=.panicked (K3 (GH k))∧w=w':=by
 have c2:=hR.c2
 clear hR
 go_enter func127,ntmps127
 go_wp2_with fail
 refine (OU b _ c2).mono ?_;rintro e w1 ⟨rfl,rfl⟩
 clear c2
 by_cases hk:k=0
 ·subst hk
  go_wp2_with fail
  refine (Lc _ _ _).mono ?_;rintro e w2 ⟨rfl,rfl⟩
  go_wp2
  exact ⟨rfl,rfl,rfl⟩
 ·have d:(k==0)=false:=by simpa using hk
  have HK:Hid (GH k=k):=by show _=_;unfold GH;rw [Ah hk]
  clear hk
  go_wp2_with fail
  refine (Lc _ _ _).mono ?_;rintro e w2 ⟨rfl,rfl⟩
  go_wp2
  exact ⟨rfl,by rw [HK.Ab],rfl⟩
theorem vV (rc b ec:Nat) (w:World) (x:Bool) (hr:w.cell? ⟨rc,0,none⟩=some (.pointer (some ⟨b,0,none⟩))) (h2:w.cell? ⟨b,2,none⟩=some (.bool x)) (hf:w.frozen? ⟨b,2,none⟩=false):
 CallsD prog 130 #[.pointer (some ⟨rc,0,none⟩),.pointer (some ⟨ec,0,none⟩)] .returning w fun e u' w'=>
  e=.returned (.tuple #[])∧u'=.returning∧w'=w.setCell ⟨b,2,none⟩ (.bool false):=by
 refine callsD_of_wpS func130 rfl fun c₀ cs hu=>?_
 simp only [ntmps130,PG,CZ,KM,Nat.reduceAdd,Nat.reduceSub,PK,PL,PE,PH,Fy,IQ]
 apply wpS_seq
 refine wpS_of_wp ?_
 go_wp2
 show Code.wpS _ _ _ _ _ _
 apply wpS_seq
 apply wpS_region
 simp [wpOpsS,go_sem,recoverD,hu,Exit.thenS]
 refine wpS_of_wp ?_
 go_wp2
 refine ⟨rfl,.returning,?_,.tuple #[],by kernel_rfl,rfl,rfl,rfl⟩
 cases c₀
 simp only at hu
 subst hu
 rfl
theorem gG (rc b ec:Nat) (w:World) (x:Bool) (k y:Int) (hr:w.cell? ⟨rc,0,none⟩=some (.pointer (some ⟨b,0,none⟩))) (h2:w.cell? ⟨b,2,none⟩=some (.bool x)) (hf:w.frozen? ⟨b,2,none⟩=false)
 (he:w.cell? ⟨ec,0,none⟩=some (.int .i64 y)) (hef:w.frozen? ⟨ec,0,none⟩=false) (hne:ec≠b):
 CallsD prog 130 #[.pointer (some ⟨rc,0,none⟩),.pointer (some ⟨ec,0,none⟩)] (.panicking (K3 k)) w fun e u' w'=>
  e=.returned (.tuple #[])∧u'=.panicking [{ v:=.iface 219 (.agg #[.int .i64 k]),recovered:=true }]∧w'=((w.setCell ⟨b,2,none⟩ (.bool false)).setCell ⟨ec,0,none⟩ (.int .i64 k)).alloc (.cells #[.int .i64 k] 219):=by
 refine callsD_of_wpS func130 rfl fun c₀ cs hu=>?_
 have hta:∀ w,(Instr.typeAssert (.iface 219 (.agg #[.int .i64 k])) 20 219 true).run prog w=.ok (.tuple #[.agg #[.int .i64 k],.bool true]) w:=fun _=>by kernel_rfl
 have hlt:ec<w.heap.size:=PN w _ he
 simp only [ntmps130,PG,CZ,KM,Nat.reduceAdd,Nat.reduceSub,PK,PL,PE,PH,Fy,IQ]
 apply wpS_seq
 refine wpS_of_wp ?_
 go_wp2
 show Code.wpS _ _ _ _ _ _
 apply wpS_seq
 apply wpS_region
 simp [wpOpsS,go_sem,recoverD,hu,Exit.thenS]
 refine wpS_of_wp ?_
 have e1:(w.setCell ⟨b,2,none⟩ (.bool false)).cell? ⟨ec,0,none⟩=some (.int .i64 y):=(YN _ _ _ _ (by simp)).trans he
 have e2:(w.setCell ⟨b,2,none⟩ (.bool false)).frozen? ⟨ec,0,none⟩=false:=by simpa using hef
 go_wp2
 exact ⟨rfl,_,rfl,.tuple #[],by kernel_rfl,rfl,rfl,rfl⟩
structure MK (B:Nat) (w w':World):Prop where
 os:w'.os=w.os
 tape:w'.tape=w.tape
 output:w'.output=w.output
 size:w.heap.size≤w'.heap.size
 block:∀ g,g<w.heap.size→g≠B→g≠B+1→w'.heap[g]?=w.heap[g]?
def LH (B:Nat) (s:List UInt8) (R:Int→World→Prop) (e:Ending) (w':World):Prop:=
 Br w' B 45 #[.int .i64 0]∧Br w' (B+2) 166 #[.pointer (some ⟨B+1,0,none⟩)]∧
  ((∃ k,e=.panicked (K3 k)∧(∃ l,Gb w' (B+1) s l)∧R k w')∨(∃ l,e=.returned (.tuple #[])∧Gb w' (B+1) s l∧R (if l=[] then 0 else 3) w'))
theorem MK.alloc {B:Nat} {w w':World} (h:MK B w w') (o:Obj):MK B w (w'.alloc o):=
 ⟨h.os,h.tape,h.output,by have:=h.size;simp;omega,fun g hg h1 h2=>(Below.heap_alloc w' o g (Kk hg h.size)).trans (h.block g hg h1 h2)⟩
theorem MK.Gr {B:Nat} {w w':World} (h:MK B w w') (g o:Nat) (hg:g=B∨g=B+1) (v:Value):MK B w (w'.setCell ⟨g,o,none⟩ v):=
 ⟨h.os,h.tape,h.output,by have:=h.size;simp;omega,fun g' hg' h1 h2=>(UL w' ⟨g,o,none⟩ v g' (by simp;omega)).trans (h.block g' hg' h1 h2)⟩
theorem MK.refl (B:Nat) (w:World):MK B w w:=⟨rfl,rfl,rfl,BZ _,fun _ _ _ _=>rfl⟩
theorem MK.trans {B:Nat} {a b c:World} (h:MK B a b) (k:MK B b c):MK B a c:=
 ⟨k.os.trans h.os,k.tape.trans h.tape,k.output.trans h.output,Gm h.size k.size,fun g hg h1 h2=>(k.block g (Kk hg h.size) h1 h2).trans (h.block g hg h1 h2)⟩
theorem MK.QF {B:Nat} {w w':World} (h:Aj w w'):MK B w w':=⟨h.os,h.tape,h.output,h.size,fun g hg _ _=>h.block g hg⟩
theorem zQ (b:Nat) (s:List UInt8) (w:World) (hR:Gb w b s []):
 Calls prog 131 #[.pointer (some ⟨b,0,none⟩)] w fun e w'=>e=.returned (.int .i64 0)∧Aj w w':=RI b s [] w hR
theorem vH (B:Nat) (tmps:Array Value) (R:Ending→World→Prop) (w:World) (x:Bool) (ht:tmps.getD 4 undef=.pointer (some ⟨B,0,none⟩))
 (hr:w.cell? ⟨B+2,0,none⟩=some (.pointer (some ⟨B+1,0,none⟩))) (h2:w.cell? ⟨B+1,2,none⟩=some (.bool x)) (hf:w.frozen? ⟨B+1,2,none⟩=false) (k:Int) (he:Br w B 45 #[.int .i64 k])
 (h:R (.returned (.int .i64 k)) (w.setCell ⟨B+1,2,none⟩ (.bool false))):
 Leaves prog Tryz.f88 tmps R [{ target:=.fn (.func 130) #[.pointer (some ⟨B+1+1,0,none⟩),.pointer (some ⟨B,0,none⟩)],args:=#[] }] .returning w:=by
 refine leaves_cons (f:=130) (args:=#[.pointer (some ⟨B+1+1,0,none⟩),.pointer (some ⟨B,0,none⟩)]) (by simp) (by simp [go_sem]) ?_
 refine (vV (B+1+1) (B+1) B w x hr h2 hf).mono ?_
 rintro e u' w'' ⟨rfl,rfl,rfl⟩
 refine ⟨.int .i64 k,?_,h⟩
 have b1:=(he.far (p:=⟨B+1,2,none⟩) (by simp) (.bool false)).cell 0
 generalize w.setCell ⟨B+1,2,none⟩ (.bool false)=W at *
 have ht':tmps[4]?.getD undef=.pointer (some ⟨B,0,none⟩):=by simpa using ht
 simp [results,Tryz.results88,go_sem,ht',b1]
theorem TV (B:Nat) (tmps:Array Value) (R:Ending→World→Prop) (w:World) (x:Bool) (y:Int) (ht:tmps.getD 4 undef=.pointer (some ⟨B,0,none⟩))
 (hr:w.cell? ⟨B+2,0,none⟩=some (.pointer (some ⟨B+1,0,none⟩))) (h2:w.cell? ⟨B+1,2,none⟩=some (.bool x)) (hf:w.frozen? ⟨B+1,2,none⟩=false) (k:Int) (he:Br w B 45 #[.int .i64 y])
 (h:∀ W,MK B w W→W.cell? ⟨B+1,2,none⟩=some (.bool false)→R (.returned (.int .i64 k)) W):
 Leaves prog Tryz.f88 tmps R [{ target:=.fn (.func 130) #[.pointer (some ⟨B+1+1,0,none⟩),.pointer (some ⟨B,0,none⟩)],args:=#[] }] (.panicking (K3 k)) w:=by
 refine leaves_cons (f:=130) (args:=#[.pointer (some ⟨B+1+1,0,none⟩),.pointer (some ⟨B,0,none⟩)]) (by simp) (by simp [go_sem]) ?_
 refine (gG (B+1+1) (B+1) B w x k y hr h2 hf (he.cell 0) (he.frozen 0) (by omega)).mono ?_
 rintro e u' w'' ⟨rfl,rfl,rfl⟩
 refine ⟨.int .i64 k,?_,h _ ((((MK.refl B w).Gr (B+1) 2 (.inr rfl) _).Gr B 0 (.inl rfl) _).alloc _) ?_⟩
 rotate_left
 ·rw [World.cell?_alloc_lt _ _ _ (by have:=PN _ _ h2;simp at this;simp;omega),YN _ _ _ _ (by simp),World.cell?_setCell_same _ _ _ h2]
 have b1:=(((he.far (p:=⟨B+1,2,none⟩) (by simp) (.bool false)).Gr 0 (.int .i64 k)).alloc (.cells #[.int .i64 k] 219)).cell 0
 generalize ((w.setCell ⟨B+1,2,none⟩ (.bool false)).setCell ⟨B,0,none⟩ (.int .i64 k)).alloc (.cells #[.int .i64 k] 219)=W at *
 simp at b1
 have ht':tmps[4]?.getD undef=.pointer (some ⟨B,0,none⟩):=by simpa using ht
 simp [results,Tryz.results88,go_sem,ht',b1]
def qH (B:Nat) (R:Int→World→Prop) (e:Ending) (w'':World):Prop:=∃ k w',e=.returned (.int .i64 k)∧R k w'∧MK B w' w''∧w''.cell? ⟨B+1,2,none⟩=some (.bool false)
theorem ZL (F:FuncId) (caps:Array Value) (s:List UInt8) (w:World) (hs:s.length≤140737488351232) (R:Int→World→Prop)
 (hcf:∀ args w,(callFunc F args).run prog w=.ok (.enter F args) w)
 (H:∀ w1,Aj w w1→w1.heap.size=w.heap.size+3→Gb w1 (w.heap.size+1) s s→Br w1 w.heap.size 45 #[.int .i64 0]→Br w1 (w.heap.size+2) 166 #[.pointer (some ⟨w.heap.size+1,0,none⟩)]→
  Calls prog F (#[.pointer (some ⟨w.heap.size+1,0,none⟩)]++caps) w1 (LH w.heap.size s R)):
 Calls prog 88 #[.string ⟨s.toArray⟩,.func (.func F) #[] caps] w (qH w.heap.size R):=by
 have hmf:∀ (fn:Fn) (first cap:Array Value) (w:World),(Instr.makeFunc fn first cap).run prog w=.ok (.func fn first cap) w:=fun _ _ _ _=>rfl
 have HH:=Aa H
 clear H
 go_enter_defers func88,ntmps88
 go_wp2_with fail
 have hB0:Aj w (((w.alloc (Obj.cells #[Value.int IntKind.i64 0] 45)).alloc (Obj.cells #[Value.string { data:=s.toArray },Value.int IntKind.i64 0,Value.bool true] 217)).alloc (Obj.cells #[Value.pointer (some { block:=w.heap.size+1,off:=0 })] 166)):=(((Aj.refl w).alloc _).alloc _).alloc _
 have hsz:(((w.alloc (Obj.cells #[Value.int IntKind.i64 0] 45)).alloc (Obj.cells #[Value.string { data:=s.toArray },Value.int IntKind.i64 0,Value.bool true] 217)).alloc (Obj.cells #[Value.pointer (some { block:=w.heap.size+1,off:=0 })] 166)).heap.size=w.heap.size+3:=by simp
 have b0:=((Br.new w 45 #[.int .i64 0]).alloc (Obj.cells #[Value.string { data:=s.toArray },Value.int IntKind.i64 0,Value.bool true] 217)).alloc (Obj.cells #[Value.pointer (some { block:=w.heap.size+1,off:=0 })] 166)
 have b1:=(Br.new (w.alloc (Obj.cells #[Value.int IntKind.i64 0] 45)) 217 #[Value.string { data:=s.toArray },Value.int IntKind.i64 0,Value.bool true]).alloc (Obj.cells #[Value.pointer (some { block:=w.heap.size+1,off:=0 })] 166)
 have b2:=Br.new ((w.alloc (Obj.cells #[Value.int IntKind.i64 0] 45)).alloc (Obj.cells #[Value.string { data:=s.toArray },Value.int IntKind.i64 0,Value.bool true] 217)) 166 #[Value.pointer (some { block:=w.heap.size+1,off:=0 })]
 rw [Kl,Kl] at b2
 rw [Kl] at b1
 have HC:=Aa (HH _ hB0 hsz ⟨hs,0,by omega,by simp,b1⟩ b0 b2)
 generalize ((w.alloc (Obj.cells #[Value.int IntKind.i64 0] 45)).alloc (Obj.cells #[Value.string { data:=s.toArray },Value.int IntKind.i64 0,Value.bool true] 217)).alloc (Obj.cells #[Value.pointer (some { block:=w.heap.size+1,off:=0 })] 166)=W at *
 clear hB0 hsz b0 b1 b2
 go_wp2_with fail
 refine HC.mono ?_
 rintro e w1 ⟨k0,k2,⟨k,rfl,⟨l,hR⟩,hK⟩|⟨l,rfl,hR,hK⟩⟩
 ·obtain ⟨_,t,_,_,k1⟩:=hR
  have r0:=k2.cell 0
  have r1:=k1.cell 2
  have r2:=k1.frozen 2
  have r3:=k0.cell 0
  have r4:=k0.frozen 0
  have K0:=Aa k0
  clear k0 k1 k2
  go_wp2
  exact TV w.heap.size _ _ w1 true 0 rfl r0 r1 r2 k K0 fun W hW hc=>⟨k,w1,rfl,hK,hW,hc⟩
 ·have q0:=k2.cell 0
  have Hk0:=Aa k0
  have Hk2:=Aa k2
  have HR:=Aa hR
  have HK:=Aa hK
  clear k0 k2 hR hK
  simp only [Ra,PM] at q0
  go_wp2_with fail
  cases l with
  |nil=>
   have d0:=fun u:Over w1=>Over.cell q0 u
   clear q0
   refine Al ?_
   repeat (go_big_quiet_step (first|(go_at_call 131;exact Be (zQ _ _ _ (HR.Au (Over.Au _))))|(go_at_call 127;exact NK (KP _ _ _ _ _ (HR.Au (Over.Au _))))))
   refine CX ?_
   rintro _ ⟨⟨wd,hwd⟩,rfl⟩
   clear d0
   have k0:=Hk0.Au hwd
   have k2:=(Hk2.Au hwd).cell 0
   obtain ⟨_,t,_,_,k1⟩:=HR.Au hwd
   have x0:=k0.cell 0
   have x1:=k0.frozen 0
   have y1:=k1.cell 2
   have y2:=k1.frozen 2
   have K0:=Aa k0
   have K1:=Aa k1
   have K2:=Aa k2
   have Hwd:=Aa hwd
   clear k0 k1 k2 hwd y1 y2
   go_wp2
   have k1':=K1.far (p:=⟨w.heap.size,0,none⟩) (by simp) (.int .i64 0)
   refine vH w.heap.size _ _ _ true rfl ?_ (k1'.cell 2) (k1'.frozen 2) 0 (by simpa using K0.Gr 0 (.int .i64 0)) ?_
   ·exact (YN _ _ _ _ (by simp)).trans K2.Ab
   ·exact ⟨0,w1,rfl,by simpa using HK.Ab,(((MK.QF Hwd.Ab).Gr _ 0 (.inl rfl) _).Gr _ 2 (.inr rfl) _),World.cell?_setCell_same _ _ _ (k1'.cell 2)⟩
  |cons c r=>
   have d:((r.length:Int)+1==0)=false:=by simp;omega
   have HE:Hid (∀ w2,Aj w1 w2→∀ tmps:Array Value,tmps.getD 4 undef=.pointer (some ⟨w.heap.size,0,none⟩)→bodyPostD prog Tryz.f88 (qH w.heap.size R) (Exit.panic (K3 (GH 3))) ⟨tmps,[{ target:=.fn (.func 130) #[.pointer (some ⟨w.heap.size+1+1,0,none⟩),.pointer (some ⟨w.heap.size,0,none⟩)],args:=#[] }]⟩ w2):=fun w2 hb2 tmps ht=>by
    obtain ⟨_,t,_,_,k1⟩:=HR.Au hb2
    exact TV w.heap.size _ _ w2 true 0 ht ((Hk2.Au hb2).cell 0) (k1.cell 2) (k1.frozen 2) 3 (Hk0.Au hb2) fun W hW hc=>⟨3,w1,rfl,by simpa using HK.Ab,(MK.QF hb2).trans hW,hc⟩
   refine EG (S:=fun w'=>w'.cell? ⟨w.heap.size+1+1,0,none⟩=some (.pointer (some ⟨w.heap.size+1,0,none⟩))) (by kernel_rfl) ?_ fun hHeld=>?_
   ·(try dsimp only);first|exact q0|exact q2
   refine DX (rs:=[0,1]) (by kernel_rfl) (by simp) ?_
   refine AllReadyH.cons NG (fun KK Ad=>?_) ?_
   ·go_simp
    refine Ad.out _ _ ?_ fun hHeld=>?_
    ·(try dsimp only);first|exact q0|exact q2
    clear Ad KK
    try simp only [Act.put,LP]
    refine DX (rs:=[1]) (by kernel_rfl) (by simp) ?_
    refine AllReadyH.cons KG (fun KK Ad=>?_) ?_
    ·go_simp
     refine Ad.out _ _ ?_ fun hHeld=>?_
     ·(try dsimp only);first|exact q0|exact q2
     clear Ad KK
     try simp only [Act.put,LP]
     refine DX (rs:=[2]) (by kernel_rfl) (by simp) ?_
     refine AllReadyH.cons NW (fun KK Ad=>?_) ?_
     ·go_simp
      refine (RI _ _ _ _ (HR.Au (Aj.refl w1).drew)).mono ?_;rintro e w2 ⟨rfl,hb2⟩;have q2:=(Hk2.Au ((Aj.refl w1).drew.trans hb2)).cell 0;simp only [Ra,PM] at q2
      refine Ad.out _ _ ?_ fun hHeld=>?_
      ·(try dsimp only);first|exact q0|exact q2
      clear Ad KK
      try simp only [Act.put,LP]
      refine DX (rs:=[3]) (by kernel_rfl) (by simp) ?_
      refine AllReadyH.cons KF (fun KK Ad=>?_) ?_
      ·go_simp
       refine Ad.out _ _ ?_ fun hHeld=>?_
       ·(try dsimp only);first|exact q0|exact q2
       clear Ad KK
       try simp only [Act.put,LP]
       refine DX (rs:=[4]) (by kernel_rfl) (by simp) ?_
       refine AllReadyH.cons Mr (fun KK Ad=>?_) ?_
       ·go_simp
        refine (Ip _ _ _ _ _ (HR.Au ((Aj.refl w1).drew.trans hb2))).mono ?_;rintro e w3 ⟨rfl,rfl⟩;exact HE _ ((Aj.refl w1).drew.trans hb2) _ rfl
       exact AllReadyH.nil
      exact AllReadyH.nil
     exact AllReadyH.nil
    exact AllReadyH.nil
   refine AllReadyH.cons KG (fun KK Ad=>?_) ?_
   ·go_simp
    refine Ad.out _ _ ?_ fun hHeld=>?_
    ·(try dsimp only);first|exact q0|exact q2
    clear Ad KK
    try simp only [Act.put,LP]
    refine DX (rs:=[0,2]) (by kernel_rfl) (by simp) ?_
    refine AllReadyH.cons NG (fun KK Ad=>?_) ?_
    ·go_simp
     refine Ad.out _ _ ?_ fun hHeld=>?_
     ·(try dsimp only);first|exact q0|exact q2
     clear Ad KK
     try simp only [Act.put,LP]
     refine DX (rs:=[2]) (by kernel_rfl) (by simp) ?_
     refine AllReadyH.cons NW (fun KK Ad=>?_) ?_
     ·go_simp
      refine (RI _ _ _ _ (HR.Au (Aj.refl w1).drew)).mono ?_;rintro e w2 ⟨rfl,hb2⟩;have q2:=(Hk2.Au ((Aj.refl w1).drew.trans hb2)).cell 0;simp only [Ra,PM] at q2
      refine Ad.out _ _ ?_ fun hHeld=>?_
      ·(try dsimp only);first|exact q0|exact q2
      clear Ad KK
      try simp only [Act.put,LP]
      refine DX (rs:=[3]) (by kernel_rfl) (by simp) ?_
      refine AllReadyH.cons KF (fun KK Ad=>?_) ?_
      ·go_simp
       refine Ad.out _ _ ?_ fun hHeld=>?_
       ·(try dsimp only);first|exact q0|exact q2
       clear Ad KK
       try simp only [Act.put,LP]
       refine DX (rs:=[4]) (by kernel_rfl) (by simp) ?_
       refine AllReadyH.cons Mr (fun KK Ad=>?_) ?_
       ·go_simp
        refine (Ip _ _ _ _ _ (HR.Au ((Aj.refl w1).drew.trans hb2))).mono ?_;rintro e w3 ⟨rfl,rfl⟩;exact HE _ ((Aj.refl w1).drew.trans hb2) _ rfl
       exact AllReadyH.nil
      exact AllReadyH.nil
     exact AllReadyH.nil
    refine AllReadyH.cons NW (fun KK Ad=>?_) ?_
    ·go_simp
     refine (RI _ _ _ _ (HR.Au (Aj.refl w1).drew)).mono ?_;rintro e w2 ⟨rfl,hb2⟩;have q2:=(Hk2.Au ((Aj.refl w1).drew.trans hb2)).cell 0;simp only [Ra,PM] at q2
     refine Ad.out _ _ ?_ fun hHeld=>?_
     ·(try dsimp only);first|exact q0|exact q2
     clear Ad KK
     try simp only [Act.put,LP]
     refine DX (rs:=[0,3]) (by kernel_rfl) (by simp) ?_
     refine AllReadyH.cons NG (fun KK Ad=>?_) ?_
     ·go_simp
      refine Ad.out _ _ ?_ fun hHeld=>?_
      ·(try dsimp only);first|exact q0|exact q2
      clear Ad KK
      try simp only [Act.put,LP]
      refine DX (rs:=[3]) (by kernel_rfl) (by simp) ?_
      refine AllReadyH.cons KF (fun KK Ad=>?_) ?_
      ·go_simp
       refine Ad.out _ _ ?_ fun hHeld=>?_
       ·(try dsimp only);first|exact q0|exact q2
       clear Ad KK
       try simp only [Act.put,LP]
       refine DX (rs:=[4]) (by kernel_rfl) (by simp) ?_
       refine AllReadyH.cons Mr (fun KK Ad=>?_) ?_
       ·go_simp
        refine (Ip _ _ _ _ _ (HR.Au ((Aj.refl w1).drew.trans hb2))).mono ?_;rintro e w3 ⟨rfl,rfl⟩;exact HE _ ((Aj.refl w1).drew.trans hb2) _ rfl
       exact AllReadyH.nil
      exact AllReadyH.nil
     refine AllReadyH.cons KF (fun KK Ad=>?_) ?_
     ·go_simp
      refine Ad.out _ _ ?_ fun hHeld=>?_
      ·(try dsimp only);first|exact q0|exact q2
      clear Ad KK
      try simp only [Act.put,LP]
      refine DX (rs:=[0]) (by kernel_rfl) (by simp) ?_
      refine AllReadyH.cons NG (fun KK Ad=>?_) ?_
      ·go_simp
       refine Ad.out _ _ ?_ fun hHeld=>?_
       ·(try dsimp only);first|exact q0|exact q2
       clear Ad KK
       try simp only [Act.put,LP]
       refine DX (rs:=[4]) (by kernel_rfl) (by simp) ?_
       refine AllReadyH.cons Mr (fun KK Ad=>?_) ?_
       ·go_simp
        refine (Ip _ _ _ _ _ (HR.Au ((Aj.refl w1).drew.trans hb2))).mono ?_;rintro e w3 ⟨rfl,rfl⟩;exact HE _ ((Aj.refl w1).drew.trans hb2) _ rfl
       exact AllReadyH.nil
      exact AllReadyH.nil
     exact AllReadyH.nil
    exact AllReadyH.nil
   exact AllReadyH.nil
abbrev scs (s:List UInt8) (t k:Int):Array Value:=#[.string ⟨s.toArray⟩,.int .i64 t,.int .i64 k]
theorem Br.three {w:World} {g:Nat} {t:TypeId} {a b c:Value} (h:Br w g t #[a,b,c]):w.cell? ⟨g,0,none⟩=some a∧w.cell? ⟨g,1,none⟩=some b∧w.cell? ⟨g,2,none⟩=some c∧w.frozen? ⟨g,0,none⟩=false∧w.frozen? ⟨g,1,none⟩=false∧w.frozen? ⟨g,2,none⟩=false:=
 ⟨h.cell 0,h.cell 1,h.cell 2,h.frozen 0,h.frozen 1,h.frozen 2⟩
theorem Ex {most:Int} {l r:List UInt8} {n:Nat} (h:Et most l=.ok (n,r)):0≤most∧(n:Int)≤most∧r.length≤l.length:=by
 rcases Jt (most:=most) (l:=l) with ⟨e,_⟩|⟨n',z,_,hz,_,⟨e,_⟩|⟨e,h2,h3⟩⟩
 ·rw [h] at e;cases e
 ·rw [h] at e;cases e
 ·rw [h] at e
  injection e with e
  injection e with e1 e2
  subst e1
  subst e2
  exact ⟨h2,h3,by rw [IA];omega⟩
theorem Fh {most k:Int} {l:List UInt8} (h:Et most l=.error k):k=3∨k=5:=by
 rcases Jt (most:=most) (l:=l) with ⟨e,_⟩|⟨n',z,_,hz,_,⟨e,_⟩|⟨e,h2,h3⟩⟩
 ·rw [h] at e;injection e with e;exact .inl e
 ·rw [h] at e;injection e with e;exact .inr e
 ·rw [h] at e;cases e
attribute [local go_sem] SE
def isTerm (l:List UInt8):Bool:=decide (1≤l.length∧l.length≤16)
def Mx (b:Bool):Int:=if b then 0 else 2
def DL (c:Nat):Bool:=(decide (97≤c) && decide (c≤122))||(decide (48≤c) && decide (c≤57))||c==95
def Cy (l:List UInt8):Bool:=decide (1≤l.length∧l.length≤12) && l.all fun c=>DL c.toNat
theorem GX (l:List UInt8) (w:World) (hl:l.length≤9223372036854775807):
 Calls prog 141 #[.string ⟨l.toArray⟩] w fun e w'=>e=.returned (.int .i64 (Mx (isTerm l)))∧w=w':=by
 cases l with
 |nil=>
  go_enter func141,ntmps141
  go_wp2
  go_ret
  exact ⟨rfl,rfl⟩
 |cons c r=>
  simp only [CZ] at hl
  by_cases h:16<r.length+1
  ·have HI:Hid (isTerm (c::r)=false):=by show _=_;unfold isTerm;simp;omega
   go_enter func141,ntmps141
   go_wp2
   go_ret
   rw [HI.Ab]
   exact ⟨rfl,rfl⟩
  ·have HI:Hid (isTerm (c::r)=true):=by show _=_;unfold isTerm;simp;omega
   go_enter func141,ntmps141
   go_wp2
   go_ret
   rw [HI.Ab]
   exact ⟨rfl,rfl⟩
theorem Zm (l:List UInt8) (w:World) (hl:l.length≤9223372036854775807):
 Calls prog 85 #[.string ⟨l.toArray⟩] w fun e w'=>e=.returned (.bool (isTerm l))∧w=w':=by
 by_cases h1:1≤l.length
 ·by_cases h2:l.length≤16
  ·have d1:decide ((l.length:Int)≤16)=true:=by simp;omega
   have HI:Hid (isTerm l=true):=by show _=_;unfold isTerm;simp;omega
   go_enter func85,ntmps85
   go_wp2
   go_ret
   rw [HI.Ab]
   exact ⟨rfl,rfl⟩
  ·have d1:decide ((l.length:Int)≤16)=false:=by simp;omega
   have HI:Hid (isTerm l=false):=by show _=_;unfold isTerm;simp;omega
   go_enter func85,ntmps85
   go_wp2
   go_ret
   rw [HI.Ab]
   exact ⟨rfl,rfl⟩
 ·have HI:Hid (isTerm l=false):=by show _=_;unfold isTerm;simp;omega
  go_enter func85,ntmps85
  go_wp2
  go_ret
  rw [HI.Ab]
  exact ⟨rfl,rfl⟩
theorem TG {c:Nat} (h1:97≤c) (h2:c≤122):DL c=true:=by simp [DL,h1,h2]
theorem Vl {c:Nat} (h1:48≤c) (h2:c≤57):DL c=true:=by simp [DL,h1,h2]
theorem XR {c:Nat} (h:c=95):DL c=true:=by simp [DL,h]
theorem Kz {c:Nat} (h1:c<97∨122<c) (h2:c<48∨57<c) (h3:¬ c=95):DL c=false:=by
 simp [DL,h3]
 omega
theorem Qg (l:List UInt8) (k:Nat) (h:k<l.length):((l.take (k+1)).all fun c=>DL c.toNat)=(((l.take k).all fun c=>DL c.toNat) && DL l[k].toNat):=by
 rw [Oa h,List.all_append]
 simp
theorem FI {l:List UInt8} {k:Nat} (h:((l.take k).all fun c=>DL c.toNat)=false):(l.all fun c=>DL c.toNat)=false:=by
 rw [←Ki k l,List.all_append,h]
 rfl
theorem JR (l:List UInt8) (w:World) (hl:l.length≤9223372036854775807):
 Calls prog 172 #[.string ⟨l.toArray⟩] w fun e w'=>e=.returned (.int .i64 (Mx (Cy l)))∧w=w':=by
 cases hl0:l with
 |nil=>
  subst hl0
  go_enter func172,ntmps172
  go_wp2
  go_ret
  exact ⟨rfl,rfl⟩
 |cons c0 r0=>
  have hp:1≤l.length:=by rw [hl0];simp
  have he:l.isEmpty=false:=by rw [hl0];rfl
  rw [←hl0]
  clear hl0
  by_cases h:12<l.length
  ·have HI:Hid (Cy l=false):=by show _=_;unfold Cy;simp;omega
   go_enter func172,ntmps172
   go_wp2
   go_ret
   rw [HI.Ab]
   exact ⟨rfl,rfl⟩
  ·have dl:decide (12<(l.length:Int))=false:=by simp;omega
   go_enter func172,ntmps172
   go_wp2
   go_loopg [14] l.length (fun g i wr=>∃ k:Nat,g=l.length - k∧k≤l.length∧i=.int .i64 k∧wr=w∧Hid (((l.take k).all fun c=>DL c.toNat)=true))
   case atStart=>exact ⟨0,rfl,by omega,rfl,rfl,by show _=_;simp⟩
   case round=>
    obtain ⟨k,BG,hk,rfl,rfl,hF⟩:=hrel
    have Cg:=Aa BG
    clear BG
    by_cases hlt:k<l.length
    ·have hb:=l[k].toNat_lt
     have Hs:=Aa (Qg l k hlt)
     by_cases a1:97≤l[k].toNat
     ·by_cases a2:l[k].toNat≤122
      ·have HG:Hid (DL l[k].toNat=true):=TG a1 a2
       go_wp2
       go_roundg (l.length - (k+1))
       case rel=>exact ⟨k+1,rfl,by omega,by go_num,rfl,by show _=_;rw [Hs.Ab,hF.Ab,HG.Ab];rfl⟩
       case measure=>rw [Cg.Ab];omega
      ·have HG:Hid (DL l[k].toNat=false):=Kz (by omega) (by omega) (by omega)
       have q:((l[k].toNat:Int)==95)=false:=by simp;omega
       have HI:Hid (Cy l=false):=by show _=_;unfold Cy;rw [FI (k:=k+1) (by rw [Hs.Ab,HG.Ab];simp)];simp
       go_wp2
       go_ret
       rw [HI.Ab]
       exact ⟨rfl,rfl⟩
     ·by_cases a2:48≤l[k].toNat
      ·by_cases a3:l[k].toNat≤57
       ·have HG:Hid (DL l[k].toNat=true):=Vl a2 a3
        go_wp2
        go_roundg (l.length - (k+1))
        case rel=>exact ⟨k+1,rfl,by omega,by go_num,rfl,by show _=_;rw [Hs.Ab,hF.Ab,HG.Ab];rfl⟩
        case measure=>rw [Cg.Ab];omega
       ·by_cases a4:l[k].toNat=95
        ·have HG:Hid (DL l[k].toNat=true):=XR a4
         have q:((l[k].toNat:Int)==95)=true:=by simp;omega
         clear a4
         go_wp2
         go_roundg (l.length - (k+1))
         case rel=>exact ⟨k+1,rfl,by omega,by go_num,rfl,by show _=_;rw [Hs.Ab,hF.Ab,HG.Ab];rfl⟩
         case measure=>rw [Cg.Ab];omega
        ·have HG:Hid (DL l[k].toNat=false):=Kz (by omega) (by omega) a4
         have q:((l[k].toNat:Int)==95)=false:=by simp;omega
         clear a4
         have HI:Hid (Cy l=false):=by show _=_;unfold Cy;rw [FI (k:=k+1) (by rw [Hs.Ab,HG.Ab];simp)];simp
         go_wp2
         go_ret
         rw [HI.Ab]
         exact ⟨rfl,rfl⟩
      ·have HG:Hid (DL l[k].toNat=false):=Kz (by omega) (by omega) (by omega)
       have q:((l[k].toNat:Int)==95)=false:=by simp;omega
       have HI:Hid (Cy l=false):=by show _=_;unfold Cy;rw [FI (k:=k+1) (by rw [Hs.Ab,HG.Ab];simp)];simp
       go_wp2
       go_ret
       rw [HI.Ab]
       exact ⟨rfl,rfl⟩
    ·have HI:Hid (Cy l=true):=by
      show _=_
      have:=hF.Ab
      rw [DY (by omega)] at this
      unfold Cy
      rw [this]
      simp
      omega
     clear hF
     go_wp2
     go_ret
     rw [HI.Ab]
     exact ⟨rfl,rfl⟩
theorem IC (l:List UInt8) (w:World) (hl:l.length≤9223372036854775807):
 Calls prog 50 #[.string ⟨l.toArray⟩] w fun e w'=>e=.returned (.bool (Cy l))∧w=w':=by
 cases hl0:l with
 |nil=>
  subst hl0
  go_enter func50,ntmps50
  go_wp2
  go_ret
  exact ⟨rfl,rfl⟩
 |cons c0 r0=>
  have hp:1≤l.length:=by rw [hl0];simp
  rw [←hl0]
  clear hl0
  by_cases h:12<l.length
  ·have HI:Hid (Cy l=false):=by show _=_;unfold Cy;simp;omega
   go_enter func50,ntmps50
   go_wp2
   go_ret
   rw [HI.Ab]
   exact ⟨rfl,rfl⟩
  ·have dl:decide (12<(l.length:Int))=false:=by simp;omega
   have dl1:decide ((l.length:Int)<1)=false:=by simp;omega
   go_enter func50,ntmps50
   go_wp2
   go_loopg [3] l.length (fun g i wr=>∃ k:Nat,g=l.length - k∧k≤l.length∧i=.int .i64 k∧wr=w∧Hid (((l.take k).all fun c=>DL c.toNat)=true))
   case atStart=>exact ⟨0,rfl,by omega,rfl,rfl,by show _=_;simp⟩
   case round=>
    obtain ⟨k,BG,hk,rfl,rfl,hF⟩:=hrel
    have Cg:=Aa BG
    clear BG
    by_cases hlt:k<l.length
    ·have hb:=l[k].toNat_lt
     have Hs:=Aa (Qg l k hlt)
     by_cases a1:97≤l[k].toNat
     ·by_cases a2:l[k].toNat≤122
      ·have HG:Hid (DL l[k].toNat=true):=TG a1 a2
       go_wp2
       go_roundg (l.length - (k+1))
       case rel=>exact ⟨k+1,rfl,by omega,by go_num,rfl,by show _=_;rw [Hs.Ab,hF.Ab,HG.Ab];rfl⟩
       case measure=>rw [Cg.Ab];omega
      ·have HG:Hid (DL l[k].toNat=false):=Kz (by omega) (by omega) (by omega)
       have q:((l[k].toNat:Int)==95)=false:=by simp;omega
       have d1:decide ((l[k].toNat:Int)≤122)=false:=by simp;omega
       have d2:decide ((l[k].toNat:Int)≤57)=false:=by simp;omega
       have HI:Hid (Cy l=false):=by show _=_;unfold Cy;rw [FI (k:=k+1) (by rw [Hs.Ab,HG.Ab];simp)];simp
       go_wp2
       go_ret
       rw [HI.Ab]
       exact ⟨rfl,rfl⟩
     ·by_cases a2:48≤l[k].toNat
      ·by_cases a3:l[k].toNat≤57
       ·have HG:Hid (DL l[k].toNat=true):=Vl a2 a3
        go_wp2
        go_roundg (l.length - (k+1))
        case rel=>exact ⟨k+1,rfl,by omega,by go_num,rfl,by show _=_;rw [Hs.Ab,hF.Ab,HG.Ab];rfl⟩
        case measure=>rw [Cg.Ab];omega
       ·by_cases a4:l[k].toNat=95
        ·have HG:Hid (DL l[k].toNat=true):=XR a4
         have q:((l[k].toNat:Int)==95)=true:=by simp;omega
         clear a4
         go_wp2
         go_roundg (l.length - (k+1))
         case rel=>exact ⟨k+1,rfl,by omega,by go_num,rfl,by show _=_;rw [Hs.Ab,hF.Ab,HG.Ab];rfl⟩
         case measure=>rw [Cg.Ab];omega
        ·have HG:Hid (DL l[k].toNat=false):=Kz (by omega) (by omega) a4
         have d2:decide ((l[k].toNat:Int)≤57)=false:=by simp;omega
         have q:((l[k].toNat:Int)==95)=false:=by simp;omega
         clear a4
         have HI:Hid (Cy l=false):=by show _=_;unfold Cy;rw [FI (k:=k+1) (by rw [Hs.Ab,HG.Ab];simp)];simp
         go_wp2
         go_ret
         rw [HI.Ab]
         exact ⟨rfl,rfl⟩
      ·have HG:Hid (DL l[k].toNat=false):=Kz (by omega) (by omega) (by omega)
       have q:((l[k].toNat:Int)==95)=false:=by simp;omega
       have HI:Hid (Cy l=false):=by show _=_;unfold Cy;rw [FI (k:=k+1) (by rw [Hs.Ab,HG.Ab];simp)];simp
       go_wp2
       go_ret
       rw [HI.Ab]
       exact ⟨rfl,rfl⟩
    ·have HI:Hid (Cy l=true):=by
      show _=_
      have:=hF.Ab
      rw [DY (by omega)] at this
      unfold Cy
      rw [this]
      simp
      omega
     clear hF
     go_wp2
     go_ret
     rw [HI.Ab]
     exact ⟨rfl,rfl⟩
end Go.Proofs.YtijplolmkcdflaaGreat
namespace Go.Proofs.YtijplolmkcdflaaGreat
open Tryz
open Go.RowKit
attribute [local go_sem] SE
abbrev tx (l:List UInt8):Value:=.string ⟨l.toArray⟩
def TxOk (ts:List (List UInt8)):Prop:=∀ t ∈ ts,t.length≤9223372036854775807
theorem Rd.tx {w:World} {A:Option Addr} {n k:Nat} {ts:List (List UInt8)} (h:Rd w 1 A n (ts.map tx)) (hk:k<n):
 ∃ ad t,A=some ad∧ts[k]?=some t∧w.cell? (ad.add k)=some (.string ⟨t.toArray⟩):=by
 obtain ⟨ad,u,e,_,hx,hc⟩:=Reads.at_ h hk
 rw [DD] at hx
 cases hz:ts[k]? with
 |none=>rw [hz] at hx;cases hx
 |some z=>
  rw [hz] at hx
  simp at hx
  subst hx
  exact ⟨ad,z,e,rfl,hc⟩
def rowFrom (p:Option (List UInt8)):List (List UInt8)→Int
 |[]=>0
 |t::r=>if isTerm t then (if (p.any fun q=>!Op.bytesLess q t) then 4 else rowFrom (some t) r) else 2
def BH (ts:List (List UInt8)):Int:=rowFrom none ts
theorem Fg {ts:List (List UInt8)} {k:Nat} {t:List UInt8} {p:Option (List UInt8)} (h:ts[k]?=some t):
 rowFrom p (ts.drop k)=if isTerm t then (if (p.any fun q=>!Op.bytesLess q t) then 4 else rowFrom (some t) (ts.drop (k+1))) else 2:=by
 obtain ⟨hk,rfl⟩:=Ca.1 h
 rw [DZ hk]
 rfl
theorem Vf (A:Option Addr) (n c:Nat) (ts:List (List UInt8)) (w:World) (hr:Rd w 1 A n (ts.map tx)) (ht:TxOk ts) (hn:n≤100000):
 Calls prog 193 #[.slice A n c] w fun e w'=>e=.returned (.int .i64 (BH ts))∧w=w':=by
 have hlen:Hid (ts.length=n):=by have:=hr.len;show _=_;simpa using this
 have Ht:=Aa ht
 clear ht
 go_enter func193,ntmps193
 go_wp2
 go_loopg [8] n (fun g i wr=>∃ k:Nat,g=n - k∧k≤n∧i=.int .i64 k∧wr=w∧Hid (BH ts=rowFrom (if k=0 then none else ts[k - 1]?) (ts.drop k)))
 case atStart=>exact ⟨0,rfl,by omega,rfl,rfl,rfl⟩
 case round=>
  obtain ⟨k,BG,hk,rfl,rfl,hF⟩:=hrel
  have Cg:=Aa BG
  clear BG
  by_cases hlt:k<n
  ·obtain ⟨ad,t,rfl,htk,hc⟩:=hr.tx hlt
   have hl0:t.length≤9223372036854775807:=Ht t (CE htk)
   have wF:=Aa htk
   clear htk
   cases hT:isTerm t with
   |false=>
    have HR:Hid (BH ts=2):=by show _=_;rw [hF.Ab,Fg wF.Ab,hT];rfl
    clear hF
    go_wp2_with fail
    refine (GX _ _ hl0).mono ?_;rintro e w1 ⟨rfl,rfl⟩
    rw [hT]
    go_wp2
    go_ret
    rw [HR.Ab]
    exact ⟨rfl,rfl⟩
   |true=>
    by_cases k0:k=0
    ·subst k0
     have hc0:wr.cell? ad=some (.string ⟨t.toArray⟩):=hc
     have HR:Hid (BH ts=rowFrom (if 0+1=0 then none else ts[0+1 - 1]?) (ts.drop (0+1))):=by
      show _=_
      rw [hF.Ab,Fg wF.Ab,hT]
      simp [wF.Ab]
     clear hF
     go_wp2_with fail
     refine (GX _ _ hl0).mono ?_;rintro e w1 ⟨rfl,rfl⟩
     rw [hT]
     go_wp2
     go_roundg (n - (0+1))
     case rel=>exact ⟨0+1,rfl,by omega,by go_num,rfl,HR⟩
     case measure=>rw [Cg.Ab];omega
    ·obtain ⟨ad',q,e,hq,hcq⟩:=hr.tx (k:=k - 1) (by omega)
     injection e with e
     subst e
     have Hq:=Aa hq
     clear hq
     have e1:((k:Int) - 1).toNat=k - 1:=by omega
     have k1:decide (0<(k:Int))=true:=by simp;omega
     have wr1:IntKind.i64.wrap ((k:Int) - 1)=(k:Int) - 1:=Kj _ (by omega)
     cases hL:Op.bytesLess q t with
     |true=>
      have HR:Hid (BH ts=rowFrom (if k+1=0 then none else ts[k+1 - 1]?) (ts.drop (k+1))):=by
       show _=_
       rw [hF.Ab,Fg wF.Ab,hT,Ah k0,Hq.Ab]
       simp [wF.Ab,hL]
      clear hF
      go_wp2_with fail
      refine (GX _ _ hl0).mono ?_;rintro e w1 ⟨rfl,rfl⟩
      rw [hT]
      go_wp2
      go_roundg (n - (k+1))
      case rel=>exact ⟨k+1,rfl,by omega,by go_num,rfl,HR⟩
      case measure=>rw [Cg.Ab];omega
     |false=>
      have HR:Hid (BH ts=4):=by
       show _=_
       rw [hF.Ab,Fg wF.Ab,hT,Ah k0,Hq.Ab]
       simp [hL]
      clear hF
      go_wp2_with fail
      refine (GX _ _ hl0).mono ?_;rintro e w1 ⟨rfl,rfl⟩
      rw [hT]
      go_wp2
      go_ret
      rw [HR.Ab]
      exact ⟨rfl,rfl⟩
  ·have HR:Hid (BH ts=0):=by show _=_;rw [hF.Ab,EY (by have:=hlen.Ab;omega)];rfl
   clear hF
   go_wp2
   go_ret
   rw [HR.Ab]
   exact ⟨rfl,rfl⟩
end Go.Proofs.YtijplolmkcdflaaGreat
namespace Go.Proofs.YtijplolmkcdflaaGreat
open Tryz
open Go.RowKit
attribute [local go_sem] SE Re
def Cc (l:List UInt8):List UInt8:=CK l.length++l
def alike:List UInt8→List UInt8→Nat
 |a::x,b::y=>if a=b then alike x y+1 else 0
 |_,_=>0
theorem Sc (x y:List UInt8):alike x y≤x.length∧alike x y≤y.length:=by
 induction x generalizing y with
 |nil=>simp [alike]
 |cons a x ih=>
  cases y with
  |nil=>simp [alike]
  |cons b y=>
   rw [alike]
   have:=ih y
   split<;>simp<;>omega
theorem WN {x y:List UInt8} {k:Nat} (h1:k<x.length) (h2:k<y.length) (h:x[k]=y[k]):alike (x.drop k) (y.drop k)=alike (x.drop (k+1)) (y.drop (k+1))+1:=by
 rw [DZ h1,DZ h2,alike,Ak h]
theorem WM {x y:List UInt8} {k:Nat} (h1:k<x.length) (h2:k<y.length) (h:¬ x[k]=y[k]):alike (x.drop k) (y.drop k)=0:=by
 rw [DZ h1,DZ h2,alike,Ah h]
theorem Po {x y:List UInt8} {k:Nat} (h:x.length≤k∨y.length≤k):alike (x.drop k) (y.drop k)=0:=by
 have:=Sc (x.drop k) (y.drop k)
 rw [IA,IA] at this
 omega
theorem Qp (x y:List UInt8) (w:World) (hx:x.length≤9223372036854775807) (hy:y.length≤9223372036854775807):
 Calls prog 177 #[.string ⟨x.toArray⟩,.string ⟨y.toArray⟩] w fun e w'=>e=.returned (.int .i64 (alike x y:Nat))∧Aj w w':=by
 go_enter func177,ntmps177
 go_wp2
 go_loopg [5] x.length (fun g i wr=>∃ k:Nat,g=x.length - k∧k≤x.length∧k≤y.length∧i=.int .i64 k∧Aj w wr∧Hid (alike x y=k+alike (x.drop k) (y.drop k)))
 case atStart=>exact ⟨0,rfl,by omega,by omega,rfl,Aj.refl _,by show _=_;simp⟩
 case round=>
  obtain ⟨k,BG,hkx,hky,rfl,hB,hF⟩:=hrel
  have Cg:=Aa BG
  clear BG
  by_cases a1:k<x.length
  ·by_cases a2:k<y.length
   ·by_cases a3:x[k]=y[k]
    ·have HR:Hid (alike x y=(k+1)+alike (x.drop (k+1)) (y.drop (k+1))):=by show _=_;rw [hF.Ab,WN a1 a2 a3];omega
     have e3:((x[k].toNat:Int)==(y[k].toNat:Int))=true:=by rw [a3];simp
     have e4:(x[k].toNat==y[k].toNat)=true:=by rw [a3];simp
     clear a3 hF
     go_wp2_with fail
     go_quiet (fail)
     go_wp2
     go_roundg (x.length - (k+1))
     case rel=>exact ⟨k+1,rfl,by omega,by omega,by go_num,hB.drewN _,HR⟩
     case measure=>rw [Cg.Ab];omega
    ·have HR:Hid (alike x y=k):=by show _=_;rw [hF.Ab,WM a1 a2 a3];omega
     have e5:¬ x[k].toNat=y[k].toNat:=fun h=>a3 (UInt8.toNat_inj.1 h)
     have e3:((x[k].toNat:Int)==(y[k].toNat:Int))=false:=by simp;omega
     have e4:(x[k].toNat==y[k].toNat)=false:=by simp;omega
     clear a3 e5 hF
     go_wp2_with fail
     go_quiet (fail)
     go_wp2
     go_ret
     rw [HR.Ab]
     exact ⟨rfl,hB.drewN _⟩
   ·have HR:Hid (alike x y=k):=by show _=_;rw [hF.Ab,Po (.inr (by omega))];omega
    have d2:decide ((k:Int)<(y.length:Int))=false:=by simp;omega
    have d3:decide (k<y.length)=false:=by simp;omega
    clear hF
    go_wp2_with fail
    go_quiet (fail)
    go_wp2
    go_ret
    rw [HR.Ab]
    exact ⟨rfl,hB.drewN _⟩
  ·have HR:Hid (alike x y=k):=by show _=_;rw [hF.Ab,Po (.inl (by omega))];omega
   have d2:decide ((k:Int)<(x.length:Int))=false:=by simp;omega
   have d3:decide (k<x.length)=false:=by simp;omega
   clear hF
   go_wp2_with fail
   go_quiet (fail)
   go_wp2
   go_ret
   rw [HR.Ab]
   exact ⟨rfl,hB.drewN _⟩
def JM:List UInt8→List (List UInt8)→List UInt8
 |_,[]=>[]
 |was,t::r=>(CK (alike was t)++Cc (t.drop (alike was t)))++JM t r
def MS (ts:List (List UInt8)):List UInt8:=CK ts.length++JM [] ts
theorem iW {ts:List (List UInt8)} {k:Nat} {t was:List UInt8} (h:ts[k]?=some t):
 JM was (ts.drop k)=(CK (alike was t)++Cc (t.drop (alike was t)))++JM t (ts.drop (k+1)):=by
 obtain ⟨hk,rfl⟩:=Ca.1 h
 rw [DZ hk]
 rfl
theorem PW {ts:List (List UInt8)} {p:Option (List UInt8)} (h:rowFrom p ts=0):∀ t ∈ ts,isTerm t=true:=by
 induction ts generalizing p with
 |nil=>simp
 |cons t r ih=>
  rw [rowFrom] at h
  split at h
  ·rename_i ht
   split at h
   ·cases h
   ·intro u hu
    rcases En.1 hu with rfl|hu
    ·exact ht
    ·exact ih h u hu
  ·cases h
theorem Gv {ts:List (List UInt8)} (h:BH ts=0) {t:List UInt8} (ht:t ∈ ts):t.length≤16:=by
 have:=PW h t ht
 unfold isTerm at this
 simp at this
 omega
theorem Bp (n:Nat):(CK n).length≤9:=by rw [Gx];exact JQ _
theorem oP (q t:List UInt8):(Op.bytesLess t q||t==q)=!Op.bytesLess q t:=by
 induction t generalizing q with
 |nil=>cases q<;>simp [Op.bytesLess]
 |cons a t ih=>
  cases q with
  |nil=>simp [Op.bytesLess]
  |cons b q=>
   have h:=ih q
   simp only [Op.bytesLess]
   rcases iI a.toNat b.toNat with h1|h1|h1
   ·have x1:a<b:=h1
    have x2:¬ b<a:=fun h=>by have:b.toNat<a.toNat:=h;omega
    have x3:b≠a:=fun h=>by subst h;omega
    simp [x1,x2,x3]
   ·have x1:a=b:=UInt8.toNat_inj.1 h1
    subst x1
    simp only [UInt8.lt_irrefl,decide_false,Bool.false_or,beq_self_eq_true,iH]
    rw [←h]
    simp
   ·have x1:b<a:=h1
    have x2:¬ a<b:=fun h=>by have:a.toNat<b.toNat:=h;omega
    have x3:a≠b:=fun h=>by subst h;omega
    simp [x1,x2,x3]
theorem SG (A:Option Addr) (n c:Nat) (ts:List (List UInt8)) (w:World) (hr:Rd w 1 A n (ts.map tx)) (ht:TxOk ts) (hn:n≤100000):
 Calls prog 52 #[.slice A n c] w fun e w'=>e=.returned (.int .i64 (BH ts))∧Aj w w':=by
 have hlen:Hid (ts.length=n):=by have:=hr.len;show _=_;simpa using this
 have Ht:=Aa ht
 clear ht
 go_enter func52,ntmps52
 go_wp2
 go_loopg [3] n (fun g i wr=>∃ k:Nat,g=n - k∧k≤n∧i=.int .i64 k∧Aj w wr∧Hid (BH ts=rowFrom (if k=0 then none else ts[k - 1]?) (ts.drop k)))
 case atStart=>exact ⟨0,rfl,by omega,rfl,Aj.refl _,rfl⟩
 case round=>
  obtain ⟨k,BG,hk,rfl,hB,hF⟩:=hrel
  have Cg:=Aa BG
  clear BG
  by_cases hlt:k<n
  ·obtain ⟨ad,t,rfl,htk,hc⟩:=(hr.Au hB).tx hlt
   have hl0:t.length≤9223372036854775807:=Ht t (CE htk)
   have wF:=Aa htk
   clear htk
   cases hT:isTerm t with
   |false=>
    have HR:Hid (BH ts=2):=by show _=_;rw [hF.Ab,Fg wF.Ab,hT];rfl
    clear hF
    go_wp2_with fail
    refine (Zm _ _ hl0).mono ?_;rintro e w1 ⟨rfl,rfl⟩
    rw [hT]
    go_wp2
    go_ret
    rw [HR.Ab]
    exact ⟨rfl,hB⟩
   |true=>
    by_cases k0:k=0
    ·subst k0
     have hc0:wr.cell? ad=some (.string ⟨t.toArray⟩):=hc
     have HR:Hid (BH ts=rowFrom (if 0+1=0 then none else ts[0+1 - 1]?) (ts.drop (0+1))):=by
      show _=_
      rw [hF.Ab,Fg wF.Ab,hT]
      simp [wF.Ab]
     clear hF
     go_wp2_with fail
     refine (Zm _ _ hl0).mono ?_;rintro e w1 ⟨rfl,rfl⟩
     rw [hT]
     go_wp2_with fail
     go_quiet (fail)
     go_wp2
     go_roundg (n - (0+1))
     case rel=>exact ⟨0+1,rfl,by omega,by go_num,hB.drewN _,HR⟩
     case measure=>rw [Cg.Ab];omega
    ·obtain ⟨ad',q,e,hq,hcq⟩:=(hr.Au hB).tx (k:=k - 1) (by omega)
     injection e with e
     subst e
     have Hq:=Aa hq
     clear hq
     have e1:((k:Int) - 1).toNat=k - 1:=by omega
     have k1:decide (0<(k:Int))=true:=by simp;omega
     have k2:decide (0<k)=true:=by simp;omega
     have wr1:IntKind.i64.wrap ((k:Int) - 1)=(k:Int) - 1:=Kj _ (by omega)
     have hle:=oP q t
     cases hL:Op.bytesLess q t with
     |true=>
      have HR:Hid (BH ts=rowFrom (if k+1=0 then none else ts[k+1 - 1]?) (ts.drop (k+1))):=by
       show _=_
       rw [hF.Ab,Fg wF.Ab,hT,Ah k0,Hq.Ab]
       simp [wF.Ab,hL]
      clear hF
      rw [hL] at hle
      go_wp2_with fail
      refine (Zm _ _ hl0).mono ?_;rintro e w1 ⟨rfl,rfl⟩
      rw [hT]
      go_wp2_with fail
      go_quiet (fail)
      go_wp2
      go_roundg (n - (k+1))
      case rel=>exact ⟨k+1,rfl,by omega,by go_num,hB.drewN _,HR⟩
      case measure=>rw [Cg.Ab];omega
     |false=>
      have HR:Hid (BH ts=4):=by
       show _=_
       rw [hF.Ab,Fg wF.Ab,hT,Ah k0,Hq.Ab]
       simp [hL]
      clear hF
      rw [hL] at hle
      go_wp2_with fail
      refine (Zm _ _ hl0).mono ?_;rintro e w1 ⟨rfl,rfl⟩
      rw [hT]
      go_wp2_with fail
      go_quiet (fail)
      go_wp2
      go_ret
      rw [HR.Ab]
      exact ⟨rfl,hB.drewN _⟩
  ·have HR:Hid (BH ts=0):=by show _=_;rw [hF.Ab,EY (by have:=hlen.Ab;omega)];rfl
   clear hF
   go_wp2
   go_ret
   rw [HR.Ab]
   exact ⟨rfl,hB⟩
end Go.Proofs.YtijplolmkcdflaaGreat
namespace Go.Proofs.YtijplolmkcdflaaGreat
open Tryz
open Go.RowKit
theorem BU (x:Int) (w:World) (h0:-9223372036854775808≤x) (h1:x≤9223372036854775807):
 Calls prog 29 #[.int .i64 x] w fun e w'=>e=.returned (.string ⟨(CK x.toNat).toArray⟩)∧Aj w w':=by
 by_cases h:x<0
 ·have e0:Hid (x.toNat=0):=by show _=_;omega
  go_enter func29,ntmps29
  go_wp2_with fail
  refine (Vs 0 _ (by omega) (by omega)).mono ?_;rintro e w1 ⟨rfl,hb1⟩
  go_wp2
  go_ret
  exact ⟨by rw [e0.Ab];rfl,hb1⟩
 ·have wx:IntKind.u64.wrap x=x:=IntWalk.u64_in _ (by omega)
  have d:decide (x<0)=false:=by simp;omega
  go_enter func29,ntmps29
  go_wp2_with fail
  refine (Vs x _ (by omega) (by omega)).mono ?_;rintro e w1 ⟨rfl,hb1⟩
  go_wp2
  go_ret
  exact ⟨rfl,hb1⟩
theorem bF (x:Int) (w:World) (h0:-9223372036854775808≤x) (h1:x≤9223372036854775807):
 Calls prog 37 #[.int .i64 x] w fun e w'=>e=.returned (.string ⟨(CK (Gq x)).toArray⟩)∧Aj w w':=by
 have hf:=dO h0 h1
 go_enter func37,ntmps37
 go_wp2_with fail
 refine (rG x _ h0 h1).mono ?_;rintro e w1 ⟨rfl,rfl⟩
 go_wp2_with fail
 refine (Vs (Gq x:Nat) _ (by omega) (by omega)).mono ?_;rintro e w1 ⟨rfl,hb1⟩
 rw [Da]
 go_wp2
 go_ret
 exact ⟨rfl,hb1⟩
theorem GI (l:List UInt8) (w:World) (hl:l.length≤1000000000):
 Calls prog 30 #[.string ⟨l.toArray⟩] w fun e w'=>e=.returned (.string ⟨(Cc l).toArray⟩)∧Aj w w':=by
 have hpl:(CK l.length).length≤9:=by rw [Gx];exact JQ _
 go_enter func30,ntmps30
 go_wp2_with fail
 refine (BU (l.length:Int) _ (by omega) (by omega)).mono ?_;rintro e w1 ⟨rfl,hb1⟩
 rw [Da]
 go_wp2
 go_ret
 rw [Cs]
 exact ⟨rfl,hb1⟩
structure Le (w0:World) (B:Nat) (s l:List UInt8) (w:World):Prop where
 Au:Aj w0 w
 hB:w0.heap.size≤B
 e:Br w B 45 #[.int .i64 0]
 p:Br w (B+2) 166 #[.pointer (some ⟨B+1,0,none⟩)]
 r:Gb w (B+1) s l
section
variable {w0 w w' : World} {B : Nat} {s l l' : List UInt8}
theorem Le.read (h:Le w0 B s l w) (hg:w.grownBy w' (some (B+1))) (hr:Gb w' (B+1) s l'):Le w0 B s l' w':=
 ⟨h.Au.Lu hg (by have:=h.hB;omega),h.hB,h.e.grown hg (by simp),h.p.grown hg (by simp),hr⟩
theorem Le.more (h:Le w0 B s l w) (hb:Aj w w'):Le w0 B s l w':=⟨h.Au.trans hb,h.hB,h.e.Au hb,h.p.Au hb,h.r.Au hb⟩
theorem Le.kept (h:Le w0 B s l w) {g:Nat} (hg:w.grownBy w' (some g)) (h0:w0.heap.size≤g) (h1:g≠B) (h2:g≠B+1) (h3:g≠B+2):Le w0 B s l w':=
 ⟨h.Au.Lu hg h0,h.hB,h.e.grown hg (by simp;omega),h.p.grown hg (by simp;omega),h.r.grown hg (by simp;omega)⟩
theorem Le.ok {R:Int→World→Prop} (h:Le w0 B s l w) (hR:R (if l=[] then 0 else 3) w):LH B s R (.returned (.tuple #[])) w:=⟨h.e,h.p,.inr ⟨l,rfl,h.r,hR⟩⟩
theorem Le.err {R:Int→World→Prop} {k:Int} (h:Le w0 B s l w) (hR:R k w):LH B s R (.panicked (K3 k)) w:=⟨h.e,h.p,.inl ⟨k,rfl,⟨l,h.r⟩,hR⟩⟩
theorem Le.begin {w w1:World} (h0:Aj w0 w) (h1:Aj w w1) (h2:Gb w1 (w.heap.size+1) s l) (h3:Br w1 w.heap.size 45 #[.int .i64 0]) (h4:Br w1 (w.heap.size+2) 166 #[.pointer (some ⟨w.heap.size+1,0,none⟩)]):Le w0 w.heap.size s l w1:=
 ⟨h0.trans h1,h0.size,h3,h4,h2⟩
end
theorem mR {F:FuncId} {fn:Func} (hf:prog.funcs[F]?=some fn) (hb:fn.body.isNone=false) (hn:(fn.name== "runtime.NumGoroutine")=false) (args:Array Value) (w:World):(callFunc F args).run prog w=.ok (.enter F args) w:=by
 have h1:fn.name≠ "runtime.NumGoroutine":=by simpa using hn
 have h2:fn.body≠none:=by intro e;rw [e] at hb;cases hb
 simp [callFunc,go_sem,hf,h1,h2]
theorem BI {P:Program} {w:World} {ops:Array Oper} {rest:List Oper} {o:Oper} {a:Act} {Q:Exit→Act→World→Prop} (hgd:o.guard=none) (s x:Operand) (t:TypeId)
 (ho:o.op=.call { callee:=.builtin .append,args:=#[s,x],argTypes:=#[t,t] })
 {e:TypeId} {size bytes:Nat} (E:BC P t e size bytes) (base:Nat) (hB:base≤w.heap.size)
 (v:Value) (n:Nat) (xs:List Value) (hs:a.eval s=v) (hown:w.ownsRow base e size v n xs)
 (A:Option Addr) (m c:Nat) (news:List Value) (hx:a.eval x=.slice A m c) (hr:Rd w size A m news) (h1:∀ u ∈ news,u.oneCell'=true)
 (h63:n+m≤maxLen) (hbytes:(n+m) * bytes≤140737488355328)
 (h:∀ v' w',w'.ownsRow base e size v' (n+m) (xs++news)→w.grownBy w' v.ownBlock→(v'.ownBlock=v.ownBlock∨v'.ownBlock=some w.heap.size)→wpList P ops Q rest (a.put o.dst v') w'):wpList P ops Q (o::rest) a w:=by
 obtain ⟨i,z,hi,hz,hsz,hby,hzs⟩:=E.hi
 exact MO hgd fun _ hK=>LM w s x t ho base e i z size bytes E.ht hi hz hsz hby hzs E.pos v n xs hs hown w.heap.size A m c news hx hr h1 h63 hbytes hB fun v' w' h2 h3 h4=>hK _ _ (h v' w' h2 h3 h4)
def Iq (was l:List UInt8):PR (List UInt8):=
 match Et was.length l with
 |.error k=>.error k
 |.ok (k,r)=>
  match Eg 16 r with
  |.error e=>.error e
  |.ok (x,r2)=>if isTerm (was.take k++x) && (alike was (was.take k++x)==k) && Op.bytesLess was (was.take k++x) then .ok (was.take k++x,r2) else .error 3
def Fs:List UInt8→Nat→List UInt8→PR (List (List UInt8))
 |_,0,l=>.ok ([],l)
 |was,n+1,l=>
  match Iq was l with
  |.error e=>.error e
  |.ok (s,r)=>
   match Fs s n r with
   |.error e=>.error e
   |.ok (ts,r2)=>.ok (s::ts,r2)
def tread (most:Int) (l:List UInt8):PR (List (List UInt8)):=
 match Et most l with
 |.error k=>.error k
 |.ok (n,r)=>Fs [] n r
def ahead (ds:List (List UInt8)) (o:PR (List (List UInt8))):PR (List (List UInt8)):=
 match o with
 |.error e=>.error e
 |.ok (ts,r)=>.ok (ds++ts,r)
theorem vW (o:PR (List (List UInt8))):ahead [] o=o:=by
 rcases o with e|⟨ts,r⟩<;>rfl
theorem WO {ds:List (List UInt8)} {was l s r:List UInt8} {n:Nat} (h:Iq was l=.ok (s,r)):ahead ds (Fs was (n+1) l)=ahead (ds++[s]) (Fs s n r):=by
 simp only [Fs,h]
 rcases Fs s n r with e|⟨ts,r2⟩
 ·rfl
 ·simp [ahead]
theorem MF {ds:List (List UInt8)} {was l:List UInt8} {n:Nat} {e:Int} (h:Iq was l=.error e):ahead ds (Fs was (n+1) l)=.error e:=by
 simp only [Fs,h]
 rfl
theorem O8 {most:Int} {l r:List UInt8} {n:Nat} (h:Et most l=.ok (n,r)):r.length+1≤l.length:=by
 have h1:=QG l
 rcases Jt (most:=most) (l:=l) with ⟨e,_⟩|⟨n',z,hn,hz,_,⟨e,_⟩|⟨e,h2,h3⟩⟩
 ·rw [h] at e;cases e
 ·rw [h] at e;cases e
 ·rw [h] at e
  injection e with e
  injection e with e1 e2
  subst e2
  rw [hn] at h1
  have:=h1.2.2 rfl
  simp only [IA] at *
  omega
theorem MX {most:Int} {l x r:List UInt8} (h:Eg most l=.ok (x,r)):(x.length:Int)≤most∧r.length≤l.length:=by
 unfold Eg at h
 split at h
 ·cases h
 ·rename_i n r1 hp
  obtain ⟨_,h1,h2⟩:=Ex hp
  unfold Rv at h
  split at h
  ·cases h
  ·injection h with h
   injection h with e1 e2
   subst e1
   subst e2
   simp only [Fa,IA]
   omega
theorem pE (q t:List UInt8):(!Op.bytesLess t q && !(t==q))=Op.bytesLess q t:=by
 rw [←Bool.not_or,oP,Bool.not_not]
theorem JC:BC prog 23 9 1 16:=BC.mk' (z:=.string ⟨#[]⟩) underlying23 (by kernel_rfl) rfl (by omega)
structure Uo (w:World) (b:Nat) (s l:List UInt8) (v:Value) (ts:List (List UInt8)) (w':World):Prop where
 g:w.grownBy w' (some b)
 r:Gb w' b s l
 own:w'.ownsRow w.heap.size 9 1 v ts.length (ts.map tx)
theorem Uo.read {w w1 w2:World} {b:Nat} {s l l':List UInt8} {v:Value} {ts:List (List UInt8)} (h:Uo w b s l v ts w1) (hb:b<w.heap.size) (hg:w1.grownBy w2 (some b)) (hr:Gb w2 b s l'):Uo w b s l' v ts w2:=
 ⟨h.g.trans hg,hr,h.own.kept hg (by
  rcases ho:v.ownBlock with _|k
  ·exact .inl rfl
  ·refine .inr fun e=>?_
   injection e with e
   have:=(h.own.lt k ho).1
   omega)⟩
theorem Uo.more {w w1 w2:World} {b:Nat} {s l:List UInt8} {v:Value} {ts:List (List UInt8)} (h:Uo w b s l v ts w1) (hb:Aj w1 w2):Uo w b s l v ts w2:=
 ⟨h.g.trans (Di hb _),h.r.Au hb,FB h.own hb⟩
theorem Uo.app {w w1 w2:World} {b:Nat} {s l x:List UInt8} {v v':Value} {ts:List (List UInt8)} (h:Uo w b s l v ts w1) (hb:b<w.heap.size) (ho:w2.ownsRow w.heap.size 9 1 v' (ts.length+1) (ts.map tx++[tx x])) (hg:w1.grownBy w2 v.ownBlock):Uo w b s l v' (ts++[x]) w2:=
 ⟨h.g.andThen hg (fun j e=>.inl (h.own.lt j e).1),h.r.grown hg (fun e=>by have:=(h.own.lt b e.symm).1;omega),by simpa using ho⟩
def Af6 (b:Nat) (s:List UInt8) (o:PR (List (List UInt8))) (w:World) (e:Ending) (w':World):Prop:=
 match o with
 |.error k=>Tj b s k w e w'
 |.ok (ts,l)=>∃ v,e=.returned v∧Uo w b s l v ts w'
theorem XH (b:Nat) (s l:List UInt8) (most:Int) (w:World) (hR:Gb w b s l) (m0:-9223372036854775808≤most) (m1:most≤9223372036854775807) (m2:most≤1000000):
 Calls prog 145 #[.pointer (some ⟨b,0,none⟩),.int .i64 most] w (Af6 b s (tread most l) w):=by
 have hb:=hR.lt
 have hlen:=hR.len
 have HN:=Aa (Gp b s l most w hR m0 m1)
 have HR:=Aa hR
 clear hR
 go_enter func145,ntmps145
 go_wp2_with fail
 cases hp:Et most l with
 |error k=>
  have HE:Hid (tread most l=.error k):=by show _=_;unfold tread;rw [hp]
  rw [hp] at HN
  refine HN.mono ?_;rintro e w1 ⟨rfl,hg,hr⟩
  clear hp
  go_wp2
  refine ⟨rfl,?_⟩
  rw [HE.Ab]
  exact ⟨rfl,hg,hr⟩
 |ok q=>
  obtain ⟨n,r⟩:=q
  have HE:Hid (tread most l=ahead [] (Fs [] n r)):=by show _=_;rw [vW];unfold tread;rw [hp]
  obtain ⟨hq0,hq1,hq2⟩:=Ex hp
  rw [hp] at HN
  refine HN.mono ?_;rintro e w1 ⟨rfl,hg,hr⟩
  have H1:Hid (Uo w b s r (.slice none 0 0) [] w1):=⟨hg,hr,⟨rfl,.inl ⟨rfl,rfl⟩⟩⟩
  clear hp hg hr HN
  go_wp2
  go_loopg [5,6,12] n (fun g s5 s6 i wr=>∃ (k:Nat) (ds:List (List UInt8)) (was lr:List UInt8),g=n - k∧k≤n∧i=.int .i64 k∧s6=.string ⟨was.toArray⟩∧was.length≤16∧Hid (ds.length=k)∧k+lr.length≤140737488351232∧Hid (Uo w b s lr s5 ds wr)∧Hid (tread most l=ahead ds (Fs was (n - k) lr)))
  case atStart=>exact ⟨0,[],[],r,rfl,by omega,rfl,rfl,by simp,rfl,by omega,H1,HE⟩
  case round=>
   obtain ⟨k,ds,was,lr,BG,hk,rfl,rfl,hwas,hdk,hkl,H,hE⟩:=hrel
   have Cg:=Aa BG
   clear BG HE H1
   by_cases hlt:k<n
   ·have HM:=Aa (fun w (hr:Gb w b s lr)=>Gp b s lr (was.length:Int) w hr (by omega) (by omega))
    go_wp2_with fail
    cases hp:Et was.length lr with
    |error e=>
     have HE:Hid (tread most l=.error e):=by show _=_;rw [hE.Ab,show n - k=(n - k - 1)+1 by omega];exact MF (by unfold Iq;rw [hp])
     rw [hp] at HM
     refine (HM _ H.r).mono ?_;rintro e' w2 ⟨rfl,hg2,hr2⟩
     clear hp
     go_wp2_with fail
     refine ⟨rfl,?_⟩
     rw [HE.Ab]
     exact ⟨rfl,H.g.trans hg2,hr2⟩
    |ok q=>
     obtain ⟨m,r1⟩:=q
     obtain ⟨_,hm1,hm2⟩:=Ex hp
     have hm3:=O8 hp
     have Hp:=Aa hp
     rw [hp] at HM
     refine (HM _ H.r).mono ?_;rintro e' w2 ⟨rfl,hg2,hr2⟩
     have H2:=Aa (H.read hb hg2 hr2)
     clear hp hg2 hr2 HM H
     have km:(0:Int)≤m:=by omega
     have kn:(m:Int)≤was.length:=hm1
     go_wp2_with fail
     have HT:=Aa (fun w (hr:Gb w b s r1)=>KQ b s r1 16 w hr (by omega) (by omega))
     cases hx:Eg 16 r1 with
     |error e=>
      have HE:Hid (tread most l=.error e):=by show _=_;rw [hE.Ab,show n - k=(n - k - 1)+1 by omega];exact MF (by unfold Iq;rw [Hp.Ab];show (match Eg 16 r1 with|.error e=>_|.ok (x,r2)=>_)=_;rw [hx])
      rw [hx] at HT
      clear hx
      refine EG (S:=fun _=>True) (by kernel_rfl) ?_ fun hHeld=>?_
      ·(try dsimp only);try trivial
      refine BJ NG ?_
      refine BJ KG ?_
      refine BJ NW ?_
      refine BJ KF ?_
      refine DX (rs:=[4]) (by kernel_rfl) (by simp) ?_
      refine AllReadyH.cons Mr (fun KK Ad=>?_) AllReadyH.nil
      go_simp
      refine (HT _ (H2.more (Aj.refl _).drew).r).mono ?_;rintro e' w3 ⟨rfl,hg3,hr3⟩
      refine ⟨rfl,?_⟩
      rw [HE.Ab]
      exact ⟨rfl,(H2.more (Aj.refl _).drew).g.trans hg3,hr3⟩
     |ok q=>
      obtain ⟨x,r2⟩:=q
      obtain ⟨hx1,hx2⟩:=MX hx
      have Hx:=Aa hx
      rw [hx] at HT
      clear hx
      refine EG (S:=fun _=>True) (by kernel_rfl) ?_ fun hHeld=>?_
      ·(try dsimp only);try trivial
      refine BJ NG ?_
      refine BJ KG ?_
      refine BJ NW ?_
      refine BJ KF ?_
      refine DX (rs:=[4]) (by kernel_rfl) (by simp) ?_
      refine AllReadyH.cons Mr (fun KK Ad=>?_) AllReadyH.nil
      go_simp
      refine (HT _ (H2.more (Aj.refl _).drew).r).mono ?_;rintro e' w3 ⟨rfl,hg3,hr3⟩
      have H3:=Aa ((H2.more (Aj.refl _).drew).read hb hg3 hr3)
      clear hg3 hr3 HT
      refine Ad.out _ _ ?_ fun hHeld=>?_
      ·(try dsimp only);try trivial
      clear Ad KK
      try simp only [Act.put,LP]
      refine DX (rs:=[5]) (by kernel_rfl) (by simp) ?_
      refine AllReadyH.cons Lv (fun KK Ad=>?_) AllReadyH.nil
      go_simp
      try go_wp2_with fail
      refine Ad.out _ _ ?_ fun hHeld=>?_
      ·(try dsimp only);try trivial
      clear Ad KK
      try simp only [Act.put,LP]
      refine DX (rs:=[6]) (by kernel_rfl) (by simp) ?_
      refine AllReadyH.cons Mq (fun KK Ad=>?_) AllReadyH.nil
      go_simp
      try go_wp2_with fail
      refine Ad.out _ _ ?_ fun hHeld=>?_
      ·(try dsimp only);try trivial
      clear Ad KK
      try simp only [Act.put,LP]
      refine BX ?_
      simp only [aS,Cs]
      clear hHeld
      have hzl:(was.take m++x).length≤32:=by simp;omega
      have hzt:isTerm (was.take m++x)=true→(was.take m++x).length≤16:=by unfold isTerm;simp
      have HE:Hid (Iq was lr=if isTerm (was.take m++x) && (alike was (was.take m++x)==m) && Op.bytesLess was (was.take m++x) then .ok (was.take m++x,r2) else .error 3):=by
       show _=_
       unfold Iq
       rw [Hp.Ab]
       show (match Eg 16 r1 with|.error e=>_|.ok (x,r2)=>_)=_
       rw [Hx.Ab]
      generalize was.take m++x=z at *
      have hal:=(Sc was z).1
      have no:Iq was lr=.error 3→tread most l=.error 3:=fun h=>by rw [hE.Ab,show n - k=(n - k - 1)+1 by omega];exact MF h
      have NO:=Aa no
      clear no
      cases hT:isTerm z with
      |false=>
       have HN:=Aa (NO (by rw [HE.Ab,hT];rfl))
       clear NO HE hE
       go_wp2_with fail
       refine (GX z _ (by omega)).mono ?_;rintro e' w4 ⟨rfl,rfl⟩
       rw [hT]
       go_wp2_with fail
       refine (Ip b s r2 3 _ H3.r).mono ?_;rintro e' w4 ⟨rfl,rfl⟩
       go_wp2_with fail
       refine ⟨rfl,?_⟩
       rw [HN.Ab]
       exact ⟨rfl,H3.g,_,H3.r⟩
      |true=>
       have hz16:=hzt hT
       by_cases hA:alike was z=m
       ·cases hL:Op.bytesLess was z with
        |false=>
         have HN:=Aa (NO (by rw [HE.Ab,hT,hA,hL];simp))
         have HA:=Aa hA
         clear NO HE hE hA
         go_wp2_with fail
         refine (GX z _ (by omega)).mono ?_;rintro e' w4 ⟨rfl,rfl⟩
         rw [hT]
         go_wp2_with fail
         refine (Qp was z _ (by omega) (by omega)).mono ?_;rintro e' w4 ⟨rfl,hb4⟩
         rw [HA.Ab]
         have H4:=Aa (H3.more hb4)
         clear hb4 H3
         go_wp2_with fail
         rw [pE,hL]
         refine (Ip b s r2 3 _ H4.r).mono ?_;rintro e' w5 ⟨rfl,rfl⟩
         go_wp2_with fail
         refine ⟨rfl,?_⟩
         rw [HN.Ab]
         exact ⟨rfl,H4.g,_,H4.r⟩
        |true=>
         have HA:=Aa hA
         have HN:Hid (tread most l=ahead (ds++[z]) (Fs z (n - (k+1)) r2)):=by
          show _=_
          rw [hE.Ab,show n - k=(n - (k+1))+1 by omega]
          exact WO (by rw [HE.Ab,hT,hA,hL];simp)
         clear NO HE hE hA
         go_wp2_with fail
         refine (GX z _ (by omega)).mono ?_;rintro e' w4 ⟨rfl,rfl⟩
         rw [hT]
         go_wp2_with fail
         refine (Qp was z _ (by omega) (by omega)).mono ?_;rintro e' w4 ⟨rfl,hb4⟩
         rw [HA.Ab]
         have H4:=Aa (H3.more hb4)
         clear hb4 H3
         go_wp2_with fail
         rw [pE,hL]
         refine (KP b s r2 3 _ H4.r).mono ?_;rintro e' w5 ⟨rfl,rfl⟩
         go_wp2_with ((with_reducible refine OP 44 ?_);refine BI rfl (.tmp 41) (.tmp 43) _ rfl JC w.heap.size ((H4.more ((Aj.refl _).alloc _)).g.size) u5 ds.length _ rfl (H4.more ((Aj.refl _).alloc _)).own _ 1 1 [tx z] rfl (KT _ _ _ 1 1 rfl) (by simp [Value.oneCell']) (by have:=hdk.Ab;unfold maxLen;omega) (by have:=hdk.Ab;omega) ?_;intro v5 w5 hown5 hg5 uQ)
         go_roundg (n - (k+1))
         case rel=>exact ⟨k+1,ds++[z],z,r2,rfl,by omega,by go_num,rfl,hz16,by show _=_;have:=hdk.Ab;simp [this],by omega,(H4.more ((Aj.refl _).alloc _)).app hb hown5 hg5,HN⟩
         case measure=>rw [Cg.Ab];omega
       ·have HN:=Aa (NO (by rw [HE.Ab,hT];simp [hA]))
        have hA2:((alike was z:Int)==(m:Int))=false:=by simp;omega
        have hA3:(alike was z==m)=false:=by simp [hA]
        clear NO HE hE hA
        go_wp2_with fail
        refine (GX z _ (by omega)).mono ?_;rintro e' w4 ⟨rfl,rfl⟩
        rw [hT]
        go_wp2_with fail
        refine (Qp was z _ (by omega) (by omega)).mono ?_;rintro e' w4 ⟨rfl,hb4⟩
        have H4:=Aa (H3.more hb4)
        clear hb4 H3
        go_wp2_with fail
        refine (Ip b s r2 3 _ H4.r).mono ?_;rintro e' w5 ⟨rfl,rfl⟩
        go_wp2_with fail
        refine ⟨rfl,?_⟩
        rw [HN.Ab]
        exact ⟨rfl,H4.g,_,H4.r⟩
   ·have HN:Hid (tread most l=.ok (ds,lr)):=by
     show _=_
     rw [hE.Ab,show n - k=0 by omega]
     simp [Fs,ahead]
    clear hE
    go_wp2
    go_ret
    rw [HN.Ab]
    exact ⟨_,rfl,H.Ab⟩
theorem yU {w:World} {base base':Nat} {e:TypeId} {size n:Nat} {v:Value} {xs:List Value} (h:w.ownsRow base e size v n xs) (hb:base'≤base):w.ownsRow base' e size v n xs:=by
 refine ⟨h.1,?_⟩
 rcases h.2 with h0|⟨g,cap,cur,h1,h2,h3⟩
 ·exact .inl h0
 ·exact .inr ⟨g,cap,cur,h1,Gm hb h2,h3⟩
def Zx {α:Type} (o:PR α):Int:=
 match o with
 |.error k=>k
 |.ok (_,l)=>if l=[] then 0 else 3
theorem XG {most k:Int} {s:List UInt8} (h:tread most s=.error k):k=3∨k=5:=by
 have key:∀ n was l k,Fs was n l=.error k→k=3∨k=5:=by
  intro n
  induction n with
  |zero=>intro was l k h;cases h
  |succ n ih=>
   intro was l k h
   unfold Fs at h
   split at h
   ·rename_i e he
    injection h with h
    subst h
    unfold Iq at he
    split at he
    ·rename_i hp
     injection he with he
     subst he
     exact Fh hp
    ·split at he
     ·rename_i hp
      injection he with he
      subst he
      unfold Eg at hp
      split at hp
      ·rename_i h2
       injection hp with hp
       subst hp
       exact Fh h2
      ·unfold Rv at hp
       split at hp
       ·injection hp with hp;exact .inl hp.symm
       ·cases hp
     ·split at he
      ·cases he
      ·injection he with he;exact .inl he.symm
   ·split at h
    ·rename_i he
     injection h with h
     subst h
     exact ih _ _ _ he
    ·cases h
 unfold tread at h
 split at h
 ·rename_i hp
  injection h with h
  subst h
  exact Fh hp
 ·exact key _ _ _ _ h
theorem XW {n:Nat} (hn:n<18446744073709551616) (t:List UInt8):Lt (CK n++t)=.ok (n,t):=by
 unfold Lt
 rw [kQ hn]
 simp only [ER]
 rw [List.drop_append_of_le_length (by rw [Gx];exact BZ _),EY (by rw [Gx];exact BZ _)]
 rfl
theorem Oj {n:Nat} {most:Int} (hn:n<18446744073709551616) (hm:(n:Int)≤most) (t:List UInt8):Et most (CK n++t)=.ok (n,t):=by
 unfold Et
 rw [XW hn]
 simp only
 rw [Ah (by omega)]
theorem Vx {l:List UInt8} {most:Int} (hl:(l.length:Int)≤most) (h2:l.length<18446744073709551616) (t:List UInt8):Eg most (Cc l++t)=.ok (l,t):=by
 unfold Eg
 have e:Cc l++t=CK l.length++(l++t):=by unfold Cc;rw [Dk]
 rw [e,Oj h2 hl]
 simp only
 unfold Rv
 rw [Ah (by rw [BQ];omega),Da,List.take_left,List.drop_left]
theorem Ef {most:Int} {l r:List UInt8} {n:Nat} (h:Et most l=.ok (n,r)):l=CK n++r:=by
 rcases Jt (most:=most) (l:=l) with ⟨e,_⟩|⟨n',z,hn,hz,_,⟨e,_⟩|⟨e,h2,h3⟩⟩
 ·rw [h] at e;cases e
 ·rw [h] at e;cases e
 ·rw [h] at e
  injection e with e
  injection e with e1 e2
  subst e1
  subst e2
  have:=VM (l:=l) (by rw [hn])
  rw [hn] at this
  rw [←this.1,Ki]
theorem IE {most:Int} {l x r:List UInt8} (h:Eg most l=.ok (x,r)):l=Cc x++r:=by
 unfold Eg at h
 split at h
 ·cases h
 ·rename_i n r1 hp
  unfold Rv at h
  split at h
  ·cases h
  ·rename_i hc
   injection h with h
   injection h with e1 e2
   have:=Ef hp
   rw [this]
   unfold Cc
   rw [←e1,←e2,Da,Fa,PD (by omega),Dk,Ki]
theorem nA (x y:List UInt8):x.take (alike x y)=y.take (alike x y):=by
 induction x generalizing y with
 |nil=>simp [alike]
 |cons a x ih=>
  cases y with
  |nil=>simp [alike]
  |cons b y=>
   rw [alike]
   split
   ·rename_i h
    subst h
    simp [ih y]
   ·rfl
theorem nC (x y:List UInt8):x.take (alike x y)++y.drop (alike x y)=y:=by
 rw [nA,Ki]
theorem aN {was t:List UInt8} (ht:isTerm t=true) (hl:Op.bytesLess was t=true) (hw:was.length≤16) (r:List UInt8):Iq was (CK (alike was t)++Cc (t.drop (alike was t))++r)=.ok (t,r):=by
 have h1:=Sc was t
 have h16:t.length≤16:=by unfold isTerm at ht;simp at ht;omega
 unfold Iq
 rw [Dk,Oj (by omega) (by omega)]
 simp only
 rw [Vx (by simp;omega) (by simp;omega)]
 simp only
 rw [nC,ht,hl]
 simp
theorem YR {ts:List (List UInt8)}:∀ {p:Option (List UInt8)} {was:List UInt8},rowFrom p ts=0→(p=some was∨(p=none∧was=[]))→was.length≤16→∀ r,Fs was ts.length (JM was ts++r)=.ok (ts,r):=by
 induction ts with
 |nil=>intro p was h hp hw r;rfl
 |cons t ts ih=>
  intro p was h hp hw r
  rw [rowFrom] at h
  split at h
  ·rename_i ht
   split at h
   ·cases h
   ·rename_i hn
    have h16:t.length≤16:=by unfold isTerm at ht;simp at ht;omega
    have hl:Op.bytesLess was t=true:=by
     rcases hp with hp|⟨hp,hw0⟩
     ·subst hp
      simpa using hn
     ·subst hw0
      unfold isTerm at ht
      cases t with
      |nil=>simp at ht
      |cons a t=>rfl
    rw [CZ,Fs,JM,Dk,aN ht hl hw]
    simp only
    rw [ih h (.inl rfl) h16]
  ·cases h
theorem aO {was l s r:List UInt8} (h:Iq was l=.ok (s,r)):isTerm s=true∧Op.bytesLess was s=true∧l=(CK (alike was s)++Cc (s.drop (alike was s)))++r:=by
 unfold Iq at h
 split at h
 ·cases h
 ·rename_i k r1 hp
  split at h
  ·cases h
  ·rename_i x r2 hx
   split at h
   ·rename_i hc
    injection h with h
    injection h with e1 e2
    subst e2
    simp only [XD,Sm] at hc
    rw [e1] at hc
    obtain ⟨⟨h1,h2⟩,h3⟩:=hc
    refine ⟨h1,h3,?_⟩
    have hk:k≤was.length:=by have:=(Ex hp).2.1;omega
    have hd:s.drop k=x:=by
     rw [←e1,List.drop_append_of_le_length (by simp;omega),EY (by simp;omega)]
     rfl
    rw [h2,hd,Ef hp,IE hx,Dk]
   ·cases h
theorem TB {n:Nat}:∀ {was l r:List UInt8} {ts:List (List UInt8)} {p:Option (List UInt8)},Fs was n l=.ok (ts,r)→(p=some was∨(p=none∧was=[]))→rowFrom p ts=0∧ts.length=n∧l=JM was ts++r:=by
 induction n with
 |zero=>
  intro was l r ts p h hp
  injection h with h
  injection h with e1 e2
  subst e1
  subst e2
  exact ⟨rfl,rfl,rfl⟩
 |succ n ih=>
  intro was l r ts p h hp
  rw [Fs] at h
  split at h
  ·cases h
  ·rename_i s r1 hs
   split at h
   ·cases h
   ·rename_i us r2 hu
    injection h with h
    injection h with e1 e2
    subst e1
    subst e2
    obtain ⟨a1,a2,a3⟩:=aO hs
    obtain ⟨b1,b2,b3⟩:=ih (p:=some s) hu (.inl rfl)
    refine ⟨?_,by simp [b2],?_⟩
    ·rw [rowFrom,a1]
     simp only [ER]
     rw [Ah]
     ·exact b1
     ·rcases hp with hp|⟨hp,hw⟩
      ·subst hp;simp [a2]
      ·subst hp;simp
    ·rw [JM,a3,b3,Dk,Dk]
     simp only [Dk]
theorem MR {most:Int} {l r:List UInt8} {ts:List (List UInt8)} (h:tread most l=.ok (ts,r)):BH ts=0∧l=MS ts++r:=by
 unfold tread at h
 split at h
 ·cases h
 ·rename_i n r1 hp
  obtain ⟨h1,h2,h3⟩:=TB (p:=none) h (.inr ⟨rfl,rfl⟩)
  refine ⟨h1,?_⟩
  unfold MS
  rw [h2,Ef hp,h3,Dk]
attribute [local go_sem] aS SE Re
theorem take_same {x y:List UInt8} {k:Nat} (h:x.take k=y.take k) (h1:k<x.length) (h2:k<y.length):x.take (k+1)=y.take (k+1)↔x[k]=y[k]:=by
 rw [Oa h1,Oa h2,h]
 constructor
 ·intro e
  have:=List.append_inj_right' e rfl
  simpa using this
 ·intro e
  rw [e]
theorem jS (x y:List UInt8) (w:World) (hx:x.length≤9223372036854775806) (hy:y.length≤9223372036854775806):
 Calls prog 54 #[.string ⟨x.toArray⟩,.string ⟨y.toArray⟩] w fun e w'=>e=.returned (.int .i64 (alike x y:Nat))∧Aj w w':=by
 go_enter func54,ntmps54
 go_wp2
 go_loopg [5] x.length (fun g i wr=>∃ k:Nat,g=x.length - k∧k≤x.length∧k≤y.length∧i=.int .i64 k∧Aj w wr∧Hid (x.take k=y.take k)∧Hid (alike x y=k+alike (x.drop k) (y.drop k)))
 case atStart=>exact ⟨0,rfl,by omega,by omega,rfl,Aj.refl _,by show _=_;simp,by show _=_;simp⟩
 case round=>
  obtain ⟨k,BG,hkx,hky,rfl,hB,hT,hF⟩:=hrel
  have Cg:=Aa BG
  clear BG
  by_cases a1:k<x.length
  ·by_cases a2:k<y.length
   ·have b1:(k:Int)+1≤x.length:=by omega
    have b2:(k:Int)+1≤y.length:=by omega
    have b3:((k:Int)+1).toNat=k+1:=by omega
    have b4:IntKind.i64.wrap ((k:Int)+1)=(k:Int)+1:=Kj _ (by omega)
    by_cases a3:x[k]=y[k]
    ·have HR:Hid (alike x y=(k+1)+alike (x.drop (k+1)) (y.drop (k+1))):=by show _=_;rw [hF.Ab,WN a1 a2 a3];omega
     have HT:Hid (x.take (k+1)=y.take (k+1)):=by show _=_;exact (take_same hT a1 a2).2 a3
     have e4:(x.take (k+1)==y.take (k+1))=true:=by rw [HT.Ab];simp
     clear a3 hF hT
     go_wp2_with fail
     go_quiet (fail)
     go_wp2
     go_roundg (x.length - (k+1))
     case rel=>exact ⟨k+1,rfl,by omega,by omega,by go_num,hB.drewN _,HT,HR⟩
     case measure=>rw [Cg.Ab];omega
    ·have HR:Hid (alike x y=k):=by show _=_;rw [hF.Ab,WM a1 a2 a3];omega
     have e4:(x.take (k+1)==y.take (k+1))=false:=by
      rw [nT]
      exact fun h=>a3 ((take_same hT a1 a2).1 h)
     clear a3 hF hT
     go_wp2_with fail
     go_quiet (fail)
     go_wp2
     go_ret
     rw [HR.Ab]
     exact ⟨rfl,hB.drewN _⟩
   ·have HR:Hid (alike x y=k):=by show _=_;rw [hF.Ab,Po (.inr (by omega))];omega
    have d2:decide ((k:Int)<(y.length:Int))=false:=by simp;omega
    have d3:decide (k<y.length)=false:=by simp;omega
    clear hF hT
    go_wp2_with fail
    go_quiet (fail)
    go_wp2
    go_ret
    rw [HR.Ab]
    exact ⟨rfl,hB.drewN _⟩
  ·have HR:Hid (alike x y=k):=by show _=_;rw [hF.Ab,Po (.inl (by omega))];omega
   have d2:decide ((k:Int)<(x.length:Int))=false:=by simp;omega
   have d3:decide (k<x.length)=false:=by simp;omega
   clear hF hT
   go_wp2_with fail
   go_quiet (fail)
   go_wp2
   go_ret
   rw [HR.Ab]
   exact ⟨rfl,hB.drewN _⟩
theorem XU (A:Option Addr) (n c:Nat) (ts:List (List UInt8)) (w:World) (hr:Rd w 1 A n (ts.map tx)) (hE:BH ts=0) (hn:n≤100000):
 Calls prog 31 #[.slice A n c] w fun e w'=>e=.returned (.string ⟨(MS ts).toArray⟩)∧Aj w w':=by
 have hlen:Hid (ts.length=n):=by have:=hr.len;show _=_;simpa using this
 have HE:=Aa hE
 have hpn:(CK n).length≤9:=Bp _
 clear hE
 go_enter func31,ntmps31
 go_wp2_with fail
 refine (BU _ _ (by omega) (by omega)).mono ?_;rintro e w1 ⟨rfl,hb⟩
 rw [Da]
 have HO:Hid (MS ts=CK n++JM [] (ts.drop 0)):=by show _=_;unfold MS;rw [hlen.Ab];rfl
 go_wp2
 go_loopg [3,4,5] n (fun g o s i wr=>∃ (k:Nat) (l was:List UInt8),g=n - k∧k≤n∧i=.int .i64 k∧o=.string ⟨l.toArray⟩∧s=.string ⟨was.toArray⟩∧was.length≤16∧l.length≤9+34 * k∧Aj w wr∧Hid (MS ts=l++JM was (ts.drop k)))
 case atStart=>exact ⟨0,CK n,[],rfl,by omega,rfl,rfl,rfl,by simp,by omega,hb,HO⟩
 case round=>
  obtain ⟨k,l,was,BG,hk,rfl,rfl,rfl,hwas,hll,hB,hF⟩:=hrel
  have Cg:=Aa BG
  clear BG
  by_cases hlt:k<n
  ·obtain ⟨ad,t,rfl,htk,hc⟩:=(hr.Au hB).tx hlt
   have hl0:t.length≤16:=Gv HE (CE htk)
   have HR:Hid (MS ts=(l++(CK (alike was t)++Cc (t.drop (alike was t))))++JM t (ts.drop (k+1))):=by show _=_;rw [hF.Ab,iW htk];simp only [Dk]
   clear htk hF
   obtain ⟨hal1,hal2⟩:=Sc was t
   have Hc:=Aa hc
   go_wp2_with fail
   refine (jS _ _ _ (by omega) (by omega)).mono ?_;rintro e w2 ⟨rfl,hb2⟩
   replace hB:=hB.trans hb2
   generalize alike was t=m at *
   have hpm:(CK m).length≤9:=Bp _
   have hpt:(Cc (t.drop m)).length≤9+(t.drop m).length:=by unfold Cc;rw [BQ];have:=Bp (t.drop m).length;omega
   rw [IA] at hpt
   have c1:(0:Int)≤(m:Int):=by omega
   have c2:(m:Int)≤(t.length:Int):=by omega
   have hc2:=(hb2.cell (PN _ _ Hc.Ab)).trans Hc.Ab
   have d0:=fun u:Over w2=>Over.cell hc2 u
   clear hc hb2
   go_wp2_with fail
   refine Al ?_
   repeat (go_big_quiet_step (first|(go_at_call 29;exact Be (BU _ _ (by omega) (by omega)))|(go_at_call 30;exact Be (GI _ _ (by simp;omega)))))
   refine CX ?_
   rintro _ ⟨u,rfl⟩
   replace hB:=hB.trans u.Au
   have hc3:=d0 u
   clear d0 hc2
   go_wp2
   go_roundg (n - (k+1))
   case rel=>exact ⟨k+1,_,t,rfl,by omega,by go_num,by simp only [Cs,Dk,Da],rfl,hl0,by simp only [BQ];omega,hB,HR⟩
   case measure=>rw [Cg.Ab];omega
  ·have HR:Hid (MS ts=l):=by show _=_;rw [hF.Ab,EY (by have:=hlen.Ab;omega)];simp [JM]
   clear hF
   go_wp2
   go_ret
   rw [HR.Ab]
   exact ⟨rfl,hB⟩
end Go.Proofs.YtijplolmkcdflaaGreat
namespace Go.Proofs.YtijplolmkcdflaaGreat
open Tryz
open Go.RowKit
theorem qN (ts:List (List UInt8)):∀ was,(∀ t ∈ ts,t.length≤16)→(JM was ts).length≤34 * ts.length:=by
 induction ts with
 |nil=>intro was h;simp [JM]
 |cons t r ih=>
  intro was h
  have h1:=ih t (fun u hu=>h u (EO _ hu))
  have h2:=h t (Dr ..)
  have h3:=Bp (alike was t)
  have h4:=Bp (t.drop (alike was t)).length
  rw [JM]
  unfold Cc
  simp only [BQ,CZ] at *
  have h5:(t.drop (alike was t)).length≤16:=by rw [IA];omega
  omega
theorem aP {ts:List (List UInt8)} (h:BH ts=0):(MS ts).length≤9+34 * ts.length:=by
 unfold MS
 rw [BQ]
 have:=Bp ts.length
 have:=qN ts [] (fun t ht=>Gv h ht)
 omega
def wX (k:Int) (is:Bool) (n:Int):Int:=if k≠0 then k else if is then 0 else GH n
def pW (s l0:List UInt8) (most:Int) (n k:Nat) (ds:List (List UInt8)) (was:List UInt8) (t kk:Int):Prop:=
 (kk=0∧was.length≤16∧∃ tn:Nat,t=tn∧tn≤s.length∧k+(s.drop tn).length≤140737488351232∧tread most l0=ahead ds (Fs was (n - k) (s.drop tn)))∨(kk≠0∧tread most l0=.error kk)
theorem pW.good {s l0:List UInt8} {most:Int} {n k:Nat} {ds:List (List UInt8)} {was:List UInt8} {t:Int} (h:pW s l0 most n k ds was t 0):was.length≤16∧∃ tn:Nat,t=tn∧tn≤s.length∧k+(s.drop tn).length≤140737488351232∧tread most l0=ahead ds (Fs was (n - k) (s.drop tn)):=by
 rcases h with ⟨_,h⟩|⟨h,_⟩
 ·exact h
 ·exact absurd rfl h
def TxtR (s was:List UInt8) (t:Nat) (m:Nat) (t' k':Int) (x:List UInt8):Prop:=
 (k'≠0∧Iq was (s.drop t)=.error k')∨(k'=0∧∃ tn:Nat,t'=tn∧tn≤s.length∧t<tn∧Iq was (s.drop t)=if isTerm (was.take m++x) && (alike was (was.take m++x)==m) && Op.bytesLess was (was.take m++x) then .ok (was.take m++x,s.drop tn) else .error 3)
theorem pW.step {s l0:List UInt8} {most:Int} {n k:Nat} {ds:List (List UInt8)} {was:List UInt8} {t:Nat} {m:Nat} {t2 k2:Int} {x:List UInt8} {B:Bool} (hk:k<n) (ht:t≤s.length) (hl:k+(s.drop t).length≤140737488351232) (hE:tread most l0=ahead ds (Fs was (n - k) (s.drop t)))
 (hT:TxtR s was t m t2 k2 x) (hB:B=(isTerm (was.take m++x) && (alike was (was.take m++x)==m) && Op.bytesLess was (was.take m++x))):
 pW s l0 most n (k+1) (ds++[was.take m++x]) (was.take m++x) t2 (wX k2 B 3):=by
 have hn:n - k=(n - (k+1))+1:=by omega
 rw [hn] at hE
 rcases hT with ⟨h1,h2⟩|⟨rfl,tn,rfl,h1,h2,h3⟩
 ·have:wX k2 B 3=k2:=by unfold wX;rw [Ak h1]
  rw [this]
  exact .inr ⟨h1,by rw [hE];exact MF h2⟩
 ·rw [←hB] at h3
  cases B with
  |false=>exact .inr ⟨by decide,by rw [hE];exact MF h3⟩
  |true=>
   refine .inl ⟨rfl,?_,tn,rfl,h1,?_,?_⟩
   ·have hz:=hB.symm
    simp only [XD] at hz
    have:=hz.1.1
    unfold isTerm at this
    simp at this
    simp
    omega
   ·simp only [IA] at *
    omega
   ·rw [hE]
    exact WO h3
structure RdW (w:World) (s:List UInt8) (t kk:Int) (v:Value) (ds:List (List UInt8)) (wr:World):Prop where
 Au:Aj w wr
 A:Br wr w.heap.size 141 (scs s t kk)
 R:Br wr (w.heap.size+1) 141 (scs [] 0 0)
 own:wr.ownsRow (w.heap.size+2) 9 1 v ds.length (ds.map tx)
section
variable {w w1 w2 : World} {s : List UInt8} {t kk : Int} {v : Value} {ds : List (List UInt8)}
theorem RdW.more (h:RdW w s t kk v ds w1) (hb:Aj w1 w2):RdW w s t kk v ds w2:=⟨h.Au.trans hb,h.A.Au hb,h.R.Au hb,FB h.own hb⟩
theorem RdW.app {v':Value} {x:List UInt8} (h:RdW w s t kk v ds w1) (ho:w2.ownsRow (w.heap.size+2) 9 1 v' (ds.length+1) (ds.map tx++[tx x])) (hg:w1.grownBy w2 v.ownBlock):RdW w s t kk v' (ds++[x]) w2:=
 ⟨h.Au.grown hg (fun k e=>by have:=(h.own.lt k e).1;omega),h.A.grown hg (fun e=>by have:=(h.own.lt _ e.symm).1;omega),h.R.grown hg (fun e=>by have:=(h.own.lt _ e.symm).1;omega),by simpa using ho⟩
end
theorem KC {w:World} {base:Nat} {e:TypeId} {size n:Nat} {v:Value} {xs:List Value} (h:w.ownsRow base e size v n xs) {g:Nat} (hg:g<base):v.ownBlock=none∨v.ownBlock≠some g:=by
 rcases ho:v.ownBlock with _|k
 ·exact .inl rfl
 ·refine .inr fun e=>?_
  injection e with e
  have:=(h.lt k ho).1
  omega
def Li {α:Type} (s:List UInt8) (o:PR α) (t k:Int) (x:α):Prop:=
 (k≠0∧o=.error k)∨(k=0∧∃ tn:Nat,t=tn∧tn≤s.length∧o=.ok (x,s.drop tn))
def Aa8 {α β:Type} (o:PR α) (f:α→β):PR β:=match o with|.error e=>.error e|.ok (x,r)=>.ok (f x,r)
theorem Li.start (s:List UInt8) (tn:Nat) (h:tn≤s.length):Li s (.ok ((),s.drop tn)) tn 0 ():=.inr ⟨rfl,tn,rfl,h,rfl⟩
theorem Li.map {α β:Type} {s:List UInt8} {o:PR α} {t k:Int} {x:α} (h:Li s o t k x) (f:α→β):Li s (Aa8 o f) t k (f x):=by
 rcases h with ⟨h1,h2⟩|⟨h1,tn,h3,h4,h2⟩
 ·exact .inl ⟨h1,by rw [h2];(try rfl)⟩
 ·exact .inr ⟨h1,tn,h3,h4,by rw [h2];(try rfl)⟩
theorem Ol {most k:Int} {l:List UInt8} (h:Eg most l=.error k):k=3∨k=5:=by
 unfold Eg at h
 split at h
 ·rename_i h2
  injection h with h
  subst h
  exact Fh h2
 ·exact .inl (cZ h).1
end Go.Proofs.YtijplolmkcdflaaGreat
namespace Go.Proofs.YtijplolmkcdflaaGreat
open Tryz
open Go.RowKit Go.ChangeShapes Go.WideShapes Go.Deep
def ZY (P:Prop) (w:World) (e:Ending) (w':World):Prop:=∃ b:Bool,e=.returned (.bool b)∧(b=true→P)∧Aj w w'
structure Row.rd {α:Type} [Ar α] (w:World) (x:Row α):Prop where
 r:Rd w (Ar.size α) x.A x.n (x.l.flatMap Ar.cells)
 all:∀ a ∈ x.l,Ar.ok w a
 n63:x.n≤9223372036854775807
section
variable {α : Type} [Ar α] {w w' : World} {x : Row α}
theorem Row.ok.Vw (h:x.ok w):x.rd w:=⟨h.rd,h.all,h.size⟩
theorem Row.rd.mono (h:x.rd w) (hb:Aj w w'):x.rd w':=⟨h.r.Au hb,fun a ha=>Ar.mono hb (h.all a ha),h.n63⟩
theorem Row.rd.len (h:x.rd w):x.l.length=x.n:=FO h.r
theorem Row.rd.texts {w:World} {x:Row (List UInt8)} (h:x.rd w):Rd w 1 x.A x.n (x.l.map tx):=by have:=h.r;rwa [FQ] at this
theorem Row.rd.ints {w:World} {x:Row Int} (h:x.rd w):Rd w 1 x.A x.n (x.l.map (Value.int .i64)):=by have:=h.r;rwa [EX] at this
theorem Row.rd.aL {w:World} {x:Row (List UInt8)} (h:x.rd w):TxOk x.l:=fun t ht=>Gm (h.all t ht) (by omega)
theorem Row.Ou {α:Type} [Ar α] (w:World):(Row.mk none 0 0 ([]:List α)).rd w:=⟨Rd.nil,(fun a ha=>by cases ha),by show (0:Nat)≤_;omega⟩
end
structure Bg where
 nm:List UInt8
 ts:Row (List UInt8)
 up:Row Int
abbrev Bg.cs (t:Bg):Array Value:=#[.string ⟨t.nm.toArray⟩,.slice t.ts.A t.ts.n t.ts.c,.slice t.up.A t.up.n t.up.c]
structure Bg.rd (w:World) (t:Bg):Prop where
 nm:t.nm.length≤140737488351232
 ts:t.ts.rd w
 up:t.up.rd w
theorem Bg.rd.mono {w w':World} {t:Bg} (h:t.rd w) (hb:Aj w w'):t.rd w':=⟨h.nm,h.ts.mono hb,h.up.mono hb⟩
instance Ab1:Ar Bg where
 size:=3
 bytes:=64
 cells t:=t.cs.toList
 ok w t:=t.rd w
 len _:=rfl
 pos:=by omega
 mono hb h:=h.mono hb
theorem OL (t:Bg):t.cs.all (·.oneCell')=true:=by simp [Value.oneCell']
structure Dm where
 nm:List UInt8
 tr:Row Bg
abbrev Dm.cs (d:Dm):Array Value:=#[.string ⟨d.nm.toArray⟩,.slice d.tr.A d.tr.n d.tr.c]
structure Dm.rd (w:World) (d:Dm):Prop where
 nm:d.nm.length≤140737488351232
 tr:d.tr.rd w
theorem Dm.rd.mono {w w':World} {d:Dm} (h:d.rd w) (hb:Aj w w'):d.rd w':=⟨h.nm,h.tr.mono hb⟩
instance Ad5:Ar Dm where
 size:=2
 bytes:=40
 cells d:=d.cs.toList
 ok w d:=d.rd w
 len _:=rfl
 pos:=by omega
 mono hb h:=h.mono hb
theorem Zy (d:Dm):d.cs.all (·.oneCell')=true:=by simp [Value.oneCell']
theorem Es:DV prog 75 3:=⟨⟨_,underlying75,rfl⟩,by kernel_rfl⟩
theorem Dl:DV prog 73 2:=⟨⟨_,underlying73,rfl⟩,by kernel_rfl⟩
theorem NM:BC prog 71 75 3 64:=BC.mk' (z:=.agg #[.string ⟨#[]⟩,.slice none 0 0,.slice none 0 0]) underlying71 (by kernel_rfl) rfl (by omega)
theorem iB:BC prog 22 73 2 40:=BC.mk' (z:=.agg #[.string ⟨#[]⟩,.slice none 0 0]) underlying22 (by kernel_rfl) rfl (by omega)
theorem Lf:BC prog 47 3 1 8:=BC.mk' (z:=.int .i64 0) underlying47 (by kernel_rfl) rfl (by omega)
theorem fO:prog.cellsOf 9=1:=by kernel_rfl
theorem pG:prog.cellsOf 3=1:=by kernel_rfl
theorem ZE:prog.cellsOf 23=1:=by kernel_rfl
theorem Ac5:prog.cellsOf 47=1:=by kernel_rfl
theorem Aa3:prog.cellsOf 75=3:=by kernel_rfl
theorem Ac4:prog.cellsOf 71=1:=by kernel_rfl
theorem c_dm:prog.cellsOf 73=2:=by kernel_rfl
theorem Af2:prog.cellsOf 22=1:=by kernel_rfl
theorem Nc:JW prog 23 (Row (List UInt8)):=Jv underlying23 fO (by kernel_rfl) (KY underlying9)
theorem kK:JW prog 47 (Row Int):=Jv underlying47 pG (by kernel_rfl) (Mf underlying3)
theorem sN:JW prog 75 Bg:=by
 intro H enc w base spare held fuel cs x h hz
 have hl:=Jr underlying75 h Aa3
 obtain ⟨a,ha,wa⟩:=Ei underlying75 h hz 0 _ rfl (KY underlying9) fO
 obtain ⟨b,hb,wb⟩:=Ei underlying75 h hz 1 _ rfl Nc ZE
 obtain ⟨c,hc,wc⟩:=Ei underlying75 h hz 2 _ rfl kK Ac5
 refine ⟨⟨a,b,c⟩,?_,⟨wa,Row.ok.Vw wb,Row.ok.Vw wc⟩⟩
 match cs,hl with
 |[x0,x1,x2],_=>
  simp [Ar.cells,Row.v] at ha hb hc
  simp [Ar.cells,ha,hb,hc]
theorem kJ:JW prog 71 (Row Bg):=Jv underlying71 Aa3 (by kernel_rfl) sN
theorem zD:JW prog 73 Dm:=by
 intro H enc w base spare held fuel cs x h hz
 have hl:=Jr underlying73 h c_dm
 obtain ⟨a,ha,wa⟩:=Ei underlying73 h hz 0 _ rfl (KY underlying9) fO
 obtain ⟨b,hb,wb⟩:=Ei underlying73 h hz 1 _ rfl kJ Ac4
 refine ⟨⟨a,b⟩,?_,⟨wa,Row.ok.Vw wb⟩⟩
 match cs,hl with
 |[x0,x1],_=>
  simp [Ar.cells,Row.v] at ha hb
  simp [Ar.cells,ha,hb]
theorem sS:JW prog 22 (Row Dm):=Jv underlying22 c_dm (by kernel_rfl) zD
theorem Row.rd.FE {w:World} {x:Row (List UInt8)} (h:x.rd w) {k:Nat} (hk:k<x.n):∃ b o t,x.A=some ⟨b,o,none⟩∧x.l[k]?=some t∧t.length≤140737488351232∧w.cell? ⟨b,o+k,none⟩=some (.string ⟨t.toArray⟩):=by
 obtain ⟨b,o,t,e,ht,hc⟩:=OO rfl h.r hk
 exact ⟨b,o,t,e,ht,h.all t (CE ht),hc _ rfl⟩
theorem Row.rd.PZ {w:World} {x:Row Int} (h:x.rd w) {k:Nat} (hk:k<x.n):∃ b o z,x.A=some ⟨b,o,none⟩∧x.l[k]?=some z∧AP z∧w.cell? ⟨b,o+k,none⟩=some (.int .i64 z):=by
 obtain ⟨b,o,z,e,hz,hc⟩:=OO rfl h.r hk
 exact ⟨b,o,z,e,hz,h.all z (CE hz),hc _ rfl⟩
theorem Row.rd.JN {w:World} {x:Row Bg} (h:x.rd w) {k:Nat} (hk:k<x.n):∃ b o t,x.A=some ⟨b,o,none⟩∧b<w.heap.size∧x.l[k]?=some t∧t.rd w∧w.rangeAt b (o+k * 3) t.cs.toList:=by
 obtain ⟨b,o,t,e,hb,ht,hc⟩:=Md h.r hk
 exact ⟨b,o,t,e,hb,ht,h.all t (CE ht),hc⟩
theorem Row.rd.Ta {w:World} {x:Row Dm} (h:x.rd w) {k:Nat} (hk:k<x.n):∃ b o t,x.A=some ⟨b,o,none⟩∧b<w.heap.size∧x.l[k]?=some t∧t.rd w∧w.rangeAt b (o+k * 2) t.cs.toList:=by
 obtain ⟨b,o,t,e,hb,ht,hc⟩:=Md h.r hk
 exact ⟨b,o,t,e,hb,ht,h.all t (CE ht),hc⟩
end Go.Proofs.YtijplolmkcdflaaGreat
namespace Go.Proofs.YtijplolmkcdflaaGreat
open Tryz
open Go.RowKit
structure TC where
 nm:List UInt8
 ts:List (List UInt8)
 up:List Int
deriving DecidableEq
def CG (up:List Int) (members:Nat) (above:Int):Bool:=
 if above≤0 then up.isEmpty
 else decide (up.length=members) && up.all (fun n=>decide (0≤n∧n<above)) && (List.range above.toNat).all (fun i=>up.contains (i:Int))
def Az (t:TC) (above:Int):Int:=
 if Cy t.nm then (if t.ts.length<1∨200<t.ts.length then 5 else if BH t.ts≠0 then BH t.ts else if CG t.up t.ts.length above then 0 else 14) else 2
def JL (up:List Int):List UInt8:=up.flatMap fun n=>CK n.toNat
def CR (t:TC):List UInt8:=Cc t.nm++MS t.ts++JL t.up
def Jl (most:Int):Nat→List UInt8→PR (List Int)
 |0,l=>.ok ([],l)
 |n+1,l=>
  match Et most l with
  |.error k=>.error k
  |.ok (x,r)=>
   match Jl most n r with
   |.error k=>.error k
   |.ok (xs,r)=>.ok ((x:Int)::xs,r)
def Rq (above:Int) (n:Nat) (l:List UInt8):PR (List Int):=if 0<above then Jl (above - 1) n l else .ok ([],l)
def KV (above:Int) (t:TC) (r:List UInt8):PR TC:=if Az t above=0 then .ok (t,r) else .error (Az t above)
def EJ (above:Int) (l:List UInt8):PR TC:=
 match Eg 12 l with
 |.error k=>.error k
 |.ok (nm,r)=>
  match tread 200 r with
  |.error k=>.error k
  |.ok (ts,r)=>
   match Rq above ts.length r with
   |.error k=>.error k
   |.ok (up,r)=>KV above ⟨nm,ts,up⟩ r
theorem Xi (ts:List (List UInt8)):∀ p,rowFrom p ts=0∨rowFrom p ts=2∨rowFrom p ts=4:=by
 induction ts with
 |nil=>intro p;exact .inl rfl
 |cons t r ih=>
  intro p
  rw [rowFrom]
  split
  ·split
   ·exact .inr (.inr rfl)
   ·exact ih _
  ·exact .inr (.inl rfl)
theorem LQ (t:TC) (above:Int):Az t above=0∨Az t above=2∨Az t above=4∨Az t above=5∨Az t above=14:=by
 unfold Az
 have:=Xi t.ts none
 unfold BH
 (repeat' split)<;>omega
theorem Du {t:TC} {above:Int} (h:Az t above=0):Cy t.nm=true∧1≤t.ts.length∧t.ts.length≤200∧BH t.ts=0∧CG t.up t.ts.length above=true:=by
 unfold Az at h
 split at h
 ·rename_i h1
  split at h
  ·cases h
  ·rename_i h2
   split at h
   ·rename_i h3;exact absurd h h3
   ·rename_i h3
    split at h
    ·rename_i h4
     exact ⟨h1,by omega,by omega,by omega,h4⟩
    ·cases h
 ·cases h
theorem DW {l:List UInt8} (h:Cy l=true):1≤l.length∧l.length≤12:=by
 unfold Cy at h
 simp at h
 exact h.1
theorem MQ {up:List Int} {m:Nat} {above:Int} (h:above≤0):CG up m above=up.isEmpty:=by unfold CG;rw [Ak h]
theorem Sz {up:List Int} {m:Nat} {above:Int} (h:0<above) (ht:CG up m above=true):up.length=m∧(∀ n ∈ up,0≤n∧n<above)∧∀ i:Nat,(i:Int)<above→(i:Int) ∈ up:=by
 unfold CG at ht
 rw [Ah (by omega)] at ht
 simp only [XD,Tx,Oe] at ht
 obtain ⟨⟨h1,h2⟩,h3⟩:=ht
 refine ⟨h1,fun n hn=>by simpa using h2 n hn,fun i hi=>?_⟩
 have:=h3 i (by simp;omega)
 simpa using this
theorem rU {above:Int}:∀ {up:List Int},(∀ n ∈ up,0≤n∧n<above)→above≤9223372036854775807→∀ r,Jl (above - 1) up.length (JL up++r)=.ok (up,r):=by
 intro up
 induction up with
 |nil=>intro h ha r;rfl
 |cons n up ih=>
  intro h ha r
  have hn:=h n (Dr ..)
  have e:JL (n::up)++r=CK n.toNat++(JL up++r):=by unfold JL;rw [CY,Dk]
  rw [CZ,Jl,e,Oj (by omega) (by omega)]
  simp only
  rw [ih (fun x hx=>h x (EO _ hx)) ha]
  simp only
  rw [show ((n.toNat:Nat):Int)=n by omega]
theorem jY {most:Int}:∀ {n:Nat} {l r:List UInt8} {up:List Int},Jl most n l=.ok (up,r)→up.length=n∧l=JL up++r∧∀ x ∈ up,0≤x∧x≤most:=by
 intro n
 induction n with
 |zero=>
  intro l r up h
  injection h with h
  injection h with h1 h2
  subst h1
  subst h2
  exact ⟨rfl,rfl,fun x hx=>by cases hx⟩
 |succ n ih=>
  intro l r up h
  rw [Jl] at h
  split at h
  ·cases h
  ·rename_i x r1 hp
   split at h
   ·cases h
   ·rename_i xs r2 hs
    injection h with h
    injection h with h1 h2
    subst h1
    subst h2
    obtain ⟨a1,a2,a3⟩:=ih hs
    refine ⟨by simp [a1],?_,fun y hy=>?_⟩
    ·rw [Ef hp,a2]
     unfold JL
     rw [CY,Dk]
     rfl
    ·rcases En.1 hy with rfl|hy
     ·have:=Ex hp
      omega
     ·exact a3 y hy
theorem rV {most:Int}:∀ {n:Nat} {l:List UInt8} {k:Int},Jl most n l=.error k→k=3∨k=5:=by
 intro n
 induction n with
 |zero=>intro l k h;cases h
 |succ n ih=>
  intro l k h
  rw [Jl] at h
  split at h
  ·rename_i hp
   injection h with h
   subst h
   exact Fh hp
  ·split at h
   ·rename_i hs
    injection h with h
    subst h
    exact ih hs
   ·cases h
theorem iV {ts:List (List UInt8)} {most:Int} (h:BH ts=0) (hn:(ts.length:Int)≤most) (hb:ts.length≤100000) (r:List UInt8):tread most (MS ts++r)=.ok (ts,r):=by
 unfold tread MS
 rw [Dk,Oj (by omega) hn]
 simp only
 exact YR (ts:=ts) (p:=none) (was:=[]) h (.inr ⟨rfl,rfl⟩) (by simp) r
theorem rO {t:TC} {above:Int} (ha:above≤9223372036854775807) (h:Az t above=0) (r:List UInt8):EJ above (CR t++r)=.ok (t,r):=by
 obtain ⟨h1,h2,h3,h4,h5⟩:=Du h
 have hl:=DW h1
 have e:CR t++r=Cc t.nm++(MS t.ts++(JL t.up++r)):=by unfold CR;simp only [Dk]
 unfold EJ
 rw [e,Vx (by omega) (by omega)]
 simp only
 rw [iV h4 (by omega) (by omega)]
 simp only
 have hu:Rq above t.ts.length (JL t.up++r)=.ok (t.up,r):=by
  unfold Rq
  by_cases h0:0<above
  ·rw [Ak h0]
   obtain ⟨a1,a2,_⟩:=Sz h0 h5
   rw [←a1]
   exact rU a2 ha r
  ·rw [Ah h0]
   rw [MQ (by omega)] at h5
   have:t.up=[]:=by simpa using h5
   rw [this]
   rfl
 rw [hu]
 simp only
 unfold KV
 rw [Ak h]
theorem jW {above:Int} {l r:List UInt8} {t:TC} (h:EJ above l=.ok (t,r)):Az t above=0∧l=CR t++r:=by
 unfold EJ at h
 split at h
 ·cases h
 ·rename_i nm r1 h1
  split at h
  ·cases h
  ·rename_i ts r2 h2
   split at h
   ·cases h
   ·rename_i up r3 h3
    unfold KV at h
    split at h
    ·rename_i h4
     injection h with h
     injection h with h5 h6
     subst h5
     subst h6
     refine ⟨h4,?_⟩
     have hu:r2=JL up++r3:=by
      unfold Rq at h3
      split at h3
      ·exact (jY h3).2.1
      ·injection h3 with h3
       injection h3 with h7 h8
       subst h7
       subst h8
       rfl
     unfold CR
     rw [IE h1,(MR h2).2,hu]
     simp only [Dk]
    ·cases h
theorem Ot:∀ {xs ys:List Nat},xs.Nodup→(∀ x ∈ xs,x ∈ ys)→xs.length≤ys.length
 |[],_,_,_=>by simp
 |x::xs,ys,hd,hs=>by
  obtain ⟨hx,hd'⟩:=Su.1 hd
  have hm:=hs x (Dr ..)
  have h1:=Ot (xs:=xs) (ys:=ys.erase x) hd' (fun y hy=>(List.mem_erase_of_ne (a:=y) (b:=x) (by intro e;rw [e] at hy;exact hx hy)).2 (hs y (EO _ hy)))
  rw [List.length_erase_of_mem hm] at h1
  have:=List.length_pos_of_mem hm
  rw [CZ]
  omega
theorem ZM {xs:List Nat} {m:Nat} (h:∀ x ∈ xs,x<m) (hd:xs.Nodup):xs.length=m↔∀ i,i<m→i ∈ xs:=by
 constructor
 ·intro hl i hi
  by_cases hm:i ∈ xs
  ·exact hm
  ·exfalso
   have h1:(i::xs).Nodup:=Su.2 ⟨hm,hd⟩
   have h2:=Ot (ys:=List.range m) h1 (by
    intro y hy
    rcases En.1 hy with rfl|hy
    ·exact MP.2 hi
    ·exact MP.2 (h y hy))
   simp at h2
   omega
 ·intro hc
  have a:=Ot (ys:=List.range m) hd (fun y hy=>MP.2 (h y hy))
  have b:=Ot (xs:=List.range m) (ys:=xs) List.nodup_range (fun y hy=>hc y (MP.1 hy))
  simp at a b
  omega
def QT (acc:List Int) (x:Int):List Int:=if acc.contains x then acc else acc++[x]
theorem nE (xs:List Int):∀ acc:List Int,(xs.map (Lit.int .i64)).foldl Maps.addKey (acc.map (Lit.int .i64))=(xs.foldl QT acc).map (Lit.int .i64):=by
 induction xs with
 |nil=>intro acc;rfl
 |cons x xs ih=>
  intro acc
  rw [DI,Sr,Sr,←ih]
  congr 1
  unfold Maps.addKey QT
  have e:((acc.map (Lit.int .i64)).any fun y=>y.sameKey (Lit.int .i64 x))=acc.contains x:=by
   rw [List.any_map,List.contains_eq_any_beq]
   congr 1
   funext y
   simp only [Function.comp,Lit.sameKey]
   by_cases h:y=x<;>simp [h]
   exact fun e=>h e.symm
  rw [e]
  split
  ·rfl
  ·simp
theorem G6 (xs:List Int):∀ (acc:List Int) (y:Int),y ∈ xs.foldl QT acc↔y ∈ acc∨y ∈ xs:=by
 induction xs with
 |nil=>intro acc y;simp
 |cons x xs ih=>
  intro acc y
  rw [Sr,ih]
  unfold QT
  split
  ·rename_i h
   have hx:x ∈ acc:=by simpa using h
   simp only [En]
   constructor
   ·rintro (h|h)
    ·exact .inl h
    ·exact .inr (.inr h)
   ·rintro (h|h|h)
    ·exact .inl h
    ·subst h;exact .inl hx
    ·exact .inr h
  ·simp only [DT,Dt,En,or_assoc,List.not_mem_nil,or_false]
theorem nG (xs:List Int):∀ acc:List Int,acc.Nodup→(xs.foldl QT acc).Nodup:=by
 induction xs with
 |nil=>intro acc h;exact h
 |cons x xs ih=>
  intro acc h
  rw [Sr]
  apply ih
  unfold QT
  split
  ·exact h
  ·rename_i hx
   have hx':x ∉ acc:=by simpa using hx
   rw [List.nodup_append]
   exact ⟨h,by simp,fun a ha b hb=>by simp at hb;subst hb;exact fun e=>hx' (e ▸ ha)⟩
theorem WT {xs:List Int} {above:Int} (h0:0<above) (h:∀ x ∈ xs,0≤x∧x<above):decide (((xs.foldl QT []).length:Int)=above)=(List.range above.toNat).all (fun i=>xs.contains (i:Int)):=by
 have hm:∀ y,y ∈ xs.foldl QT []↔y ∈ xs:=fun y=>by rw [G6];simp
 have hd:=nG xs [] List.nodup_nil
 have hn:((xs.foldl QT []).map Int.toNat).Nodup:=by
  rw [List.Nodup,List.pairwise_map]
  refine List.Pairwise.imp_of_mem (fun {a b} ha hb hne e=>hne ?_) hd
  have h1:=h a ((hm a).1 ha)
  have h2:=h b ((hm b).1 hb)
  omega
 have hc:=ZM (xs:=(xs.foldl QT []).map Int.toNat) (m:=above.toNat) (by
  intro x hx
  obtain ⟨y,hy,rfl⟩:=GZ.1 hx
  have:=h y ((hm y).1 hy)
  omega) hn
 rw [Cq] at hc
 rw [YM]
 simp only [Tx,Oe,MP]
 constructor
 ·intro hl i hi
  have:=hc.1 (by omega) i hi
  obtain ⟨y,hy,hyi⟩:=GZ.1 this
  have h1:=h y ((hm y).1 hy)
  have:(i:Int)=y:=by omega
  rw [this]
  simpa using (hm y).1 hy
 ·intro ha
  have:=hc.2 (fun i hi=>by
   have h1:(i:Int) ∈ xs:=by simpa using ha i hi
   exact GZ.2 ⟨(i:Int),(hm _).2 h1,by omega⟩)
  omega
abbrev Ko:DataW Unit:=.lit (.int .i64 1)
def RF (xs:List Int):List Lit:=xs.map (Lit.int .i64)
theorem tQ (xs:List Int):∀ x ∈ RF xs,WideAt.IsKeyLit x:=by
 intro x hx
 obtain ⟨y,_,rfl⟩:=GZ.1 hx
 trivial
theorem qX (xs:List Int):Maps.size (Maps.setOf Ko (RF xs))=(xs.foldl QT []).length:=by
 rw [Maps.size_setOf _ _ (tQ xs)]
 have:=nE xs []
 rw [EF] at this
 unfold RF
 rw [this,Cq]
theorem qI {z:Int} (h:AP z):(Lit.int .i64 z).wf=true:=by
 unfold AP at h
 simp [Lit.wf,IntKind.min,IntKind.max,IntKind.signed,IntKind.bits]
 omega
theorem iZ {up:List Int} {k:Nat} {z:Int} (h:up[k]?=some z):RF (up.take (k+1))=RF (up.take k)++[.int .i64 z]:=by
 obtain ⟨hk,rfl⟩:=Ca.1 h
 unfold RF
 rw [Oa hk,BR]
 rfl
theorem Rd.zT {w:World} {A:Option Addr} {n k:Nat} {zs:List Int} (h:Rd w 1 A n (zs.map (Value.int .i64))) (hk:k<n):∃ ad z,A=some ad∧zs[k]?=some z∧w.cell? (ad.add k)=some (.int .i64 z):=by
 obtain ⟨ad,u,e,_,hx,hc⟩:=Reads.at_ h hk
 rw [DD] at hx
 cases hz:zs[k]? with
 |none=>rw [hz] at hx;cases hx
 |some z=>
  rw [hz] at hx
  simp at hx
  subst hx
  exact ⟨ad,z,e,rfl,hc⟩
theorem xE (A:Option Addr) (n c:Nat) (up:List Int) (m:Nat) (above:Int) (w:World) (hr:Rd w 1 A n (up.map (Value.int .i64))) (hI:∀ z ∈ up,AP z) (hn:n≤100000) (hm:m≤9223372036854775807) (ha:AP above):
 Calls prog 194 #[.slice A n c,.int .i64 m,.int .i64 above] w fun e w'=>e=.returned (.bool (CG up m above))∧Aj w w':=by
 have hlen:Hid (up.length=n):=by have:=hr.len;show _=_;simpa using this
 obtain ⟨a0,a1⟩:=ha
 by_cases h0:above≤0
 ·have HT:Hid (CG up m above=decide (n=0)):=by
   show _=_
   rw [MQ h0,←hlen.Ab]
   cases up<;>simp
  go_enter func194,ntmps194
  go_wp2
  go_ret
  rw [HT.Ab]
  refine ⟨Vv ?_,Aj.refl _⟩
  by_cases h:n=0<;>simp [h]
 ·have h0':0<above:=by omega
  have d0:decide (above≤0)=false:=by simp;omega
  by_cases hl:n=m
  ·subst hl
   have HT:Hid (CG up n above=(up.all (fun n=>decide (0≤n∧n<above)) && (List.range above.toNat).all (fun i=>up.contains (i:Int)))):=by
    show _=_
    unfold CG
    rw [Ah h0,hlen.Ab]
    simp
   have hmm:=@run_makeMap prog
   have hHI:=Aa hI
   have hHr:=Aa hr
   clear hI
   go_enter func194,ntmps194
   go_wp2_with fail
   have M0:Hid ((w.alloc (.map #[] 0)).ownsMap prog 3 (plainElem prog 3) w.heap.size 0 (Maps.setOf Ko (RF (up.take 0)))):=World.ownsMap_made _ _ _ _
   have B0:Hid (Aj w (w.alloc (.map #[] 0))):=(Aj.refl w).alloc _
   have A0:Hid (∀ z ∈ up.take 0,0≤z∧z<above):=by show ∀ z ∈ up.take 0,_;simp
   go_loopg [22] n (fun gg i wr=>∃ k:Nat,gg=n - k∧k≤n∧i=.int .i64 k∧Hid (wr.ownsMap prog 3 (plainElem (H:=Unit) prog 3) w.heap.size k (Maps.setOf Ko (RF (up.take k))))∧Hid (Aj w wr)∧Hid (∀ z ∈ up.take k,0≤z∧z<above))
   case atStart=>exact ⟨0,rfl,by omega,rfl,M0,B0,A0⟩
   case round=>
    clear M0 B0 A0
    obtain ⟨k,BG,hk,rfl,hM,hB,hA⟩:=hrel
    have Cg:=Aa BG
    clear BG
    by_cases hlt:k<n
    ·obtain ⟨ad,z,rfl,hz,hc⟩:=Rd.zT (hHr.Au hB.Ab) hlt
     obtain ⟨z0,z1⟩:=hHI z (CE hz)
     have Hz:=Aa hz
     have hzm:=Aa (CE hz)
     clear hz
     by_cases hz0:0≤z
     ·by_cases hz1:z<above
      ·have HA2:Hid (∀ y ∈ up.take (k+1),0≤y∧y<above):=by
        show ∀ y ∈ up.take (k+1),_
        obtain ⟨hk',rfl⟩:=Ca.1 Hz.Ab
        rw [Oa hk']
        intro y hy
        rcases DT.1 hy with hy|hy
        ·exact hA y hy
        ·simp at hy;subst hy;exact ⟨hz0,hz1⟩
       go_wp2_with ((with_reducible show wpList _ _ _ (⟨_,.mapUpdate _ _ _ _,_,_,_,_⟩::_) _ _);refine UT _ rfl (.tmp 33) (.tmp 34) _ 290 rfl 3 3 (Maps.int_keyed underlying3) underlying290 _ w.heap.size k _ rfl hM (by unfold maxLen;omega) _ _ (.int .i64 z) rfl rfl (Maps.keyOf_int_mk underlying3 (qI ⟨z0,z1⟩)) Ko [] (UG underlying3 (qI (by unfold AP;omega))) ?_;intro w1 hown1 hgrow1)
       go_roundg (n - (k+1))
       case rel=>exact ⟨k+1,rfl,by omega,by go_num,by show World.ownsMap _ _ _ _ _ _ _;rw [iZ Hz.Ab,Maps.setOf_snoc];exact hown1,hB.Lu hgrow1 (BZ _),HA2⟩
       case measure=>rw [Cg.Ab];omega
      ·have HF:Hid (CG up n above=false):=by
        show _=_
        rw [HT.Ab,Bool.and_eq_false_iff]
        left
        rw [←Bool.not_eq_true,Oe]
        intro h
        have:=h z hzm.Ab
        simp at this
        omega
       go_wp2
       go_ret
       rw [HF.Ab]
       exact ⟨rfl,hB.Ab⟩
     ·have HF:Hid (CG up n above=false):=by
       show _=_
       rw [HT.Ab,Bool.and_eq_false_iff]
       left
       rw [←Bool.not_eq_true,Oe]
       intro h
       have:=h z hzm.Ab
       simp at this
       omega
      go_wp2
      go_ret
      rw [HF.Ab]
      exact ⟨rfl,hB.Ab⟩
    ·have hkn:Hid (up.take k=up):=by show _=_;exact DY (by have:=hlen.Ab;omega)
     rw [hkn.Ab] at hM hA
     have HF:Hid (CG up n above=decide (((Maps.size (Maps.setOf Ko (RF up)):Nat):Int)=above)):=by
      show _=_
      rw [HT.Ab,qX,WT h0' hA.Ab]
      have:(up.all fun n=>decide (0≤n∧n<above))=true:=by rw [Oe];intro y hy;simpa using hA y hy
      rw [this,iH]
     go_wp2_with ((with_reducible refine OP 37 ?_);refine wpList_len_own _ rfl (.tmp 36) 290 rfl 3 3 underlying290 _ w.heap.size k _ rfl hM.Ab ?_)
     go_ret
     rw [HF.Ab]
     refine ⟨Vv ?_,hB.Ab⟩
     rw [YM];simp
  ·have HF:Hid (CG up m above=false):=by
    show _=_
    unfold CG
    rw [Ah h0,hlen.Ab]
    simp [hl]
   go_enter func194,ntmps194
   go_wp2
   go_ret
   rw [HF.Ab]
   exact ⟨rfl,Aj.refl _⟩
abbrev Bg.Ac (t:Bg):TC:=⟨t.nm,t.ts.l,t.up.l⟩
theorem TD (t:Bg) (above:Int) (w:World) (ht:t.rd w) (hn:t.up.n≤100000) (ha:AP above):
 Calls prog 173 #[.agg t.cs,.int .i64 above] w fun e w'=>e=.returned (.int .i64 (Az t.Ac above))∧Aj w w':=by
 have hW:=(Aj.refl w).alloc (.cells t.cs 75)
 have h1:=ht.mono hW
 obtain ⟨hnm,hts,hup⟩:=ht
 have htl:Hid (t.ts.l.length=t.ts.n):=hts.len
 have hn63:=hts.n63
 obtain ⟨nm,⟨A,n,c,ts⟩,⟨A2,n2,c2,up⟩⟩:=t
 simp only [Bg.cs,Bg.Ac] at *
 have HR:=Aa h1.ts.texts
 have HX:=Aa h1.ts.aL
 have HU:=Aa h1.up.ints
 have HUI:=Aa h1.up.all
 have HW:=Aa hW
 clear hW h1 hts hup
 cases hN:Cy nm with
 |false=>
  have HE:Hid (Az ⟨nm,ts,up⟩ above=2):=by show _=_;unfold Az;simp [hN]
  go_enter func173,ntmps173
  go_wp2_with fail
  refine (JR nm _ (by omega)).mono ?_;rintro e w1 ⟨rfl,rfl⟩
  rw [hN,show Mx false=2 from rfl]
  go_wp2
  go_ret
  rw [HE.Ab]
  exact ⟨rfl,HW.Ab⟩
 |true=>
  by_cases hl:1≤n∧n≤200
  ·obtain ⟨hl1,hl2⟩:=hl
   have d1:decide ((n:Int)<1)=false:=by simp;omega
   have d2:decide ((200:Int)<n)=false:=by simp;omega
   by_cases hE:BH ts=0
   ·have HE:Hid (Az ⟨nm,ts,up⟩ above=if CG up n above then 0 else 14):=by
     show _=_
     unfold Az
     simp only [hN,ER]
     rw [Ah (by have:=htl.Ab;omega),Ah (by omega),htl.Ab]
    have Kw:=Aa hE
    clear hE
    go_enter func173,ntmps173
    go_wp2_with fail
    refine (JR nm _ (by omega)).mono ?_;rintro e w1 ⟨rfl,rfl⟩
    rw [hN,show Mx true=0 from rfl]
    go_wp2_with fail
    refine (Vf A n c ts _ HR HX (by omega)).mono ?_;rintro e w1 ⟨rfl,rfl⟩
    rw [Kw.Ab]
    go_wp2_with fail
    refine (xE A2 n2 c2 up n above _ HU HUI hn (by omega) ha).mono ?_;rintro e w1 ⟨rfl,hb1⟩
    cases hT:CG up n above with
    |false=>
     rw [hT] at HE
     go_wp2
     go_ret
     rw [HE.Ab]
     exact ⟨rfl,HW.trans hb1⟩
    |true=>
     rw [hT] at HE
     go_wp2
     go_ret
     rw [HE.Ab]
     exact ⟨rfl,HW.trans hb1⟩
   ·have HE:Hid (Az ⟨nm,ts,up⟩ above=BH ts):=by
     show _=_
     unfold Az
     simp only [hN,ER]
     rw [Ah (by have:=htl.Ab;omega),Ak hE]
    have dE:(BH ts !=0)=true:=by simpa using hE
    have dE2:(BH ts==0)=false:=by simpa using hE
    clear hE
    go_enter func173,ntmps173
    go_wp2_with fail
    refine (JR nm _ (by omega)).mono ?_;rintro e w1 ⟨rfl,rfl⟩
    rw [hN,show Mx true=0 from rfl]
    go_wp2_with fail
    refine (Vf A n c ts _ HR HX (by omega)).mono ?_;rintro e w1 ⟨rfl,rfl⟩
    go_wp2
    go_ret
    rw [HE.Ab]
    exact ⟨rfl,HW.Ab⟩
  ·have HE:Hid (Az ⟨nm,ts,up⟩ above=5):=by
    show _=_
    unfold Az
    simp only [hN,ER]
    rw [Ak (by have:=htl.Ab;omega)]
   rcases (show n<1∨(1≤n∧200<n) by omega) with h|⟨h,h'⟩
   all_goals
    first|(have d1:decide ((n:Int)<1)=true:=by simp;omega)|(have d1:decide ((n:Int)<1)=false:=by simp;omega)
    first|(have d2:decide ((200:Int)<n)=true:=by simp;omega)|(have d2:decide ((200:Int)<n)=false:=by simp;omega)
    clear hl
    go_enter func173,ntmps173
    go_wp2_with fail
    refine (JR nm _ (by omega)).mono ?_;rintro e w1 ⟨rfl,rfl⟩
    rw [hN,show Mx true=0 from rfl]
    go_wp2
    go_ret
    rw [HE.Ab]
    exact ⟨rfl,HW.Ab⟩
theorem O1 (A:Option Addr) (n c:Nat) (up:List Int) (x:Int) (w:World) (hr:Rd w 1 A n (up.map (Value.int .i64))) (hn:n≤9223372036854775806):
 Calls prog 169 #[.slice A n c,.int .i64 x] w fun e w'=>e=.returned (.bool (up.contains x))∧w=w':=by
 have hlen:Hid (up.length=n):=by have:=hr.len;show _=_;simpa using this
 have HF0:Hid (up.contains x=(up.drop 0).contains x):=rfl
 go_enter func169,ntmps169
 go_wp2
 go_loopg [9] n (fun gg i wr=>∃ k:Nat,gg=n - k∧k≤n∧i=.int .i64 k∧wr=w∧Hid (up.contains x=(up.drop k).contains x))
 case atStart=>exact ⟨0,rfl,by omega,rfl,rfl,HF0⟩
 case round=>
  clear HF0
  obtain ⟨k,BG,hk,rfl,rfl,hF⟩:=hrel
  have Cg:=Aa BG
  clear BG
  by_cases hlt:k<n
  ·obtain ⟨ad,z,rfl,hz,hc⟩:=Rd.zT hr hlt
   have hd:up.drop k=z::up.drop (k+1):=by
    obtain ⟨hk',rfl⟩:=Ca.1 hz
    exact DZ hk'
   by_cases hzx:z=x
   ·have HN:Hid (up.contains x=true):=by show _=_;rw [hF.Ab,hd,hzx];simp
    have e1:(z==x)=true:=by simp [hzx]
    clear hF hd hz hzx
    go_wp2
    go_ret
    rw [HN.Ab]
    exact ⟨rfl,rfl⟩
   ·have HN:Hid (up.contains x=(up.drop (k+1)).contains x):=by
     show _=_
     rw [hF.Ab,hd,List.contains_cons]
     have:(x==z)=false:=by simp;exact fun e=>hzx e.symm
     rw [this,Bool.false_or]
    have e1:(z==x)=false:=by simp [hzx]
    clear hF hd hz hzx
    go_wp2
    go_roundg (n - (k+1))
    case rel=>exact ⟨k+1,rfl,by omega,by go_num,rfl,HN⟩
    case measure=>rw [Cg.Ab];omega
  ·have HN:Hid (up.contains x=false):=by show _=_;rw [hF.Ab,EY (by have:=hlen.Ab;omega)];rfl
   clear hF
   go_wp2
   go_ret
   rw [HN.Ab]
   exact ⟨rfl,rfl⟩
theorem G7 (xs:List Int):∀ acc:List Int,(xs.foldl QT acc).length≤acc.length+xs.length:=by
 induction xs with
 |nil=>intro acc;simp
 |cons x xs ih=>
  intro acc
  rw [Sr]
  have h1:=ih (QT acc x)
  have h2:(QT acc x).length≤acc.length+1:=by unfold QT;split<;>simp
  simp only [CZ]
  omega
theorem vU {up:List Int} {above:Int} {k:Nat} {z:Int} (hz:up[k]?=some z):(up.drop k).all (fun n=>decide (0≤n∧n<above))=(decide (0≤z∧z<above) && (up.drop (k+1)).all (fun n=>decide (0≤n∧n<above))):=by
 obtain ⟨hk',rfl⟩:=Ca.1 hz
 rw [DZ hk',List.all_cons]
theorem rA (t:Bg) (above:Int) (w:World) (ht:t.rd w) (hn:t.ts.n≤200) (ha:AP above):
 Calls prog 128 #[.agg t.cs,.int .i64 above] w fun e w'=>e=.returned (.bool (CG t.up.l t.ts.n above))∧Aj w w':=by
 have hW:=(Aj.refl w).alloc (.cells t.cs 75)
 have h1:=ht.mono hW
 obtain ⟨hnm,hts,hup⟩:=ht
 have htl:Hid (t.ts.l.length=t.ts.n):=hts.len
 have iE:Hid (t.up.l.length=t.up.n):=hup.len
 have hn63:=hts.n63
 have hu63:=hup.n63
 obtain ⟨nm,⟨A,n,c,ts⟩,⟨A2,n2,c2,up⟩⟩:=t
 simp only [Bg.cs,Bg.Ac] at *
 have HR:=Aa h1.ts.texts
 have HX:=Aa h1.ts.aL
 have HU:=Aa h1.up.ints
 have HUI:=Aa h1.up.all
 have HW:=Aa hW
 clear hW h1 hts hup
 obtain ⟨a0,a1⟩:=ha
 have hBK:=Br.new w 75 #[.string ⟨nm.toArray⟩,.slice A n c,.slice A2 n2 c2]
 by_cases h0:above≤0
 ·have HT:Hid (CG up n above=decide (n2=0)):=by
   show _=_
   rw [MQ h0,←iE.Ab]
   cases up<;>simp
  go_enter func128,ntmps128
  go_wp2
  go_ret
  rw [HT.Ab]
  refine ⟨Vv ?_,HW.Ab⟩
  by_cases h:n2=0<;>simp [h]
 ·have d0:decide (above≤0)=false:=by simp;omega
  by_cases hl:n2=n
  ·subst hl
   by_cases h200:200<above
   ·have d2:decide ((200:Int)<above)=true:=by simp;omega
    have HF:Hid (CG up n2 above=false):=by
     show _=_
     rw [←Bool.not_eq_true]
     intro hT
     obtain ⟨b1,b2,b3⟩:=Sz (by omega) hT
     have:=(WT (xs:=up) (above:=above) (by omega) b2)
     have h4:(List.range above.toNat).all (fun i=>up.contains (i:Int))=true:=by
      rw [Oe]
      intro i hi
      have:=b3 i (by have:=MP.1 hi;omega)
      simpa using this
     rw [h4] at this
     simp only [Tx] at this
     have h5:=G7 up []
     simp at h5
     omega
    go_enter func128,ntmps128
    go_wp2
    go_ret
    rw [HF.Ab]
    exact ⟨rfl,HW.Ab⟩
   ·have d2:decide ((200:Int)<above)=false:=by simp;omega
    have HT:Hid (CG up n2 above=((up.drop 0).all (fun n=>decide (0≤n∧n<above)) && (List.range above.toNat).all (fun i=>up.contains (i:Int)))):=by
     show _=_
     unfold CG
     rw [Ah h0,iE.Ab]
     simp
    go_enter func128,ntmps128
    go_wp2_with fail
    have hzz:w.heap.size<(w.alloc (.cells #[.string ⟨nm.toArray⟩,.slice A n2 c,.slice A2 n2 c2] 75)).heap.size:=by simp
    have cu:=hBK.cell 2
    simp only [Ra,FW,PM] at cu
    generalize w.alloc (.cells #[.string ⟨nm.toArray⟩,.slice A n2 c,.slice A2 n2 c2] 75)=W at *
    clear hBK
    go_loopg [28] n2 (fun gg i wr=>∃ k:Nat,gg=n2 - k∧k≤n2∧i=.int .i64 k∧wr=W∧Hid (CG up n2 above=((up.drop k).all (fun n=>decide (0≤n∧n<above)) && (List.range above.toNat).all (fun i=>up.contains (i:Int)))))
    case atStart=>exact ⟨0,rfl,by omega,rfl,rfl,HT⟩
    case round=>
     clear HT
     obtain ⟨k,BG,hk,rfl,rfl,hF⟩:=hrel
     have Cg:=Aa BG
     clear BG
     by_cases hlt:k<n2
     ·obtain ⟨ad,z,rfl,hz,hc⟩:=Rd.zT HU hlt
      obtain ⟨z0,z1⟩:=HUI z (CE hz)
      have HS:=Aa (vU (above:=above) hz)
      clear hz
      by_cases hz0:0≤z
      ·by_cases hz1:z<above
       ·have HN:Hid (CG up n2 above=((up.drop (k+1)).all (fun n=>decide (0≤n∧n<above)) && (List.range above.toNat).all (fun i=>up.contains (i:Int)))):=by
         show _=_
         rw [hF.Ab,HS.Ab]
         simp [hz0,hz1]
        clear hF HS
        go_wp2
        go_roundg (n2 - (k+1))
        case rel=>exact ⟨k+1,rfl,by omega,by go_num,rfl,HN⟩
        case measure=>rw [Cg.Ab];omega
       ·have HN:Hid (CG up n2 above=false):=by show _=_;rw [hF.Ab,HS.Ab];simp [hz1]
        clear hF HS
        go_wp2
        go_ret
        rw [HN.Ab]
        exact ⟨rfl,HW.Ab⟩
      ·have HN:Hid (CG up n2 above=false):=by show _=_;rw [hF.Ab,HS.Ab];simp [hz0]
       clear hF HS
       go_wp2
       go_ret
       rw [HN.Ab]
       exact ⟨rfl,HW.Ab⟩
     ·have HN:Hid (CG up n2 above=(List.range' 0 (above.toNat - 0)).all (fun i=>up.contains (i:Int))):=by
       show _=_
       rw [hF.Ab,EY (by have:=iE.Ab;omega),List.range_eq_range']
       simp
      clear hF
      go_wp2_with fail
      go_loopg [7] above.toNat (fun gg i wx=>∃ k:Nat,gg=above.toNat - k∧(k:Int)≤above∧i=.int .i64 k∧wx=wr∧Hid (CG up n2 above=(List.range' k (above.toNat - k)).all (fun i=>up.contains (i:Int))))
      case atStart=>exact ⟨0,rfl,by omega,rfl,rfl,HN⟩
      case round=>
       clear HN
       obtain ⟨j,hgj,hj,rfl,rfl,hF⟩:=hrel
       have Kv:=Aa hgj
       clear hgj
       by_cases hjl:(j:Int)<above
       ·have HS:Hid ((List.range' j (above.toNat - j)).all (fun i=>up.contains (i:Int))=(up.contains (j:Int) && (List.range' (j+1) (above.toNat - (j+1))).all (fun i=>up.contains (i:Int)))):=by
         show _=_
         rw [show above.toNat - j=(above.toNat - (j+1))+1 by omega,List.range'_succ,List.all_cons]
        go_wp2_with fail
        refine (O1 A2 n2 c2 up j _ HU (by omega)).mono ?_;rintro e w1 ⟨rfl,rfl⟩
        cases hC:up.contains (j:Int) with
        |false=>
         have HN:Hid (CG up n2 above=false):=by show _=_;rw [hF.Ab,HS.Ab,hC];rfl
         clear hF HS hC
         go_wp2
         go_ret
         rw [HN.Ab]
         exact ⟨rfl,HW.Ab⟩
        |true=>
         have HN:Hid (CG up n2 above=(List.range' (j+1) (above.toNat - (j+1))).all (fun i=>up.contains (i:Int))):=by show _=_;rw [hF.Ab,HS.Ab,hC];rfl
         clear hF HS hC
         go_wp2
         go_roundg (above.toNat - (j+1))
         case rel=>exact ⟨j+1,rfl,by omega,by go_num,rfl,HN⟩
         case measure=>rw [Kv.Ab];omega
       ·have HN:Hid (CG up n2 above=true):=by show _=_;rw [hF.Ab,show above.toNat - j=0 by omega];rfl
        clear hF
        go_wp2
        go_ret
        rw [HN.Ab]
        exact ⟨rfl,HW.Ab⟩
  ·have HF:Hid (CG up n above=false):=by
    show _=_
    unfold CG
    rw [Ah h0,iE.Ab]
    simp [hl]
   have dl:((n2:Int) !=(n:Int))=true:=by simp;omega
   have dl2:((n2:Int)==(n:Int))=false:=by simp;omega
   go_enter func128,ntmps128
   go_wp2
   go_ret
   rw [HF.Ab]
   exact ⟨rfl,HW.Ab⟩
theorem aM (t:Bg) (above:Int) (w:World) (ht:t.rd w) (ha:AP above):
 Calls prog 83 #[.agg t.cs,.int .i64 above] w fun e w'=>e=.returned (.int .i64 (Az t.Ac above))∧Aj w w':=by
 have wH:=Aa (fun (hl:t.ts.n≤200) w' (hb:Aj w w')=>rA t above w' (ht.mono hb) hl ha)
 have hW:=(Aj.refl w).alloc (.cells t.cs 75)
 have h1:=ht.mono hW
 obtain ⟨hnm,hts,hup⟩:=ht
 have htl:Hid (t.ts.l.length=t.ts.n):=hts.len
 have iE:Hid (t.up.l.length=t.up.n):=hup.len
 have hn63:=hts.n63
 obtain ⟨nm,⟨A,n,c,ts⟩,⟨A2,n2,c2,up⟩⟩:=t
 simp only [Bg.cs,Bg.Ac] at *
 have HR:=Aa h1.ts.texts
 have HX:=Aa h1.ts.aL
 have HU:=Aa h1.up.ints
 have HUI:=Aa h1.up.all
 have HW:=Aa hW
 clear hW h1 hts hup
 cases hN:Cy nm with
 |false=>
  have HE:Hid (Az ⟨nm,ts,up⟩ above=2):=by show _=_;unfold Az;simp [hN]
  go_enter func83,ntmps83
  go_wp2_with fail
  refine (IC nm _ (by omega)).mono ?_;rintro e w1 ⟨rfl,rfl⟩
  rw [hN]
  go_wp2
  go_ret
  rw [HE.Ab]
  exact ⟨rfl,HW.Ab⟩
 |true=>
  by_cases hl:1≤n∧n≤200
  ·obtain ⟨hl1,hl2⟩:=hl
   have d1:decide ((n:Int)<1)=false:=by simp;omega
   have d2:decide ((200:Int)<n)=false:=by simp;omega
   have W9:=Aa (wH hl2)
   clear wH
   by_cases hE:BH ts=0
   ·have HE:Hid (Az ⟨nm,ts,up⟩ above=if CG up n above then 0 else 14):=by
     show _=_
     unfold Az
     simp only [hN,ER]
     rw [Ah (by have:=htl.Ab;omega),Ah (by omega),htl.Ab]
    have Kw:=Aa hE
    clear hE
    go_enter func83,ntmps83
    go_wp2_with fail
    refine (IC nm _ (by omega)).mono ?_;rintro e w1 ⟨rfl,rfl⟩
    rw [hN]
    go_wp2_with fail
    refine (SG A n c ts _ HR HX (by omega)).mono ?_;rintro e w1 ⟨rfl,hb1⟩
    rw [Kw.Ab]
    have q1:=((Br.new w 75 #[.string ⟨nm.toArray⟩,.slice A n c,.slice A2 n2 c2]).Au hb1)
    have HB1:=Aa (HW.trans hb1)
    clear hb1
    go_wp2_with ((with_reducible refine OP 26 ?_);refine Er rfl Es (.tmp 2) rfl w.heap.size rfl q1 rfl ?_)
    refine (W9 _ HB1.Ab).mono ?_;rintro e w2 ⟨rfl,hb2⟩
    cases hT:CG up n above with
    |false=>
     rw [hT] at HE
     go_wp2
     go_ret
     rw [HE.Ab]
     exact ⟨rfl,HB1.trans hb2⟩
    |true=>
     rw [hT] at HE
     go_wp2
     go_ret
     rw [HE.Ab]
     exact ⟨rfl,HB1.trans hb2⟩
   ·have HE:Hid (Az ⟨nm,ts,up⟩ above=BH ts):=by
     show _=_
     unfold Az
     simp only [hN,ER]
     rw [Ah (by have:=htl.Ab;omega),Ak hE]
    have dE:(BH ts !=0)=true:=by simpa using hE
    have dE2:(BH ts==0)=false:=by simpa using hE
    clear hE
    go_enter func83,ntmps83
    go_wp2_with fail
    refine (IC nm _ (by omega)).mono ?_;rintro e w1 ⟨rfl,rfl⟩
    rw [hN]
    go_wp2_with fail
    refine (SG A n c ts _ HR HX (by omega)).mono ?_;rintro e w1 ⟨rfl,hb1⟩
    go_wp2
    go_ret
    rw [HE.Ab]
    exact ⟨rfl,HW.trans hb1⟩
  ·have HE:Hid (Az ⟨nm,ts,up⟩ above=5):=by
    show _=_
    unfold Az
    simp only [hN,ER]
    rw [Ak (by have:=htl.Ab;omega)]
   rcases (show n<1∨(1≤n∧200<n) by omega) with h|⟨h,h'⟩
   all_goals
    first|(have d1:decide ((n:Int)<1)=true:=by simp;omega)|(have d1:decide ((n:Int)<1)=false:=by simp;omega)
    first|(have d2:decide ((200:Int)<n)=true:=by simp;omega)|(have d2:decide ((200:Int)<n)=false:=by simp;omega)
    clear hl
    go_enter func83,ntmps83
    go_wp2_with fail
    refine (IC nm _ (by omega)).mono ?_;rintro e w1 ⟨rfl,rfl⟩
    rw [hN]
    go_wp2
    go_ret
    rw [HE.Ab]
    exact ⟨rfl,HW.Ab⟩
theorem Qo {t:TC} {above:Int} (h:Az t above=0):t.up.length≤200:=by
 obtain ⟨_,_,h3,_,h5⟩:=Du h
 by_cases h0:0<above
 ·have:=(Sz h0 h5).1
  omega
 ·rw [MQ (by omega)] at h5
  have:t.up=[]:=by simpa using h5
  rw [this]
  simp
theorem jL (t:Bg) (above:Int) (w:World) (ht:t.rd w) (hE:Az t.Ac above=0):
 Calls prog 55 #[.agg t.cs] w fun e w'=>e=.returned (.string ⟨(CR t.Ac).toArray⟩)∧Aj w w':=by
 have hW:=(Aj.refl w).alloc (.cells t.cs 75)
 have h1:=ht.mono hW
 obtain ⟨hnm,hts,hup⟩:=ht
 have htl:Hid (t.ts.l.length=t.ts.n):=hts.len
 have iE:Hid (t.up.l.length=t.up.n):=hup.len
 have hn63:=hts.n63
 have hu63:=hup.n63
 obtain ⟨nm,⟨A,n,c,ts⟩,⟨A2,n2,c2,up⟩⟩:=t
 simp only [Bg.cs,Bg.Ac] at *
 have HR:=Aa h1.ts.texts
 have HX:=Aa h1.ts.aL
 have HU:=Aa h1.up.ints
 have HUI:=Aa h1.up.all
 have HW:=Aa hW
 clear hW h1 hts hup
 obtain ⟨e1,e2,e3,e4,_⟩:=Du hE
 have e5:=Qo hE
 have e6:=DW e1
 have e7:=aP e4
 simp only at e1 e2 e3 e4 e5 e6 e7
 have hp:(Cc nm).length≤21:=by unfold Cc;rw [BQ];have:=Bp nm.length;omega
 have HO:Hid (CR ⟨nm,ts,up⟩=(Cc nm++MS ts)++JL (up.drop 0)):=by show _=_;unfold CR;simp
 have hl2:n≤200:=by have:=htl.Ab;omega
 have hl3:n2≤200:=by have:=iE.Ab;omega
 have htl2:(MS ts).length≤6809:=by omega
 have HE4:=Aa e4
 clear hE e1 e2 e3 e4 e5 e7
 have q0:=Br.new w 75 #[.string ⟨nm.toArray⟩,.slice A n c,.slice A2 n2 c2]
 obtain ⟨g0,g1,g2,_,_,_⟩:=q0.three
 go_enter func55,ntmps55
 go_wp2_with fail
 have d0:=fun u:Over (w.alloc (.cells #[.string ⟨nm.toArray⟩,.slice A n c,.slice A2 n2 c2] 75))=>Over.cell g0 u
 have d1:=fun u:Over (w.alloc (.cells #[.string ⟨nm.toArray⟩,.slice A n c,.slice A2 n2 c2] 75))=>Over.cell g1 u
 refine Al ?_
 repeat (go_big_quiet_step (first|(go_at_call 30;exact Be (GI nm _ (by omega)))|(go_at_call 31;rename_i u;exact Be (XU A n c ts _ (HR.Au u.Au) HE4 (by omega)))))
 refine CX ?_
 rintro _ ⟨u,rfl⟩
 clear d0 d1 g0 g1 g2
 have q3:=q0.Au u.Au
 obtain ⟨f0,f1,f2',_,_,_⟩:=q3.three
 have HWB:=Aa (HW.trans u.Au)
 have V9:=Aa (HU.Au u.Au)
 have hzz:=q3.lt
 generalize u.wd=w3 at *
 clear q0 q3
 go_wp2_with fail
 clear f0 f1 f2'
 go_loopg [3,16] n2 (fun gg o i wr=>∃ (k:Nat) (l:List UInt8),gg=n2 - k∧k≤n2∧i=.int .i64 k∧o=.string ⟨l.toArray⟩∧l.length≤7000+9 * k∧Hid (Aj w wr)∧Hid (Aj w3 wr)∧Hid (CR ⟨nm,ts,up⟩=l++JL (up.drop k)))
 case atStart=>exact ⟨0,_,rfl,by omega,rfl,by simp only [Cs],by simp only [BQ];omega,HWB,Aj.refl _,HO⟩
 case round=>
  clear HO HWB
  obtain ⟨k,l,BG,hk,rfl,rfl,hl,hB,hB2,hO⟩:=hrel
  have Cg:=Aa BG
  clear BG
  by_cases hlt:k<n2
  ·obtain ⟨ad,z,rfl,hz,hc⟩:=Rd.zT (V9.Au hB2.Ab) hlt
   obtain ⟨z0,z1⟩:=HUI z (CE hz)
   have HN:Hid (CR ⟨nm,ts,up⟩=(l++CK z.toNat)++JL (up.drop (k+1))):=by
    show _=_
    obtain ⟨hk',rfl⟩:=Ca.1 hz
    rw [hO.Ab,DZ hk']
    unfold JL
    rw [CY,Dk]
   have hl9:=Bp z.toNat
   clear hz hO
   go_wp2_with fail
   refine (BU z _ z0 z1).mono ?_;rintro e w5 ⟨rfl,hb5⟩
   go_wp2
   go_roundg (n2 - (k+1))
   case rel=>exact ⟨k+1,l++CK z.toNat,rfl,by omega,by go_num,by simp only [Cs],by simp only [BQ];omega,hB.trans hb5,hB2.trans hb5,HN⟩
   case measure=>rw [Cg.Ab];omega
  ·have HN:Hid (CR ⟨nm,ts,up⟩=l):=by
    show _=_
    rw [hO.Ab,EY (by have:=iE.Ab;omega)]
    simp [JL]
   clear hO
   go_wp2
   go_ret
   rw [HN.Ab]
   exact ⟨rfl,hB.Ab⟩
theorem qM (t:Bg) (w:World) (ht:t.rd w):
 Calls prog 48 #[.agg t.cs] w fun e w'=>∃ b:Bool,e=.returned (.bool b)∧(b=true→t.ts.n≤220∧t.up.n≤220)∧Aj w w':=by
 have hW:=(Aj.refl w).alloc (.cells t.cs 75)
 have h1:=ht.mono hW
 obtain ⟨hnm,hts,hup⟩:=ht
 have htl:Hid (t.ts.l.length=t.ts.n):=hts.len
 have iE:Hid (t.up.l.length=t.up.n):=hup.len
 have hn63:=hts.n63
 have hu63:=hup.n63
 obtain ⟨nm,⟨A,n,c,ts⟩,⟨A2,n2,c2,up⟩⟩:=t
 simp only [Bg.cs,Bg.Ac] at *
 have HR:=Aa h1.ts.texts
 have HX:=Aa h1.ts.aL
 have HU:=Aa h1.up.ints
 have HUI:=Aa h1.up.all
 have HW:=Aa hW
 clear hW h1 hts hup
 have q0:=Br.new w 75 #[.string ⟨nm.toArray⟩,.slice A n c,.slice A2 n2 c2]
 obtain ⟨g0,g1,g2,_,_,_⟩:=q0.three
 have m0:(0:Int)≤min (nm.length:Int) 5000∧min (nm.length:Int) 5000≤5000:=by omega
 obtain ⟨m,hm⟩:∃ m:Nat,min (nm.length:Int) 5000=(m:Int):=⟨(min (nm.length:Int) 5000).toNat,by omega⟩
 go_enter func48,ntmps48
 go_wp2_with fail
 generalize w.alloc (.cells #[.string ⟨nm.toArray⟩,.slice A n c,.slice A2 n2 c2] 75)=W at *
 have hm5:m≤5000:=by omega
 have hz:=q0.lt
 clear q0 m0 hm
 go_loopg [3,4] 222 (fun gg s3 i wr=>∃ k x:Nat,gg=222 - k∧k≤221∧k≤n∧i=.int .i64 k∧s3=.int .i64 x∧x≤5000 * (k+1)∧wr=W)
 case atStart=>exact ⟨0,m,rfl,by omega,by omega,rfl,rfl,by omega,rfl⟩
 case round=>
  obtain ⟨k,x,BG,hk,hkn,rfl,rfl,hx,rfl⟩:=hrel
  have Cg:=Aa BG
  clear BG
  by_cases hlt:k<n∧k≤220
  ·obtain ⟨h1,h2⟩:=hlt
   obtain ⟨ad,a,rfl,hak,hc⟩:=HR.tx h1
   have ha:=HX a (CE hak)
   obtain ⟨y,hy⟩:∃ y:Nat,min (a.length:Int) 5000=(y:Int):=⟨(min (a.length:Int) 5000).toNat,by omega⟩
   have hy5:y≤5000:=by omega
   have e1:decide ((k:Int)≤220)=true:=by simp;omega
   clear hak
   go_wp2
   go_roundg (222 - (k+1))
   case rel=>exact ⟨k+1,x+y,rfl,by omega,by omega,by go_num,by go_num,by omega,rfl⟩
   case measure=>rw [Cg.Ab];omega
  ·have hx2:(x:Int)≤1200000:=by omega
   have e0:(decide ((k:Int)<n)=false∧decide (k<n)=false∧¬ k<n)∨(decide ((k:Int)<n)=true∧decide (k<n)=true∧k<n∧decide ((k:Int)≤220)=false):=by
    by_cases h:k<n
    ·right
     refine ⟨by simp;omega,by simp;omega,h,by simp;omega⟩
    ·left
     refine ⟨by simp;omega,by simp;omega,h⟩
   clear hlt
   rcases e0 with ⟨e0,e0',U3⟩|⟨e0,e0',U3,e1⟩
   all_goals
    by_cases h1:n≤220
    ·have f1:decide ((n:Int)≤220)=true:=by simp;omega
     by_cases h2:n2≤220
     ·have f2:decide ((n2:Int)≤220)=true:=by simp;omega
      go_wp2
      go_ret
      exact ⟨_,rfl,fun _=>⟨h1,h2⟩,HW.Ab⟩
     ·have f2:decide ((n2:Int)≤220)=false:=by simp;omega
      go_wp2
      go_ret
      exact ⟨false,rfl,(fun h=>by cases h),HW.Ab⟩
    ·have f1:decide ((n:Int)≤220)=false:=by simp;omega
     go_wp2
     go_ret
     exact ⟨false,rfl,(fun h=>by cases h),HW.Ab⟩
end Go.Proofs.YtijplolmkcdflaaGreat
namespace Go.Proofs.YtijplolmkcdflaaGreat
open Go.RowKit
structure EE where
 D:Nat→Prop
 p:World→Prop
def EE.holds (r:EE) (w:World):Prop:=(∀ g,r.D g→g<w.heap.size)∧∀ w',w.heap.size≤w'.heap.size→(∀ g,r.D g→w'.heap[g]?=w.heap[g]?)→r.p w'
theorem EE.holds.now {r:EE} {w:World} (h:r.holds w):r.p w:=h.2 w (BZ _) (fun _ _=>rfl)
theorem EE.holds.keep {r:EE} {w w':World} (h:r.holds w) (hs:w.heap.size≤w'.heap.size) (hk:∀ g,r.D g→w'.heap[g]?=w.heap[g]?):r.holds w':=
 ⟨fun g hg=>Kk (h.1 g hg) hs,fun w'' hs' hk'=>h.2 w'' (Gm hs hs') (fun g hg=>(hk' g hg).trans (hk g hg))⟩
theorem EE.holds.Au {r:EE} {w w':World} (h:r.holds w) (hb:Aj w w'):r.holds w':=h.keep hb.size fun g hg=>hb.block g (h.1 g hg)
theorem EE.holds.imp {r:EE} {w:World} {q:World→Prop} (h:r.holds w) (hq:∀ w',r.p w'→q w'):(EE.mk r.D q).holds w:=⟨h.1,fun w' hs hk=>hq w' (h.2 w' hs hk)⟩
structure Fr (S:Nat→Prop) (w w':World):Prop where
 os:w'.os=w.os
 tape:w'.tape=w.tape
 output:w'.output=w.output
 size:w.heap.size≤w'.heap.size
 block:∀ g,g<w.heap.size→¬ S g→w'.heap[g]?=w.heap[g]?
abbrev No:Nat→Prop:=fun _=>False
abbrev One (b:Nat):Nat→Prop:=fun g=>g=b
theorem Fr.refl (S:Nat→Prop) (w:World):Fr S w w:=⟨rfl,rfl,rfl,BZ _,fun _ _ _=>rfl⟩
theorem Fr.QF {S:Nat→Prop} {w w':World} (h:Aj w w'):Fr S w w':=⟨h.os,h.tape,h.output,h.size,fun g hg _=>h.block g hg⟩
theorem Fr.Mg {w w':World} {row:Option Nat} (h:w.grownBy w' row):Fr (fun g=>row=some g) w w':=⟨h.os,h.tape,h.output,h.size,fun g hg hn=>h.block g hg (fun e=>hn e.symm)⟩
theorem Fr.Au {w w':World} (h:Fr No w w'):Aj w w':=⟨h.os,h.tape,h.output,h.size,fun g hg=>h.block g hg (fun h=>h)⟩
theorem Fr.grown {b:Nat} {w w':World} (h:Fr (One b) w w'):w.grownBy w' (some b):=⟨h.os,h.tape,h.output,h.size,fun g hg hn=>h.block g hg (fun e=>hn (by rw [e]))⟩
theorem Fr.trans {S T:Nat→Prop} {a b c:World} (h:Fr S a b) (k:Fr T b c) (hT:∀ g,T g→S g∨a.heap.size≤g):Fr S a c:=
 ⟨k.os.trans h.os,k.tape.trans h.tape,k.output.trans h.output,Gm h.size k.size,fun g hg hn=>
  (k.block g (Kk hg h.size) (fun ht=>by rcases hT g ht with h'|h';exact hn h';omega)).trans (h.block g hg hn)⟩
structure SL (S:Nat→Prop) (w0 w:World) (l:List EE):Prop where
 fr:Fr S w0 w
 all:∀ (i:Nat) r,l[i]?=some r→r.holds w
 Xq:∀ (i j:Nat) r q,i≠j→l[i]?=some r→l[j]?=some q→∀ g,r.D g→¬ q.D g
 own:∀ (i:Nat) r,l[i]?=some r→∀ g,r.D g→w0.heap.size≤g∨S g
section
variable {S : Nat → Prop} {w0 w w' : World} {l : List EE}
theorem SL.start (S:Nat→Prop) (w:World):SL S w w []:=⟨Fr.refl _ _,by simp,by simp,by simp⟩
theorem SL.Au (h:SL S w0 w l) (hb:Aj w w'):SL S w0 w' l:=
 ⟨h.fr.trans (Fr.QF (S:=No) hb) (fun _ h=>h.elim),fun i r hi=>(h.all i r hi).Au hb,h.Xq,h.own⟩
theorem SL.drew (h:SL S w0 w l):SL S w0 w.drew l:=h.Au (Aj.refl w).drew
theorem SL.drewN (h:SL S w0 w l) (n:Nat):SL S w0 (w.drewN n) l:=h.Au ((Aj.refl w).drewN n)
theorem SL.to (h:SL No w0 w l):Aj w0 w:=h.fr.Au
theorem SL.size (h:SL S w0 w l):w0.heap.size≤w.heap.size:=h.fr.size
theorem SL.get (h:SL S w0 w l) (i:Nat) {r:EE} (hi:l[i]?=some r):r.holds w:=h.all i r hi
theorem SL.at_ (h:SL S w0 w l) (i:Nat) {r:EE} (hi:l[i]?=some r):r.p w:=(h.all i r hi).now
theorem SL.upd (h:SL S w0 w l) (i:Nat) {r:EE} (hi:l[i]?=some r) (hk:Fr r.D w w') (r':EE) (hr:r'.holds w') (hd:∀ g,r'.D g→r.D g∨w.heap.size≤g):SL S w0 w' (l.set i r'):=by
 have hil:i<l.length:=(Ca.1 hi).1
 have key:∀ (j:Nat) q,(l.set i r')[j]?=some q→(j=i∧q=r')∨(j≠i∧l[j]?=some q):=by
  intro j q hq
  by_cases e:i=j
  ·subst e
   rw [LZ hil] at hq
   injection hq with hq
   exact .inl ⟨rfl,hq.symm⟩
  ·rw [Nw e] at hq
   exact .inr ⟨fun h=>e h.symm,hq⟩
 refine ⟨h.fr.trans hk (fun g hg=>(h.own i r hi g hg).symm),fun j q hq=>?_,fun j k q q' hjk hq hq' g hg hg'=>?_,fun j q hq g hg=>?_⟩
 ·rcases key j q hq with ⟨rfl,rfl⟩|⟨hne,hq⟩
  ·exact hr
  ·exact (h.all j q hq).keep hk.size fun g hg=>hk.block g ((h.all j q hq).1 g hg) (h.Xq j i q r hne hq hi g hg)
 ·rcases key j q hq with ⟨rfl,rfl⟩|⟨hne,hq1⟩
  ·rcases key k q' hq' with ⟨rfl,rfl⟩|⟨hne',hq2⟩
   ·exact hjk rfl
   ·rcases hd g hg with h1|h1
    ·exact h.Xq j k r q' hjk hi hq2 g h1 hg'
    ·have:=(h.all k q' hq2).1 g hg'
     omega
  ·rcases key k q' hq' with ⟨rfl,rfl⟩|⟨hne',hq2⟩
   ·rcases hd g hg' with h1|h1
    ·exact h.Xq j k q r hjk hq1 hi g hg h1
    ·have:=(h.all j q hq1).1 g hg
     omega
   ·exact h.Xq j k q q' hjk hq1 hq2 g hg hg'
 ·rcases key j q hq with ⟨rfl,rfl⟩|⟨hne,hq⟩
  ·rcases hd g hg with h1|h1
   ·exact h.own j r hi g h1
   ·exact .inl (Gm h.fr.size h1)
  ·exact h.own j q hq g hg
theorem SL.turn (h:SL S w0 w l) (i:Nat) {r:EE} (hi:l[i]?=some r) (r':EE) (hr:r'.holds w) (hd:∀ g,r'.D g→r.D g):SL S w0 w (l.set i r'):=
 h.upd i hi (Fr.refl _ _) r' hr (fun g hg=>.inl (hd g hg))
theorem SL.ext (h:SL S w0 w l) (r:EE) (hr:r.holds w) (hn:∀ (j:Nat) q,l[j]?=some q→∀ g,q.D g→¬ r.D g) (ho:∀ g,r.D g→w0.heap.size≤g∨S g):SL S w0 w (l++[r]):=by
 have key:∀ (j:Nat) q,(l++[r])[j]?=some q→(l[j]?=some q∧j<l.length)∨(q=r∧j=l.length):=by
  intro j q hq
  rcases Nt j l.length with hj|hj
  ·rw [Nz hj] at hq
   exact .inl ⟨hq,hj⟩
  ·have hb:=(Ca.1 hq).1
   simp at hb
   rw [NZ hj,show j - l.length=0 by omega] at hq
   injection hq with hq
   exact .inr ⟨hq.symm,by omega⟩
 refine ⟨h.fr,fun j q hq=>?_,fun j k q q' hjk hq hq' g hg hg'=>?_,fun j q hq g hg=>?_⟩
 ·rcases key j q hq with ⟨hq,_⟩|⟨rfl,_⟩
  ·exact h.all j q hq
  ·exact hr
 ·rcases key j q hq with ⟨hq1,_⟩|⟨rfl,hj⟩
  ·rcases key k q' hq' with ⟨hq2,_⟩|⟨rfl,hk⟩
   ·exact h.Xq j k q q' hjk hq1 hq2 g hg hg'
   ·exact hn j q hq1 g hg hg'
  ·rcases key k q' hq' with ⟨hq2,_⟩|⟨rfl,hk⟩
   ·exact hn k q' hq2 g hg' hg
   ·omega
 ·rcases key j q hq with ⟨hq,_⟩|⟨rfl,_⟩
  ·exact h.own j q hq g hg
  ·exact ho g hg
theorem SL.add (h:SL S w0 w l) (hb:Aj w w') (r:EE) (hr:r.holds w') (hn:∀ g,r.D g→w.heap.size≤g):SL S w0 w' (l++[r]):=
 (h.Au hb).ext r hr (fun j q hq g hg hg'=>by have:=(h.all j q hq).1 g hg;have:=hn g hg';omega) (fun g hg=>.inl (Gm h.fr.size (hn g hg)))
theorem SL.Aa6 (h:SL S w0 w l) (i:Nat) {r:EE} (hi:l[i]?=some r) (hk:Fr r.D w w') (r':EE) (hr:r'.holds w') (hd:∀ g,r'.D g→r.D g) (q:EE) (hq:q.holds w') (hn:∀ g,q.D g→w.heap.size≤g):SL S w0 w' (l.set i r'++[q]):=by
 have hil:i<l.length:=(Ca.1 hi).1
 refine (h.upd i hi hk r' hr (fun g hg=>.inl (hd g hg))).ext q hq (fun j z hz g hg hg'=>?_) (fun g hg=>.inl (Gm h.fr.size (hn g hg)))
 have h1:=hn g hg'
 by_cases e:i=j
 ·subst e
  rw [LZ hil] at hz
  injection hz with hz
  subst hz
  have:=(h.all i r hi).1 g (hd g hg)
  omega
 ·rw [Nw e] at hz
  have:=(h.all j z hz).1 g hg
  omega
theorem SL.both (h:SL S w0 w l) (i j:Nat) {r q:EE} (hij:i≠j) (hi:l[i]?=some r) (hj:l[j]?=some q) (r':EE) (hr:r'.holds w) (hd:∀ g,r'.D g→r.D g∨q.D g):SL S w0 w ((l.set i r').eraseIdx j):=by
 have hil:i<l.length:=(Ca.1 hi).1
 have ln:∀ m:Nat,((l.set i r').eraseIdx j)[m]?=(l.set i r')[if m<j then m else m+1]?:=by
  intro m
  rw [List.getElem?_eraseIdx]
  split<;>rfl
 have key:∀ (m:Nat) z,((l.set i r').eraseIdx j)[m]?=some z→∃ m',m'=(if m<j then m else m+1)∧m'≠j∧((m'=i∧z=r')∨(m'≠i∧l[m']?=some z)):=by
  intro m z hz
  rw [ln] at hz
  refine ⟨_,rfl,by split<;>omega,?_⟩
  generalize (if m<j then m else m+1)=m' at *
  by_cases e:i=m'
  ·subst e
   rw [LZ hil] at hz
   injection hz with hz
   exact .inl ⟨rfl,hz.symm⟩
  ·rw [Nw e] at hz
   exact .inr ⟨fun h=>e h.symm,hz⟩
 refine ⟨h.fr,fun m z hz=>?_,fun m n z z' hmn hz hz' g hg hg'=>?_,fun m z hz g hg=>?_⟩
 ·obtain ⟨m',_,_,⟨_,rfl⟩|⟨_,hz⟩⟩:=key m z hz
  ·exact hr
  ·exact h.all _ _ hz
 ·obtain ⟨m',em,mj,hm⟩:=key m z hz
  obtain ⟨n',en,nj,hn⟩:=key n z' hz'
  have hne:m'≠n':=by rw [em,en];split<;>split<;>omega
  rcases hm with ⟨rfl,rfl⟩|⟨mi,hm⟩
  ·rcases hn with ⟨rfl,rfl⟩|⟨ni,hn⟩
   ·exact hne rfl
   ·rcases hd g hg with h1|h1
    ·exact h.Xq _ _ _ _ hne hi hn g h1 hg'
    ·exact h.Xq _ _ _ _ (Ne.symm nj) hj hn g h1 hg'
  ·rcases hn with ⟨rfl,rfl⟩|⟨ni,hn⟩
   ·rcases hd g hg' with h1|h1
    ·exact h.Xq _ _ _ _ hne hm hi g hg h1
    ·exact h.Xq _ _ _ _ mj hm hj g hg h1
   ·exact h.Xq _ _ _ _ hne hm hn g hg hg'
 ·obtain ⟨m',_,_,⟨_,rfl⟩|⟨_,hz⟩⟩:=key m z hz
  ·rcases hd g hg with h1|h1
   ·exact h.own _ _ hi g h1
   ·exact h.own _ _ hj g h1
  ·exact h.own _ _ hz g hg
end
abbrev Av (g:Nat) (t:TypeId) (cs:Array Value):EE:=⟨One g,fun w=>Br w g t cs⟩
abbrev Cb (e:TypeId) (size:Nat) (v:Value) (n:Nat) (xs:List Value):EE:=⟨fun g=>v.ownBlock=some g,fun w=>w.ownsRow 0 e size v n xs⟩
abbrev MW (b:Nat) (s l:List UInt8):EE:=⟨One b,fun w=>Gb w b s l⟩
abbrev bU (P:Program) (k:TypeId) (R:Value→Option (DataW Unit × List MemPlace)) (b n:Nat) (D:DataW Unit):EE:=⟨One b,fun w=>w.ownsMap P k R b n D⟩
theorem Mm {w:World} {g:Nat} {t:TypeId} {cs:Array Value} (h:Br w g t cs):(Av g t cs).holds w:=⟨fun _ e=>e ▸ h.lt,fun w' _ hk=>(hk g rfl).trans h⟩
theorem yY {w:World} {base:Nat} {e:TypeId} {size n:Nat} {v:Value} {xs:List Value} (h:w.ownsRow 0 e size v n xs) (hb:∀ g,v.ownBlock=some g→base≤g):w.ownsRow base e size v n xs:=by
 refine ⟨h.1,?_⟩
 rcases h.2 with h0|⟨g,cap,cur,rfl,_,h3⟩
 ·exact .inl h0
 ·exact .inr ⟨g,cap,cur,rfl,hb g rfl,h3⟩
theorem Gf {w:World} {base:Nat} {e:TypeId} {size n:Nat} {v:Value} {xs:List Value} (h:w.ownsRow base e size v n xs):(Cb e size v n xs).holds w:=by
 refine ⟨fun g hg=>Zd h hg,fun w' _ hk=>⟨h.1,?_⟩⟩
 rcases h.2 with h0|⟨g,cap,cur,rfl,_,hh,h3⟩
 ·exact .inl h0
 ·exact .inr ⟨g,cap,cur,rfl,Bw _,(hk g rfl).trans hh,h3⟩
theorem OW {w:World} {b:Nat} {s l:List UInt8} (h:Gb w b s l):(MW b s l).holds w:=by
 refine ⟨fun _ e=>e ▸ h.lt,fun w' _ hk=>?_⟩
 obtain ⟨h0,t,h1,h2,h3⟩:=h
 exact ⟨h0,t,h1,h2,(hk b rfl).trans h3⟩
theorem Yk {P:Program} {k:TypeId} {R:Value→Option (DataW Unit × List MemPlace)} {b n:Nat} {D:DataW Unit} {w:World} (h:w.ownsMap P k R b n D):(bU P k R b n D).holds w:=by
 refine ⟨fun _ e=>e ▸ h.lt,fun w' _ hk=>?_⟩
 obtain ⟨es,clock,h1,h2⟩:=h
 exact ⟨es,clock,(hk b rfl).trans h1,h2⟩
section
variable {S : Nat → Prop} {w0 w w' : World} {l : List EE}
theorem SL.blk (h:SL S w0 w l) (i:Nat) {g:Nat} {t:TypeId} {cs:Array Value} (hi:l[i]?=some (Av g t cs)):Br w g t cs:=h.at_ i hi
theorem SL.ne (h:SL S w0 w l) (i j:Nat) (hij:i≠j) {g g':Nat} {t t':TypeId} {cs cs':Array Value} (hi:l[i]?=some (Av g t cs)) (hj:l[j]?=some (Av g' t' cs')):g≠g':=fun e=>h.Xq i j _ _ hij hi hj g rfl e
theorem SL.row (h:SL S w0 w l) (i:Nat) {e:TypeId} {size n:Nat} {v:Value} {xs:List Value} (hi:l[i]?=some (Cb e size v n xs)):w.ownsRow 0 e size v n xs:=h.at_ i hi
theorem SL.yF (h:SL No w0 w l) (i:Nat) {e:TypeId} {size n:Nat} {v:Value} {xs:List Value} (hi:l[i]?=some (Cb e size v n xs)):w.ownsRow w0.heap.size e size v n xs:=
 yY (h.row i hi) fun g hg=>(h.own i _ hi g hg).elim (fun h=>h) (fun h=>h.elim)
theorem SL.EN (h:SL S w0 w l) (i:Nat) {b:Nat} {s k:List UInt8} (hi:l[i]?=some (MW b s k)):Gb w b s k:=h.at_ i hi
theorem SL.map (h:SL S w0 w l) (i:Nat) {P:Program} {k:TypeId} {R:Value→Option (DataW Unit × List MemPlace)} {b n:Nat} {D:DataW Unit} (hi:l[i]?=some (bU P k R b n D)):w.ownsMap P k R b n D:=h.at_ i hi
theorem SL.alloc (h:SL S w0 w l) (cs:Array Value) (t:TypeId):SL S w0 (w.alloc (.cells cs t)) (l++[Av w.heap.size t cs]):=
 h.add ((Aj.refl w).alloc _) _ (Mm (Br.new w t cs)) (fun g hg=>by cases hg;exact BZ _)
theorem SL.AY (h:SL S w0 w l) (i:Nat) {g:Nat} {t:TypeId} {cs cs':Array Value} (hi:l[i]?=some (Av g t cs)) (hg:w.grownBy w' (some g)) (hb:Br w' g t cs'):SL S w0 w' (l.set i (Av g t cs')):=
 h.upd i hi ⟨hg.os,hg.tape,hg.output,hg.size,fun k hk hn=>hg.block k hk (fun e=>hn (by injection e))⟩ _ (Mm hb) (fun k hk=>.inl hk)
theorem SL.setCell (h:SL S w0 w l) (i:Nat) {g:Nat} {t:TypeId} {cs:Array Value} (hi:l[i]?=some (Av g t cs)) (o:Nat) (x:Value):SL S w0 (w.setCell ⟨g,o,none⟩ x) (l.set i (Av g t (cs.setIfInBounds o x))):=
 h.AY i hi (grownBy_setCell w g o x) ((h.blk i hi).Gr o x)
theorem SL.setRow (h:SL S w0 w l) (i:Nat) {e e':TypeId} {size size' n n':Nat} {v v':Value} {xs xs':List Value} {base:Nat} (hi:l[i]?=some (Cb e size v n xs)) (hg:w.grownBy w' v.ownBlock) (ho:w'.ownsRow base e' size' v' n' xs') (hv:v'.ownBlock=v.ownBlock∨v'.ownBlock=some w.heap.size):SL S w0 w' (l.set i (Cb e' size' v' n' xs')):=by
 refine h.upd i hi (Fr.Mg hg) _ (Gf ho) (fun g (hg:v'.ownBlock=some g)=>?_)
 rcases hv with hv|hv
 ·exact .inl (show v.ownBlock=some g by rw [←hv];exact hg)
 ·rw [hv] at hg
  injection hg with hg
  exact .inr (by omega)
theorem SL.BP (h:SL S w0 w l) (i:Nat) {b:Nat} {s k k':List UInt8} (hi:l[i]?=some (MW b s k)) (hg:w.grownBy w' (some b)) (hr:Gb w' b s k'):SL S w0 w' (l.set i (MW b s k')):=
 h.upd i hi ⟨hg.os,hg.tape,hg.output,hg.size,fun k hk hn=>hg.block k hk (fun e=>hn (by injection e))⟩ _ (OW hr) (fun k hk=>.inl hk)
theorem SL.Gc (h:SL S w0 w l) (i:Nat) {b:Nat} {s k k':List UInt8} (hi:l[i]?=some (MW b s k)) (hg:w.grownBy w' (some b)) (hr:Gb w' b s k') (q:EE) (hq:q.holds w') (hn:∀ g,q.D g→w.heap.size≤g):SL S w0 w' (l.set i (MW b s k')++[q]):=
 h.Aa6 i hi ⟨hg.os,hg.tape,hg.output,hg.size,fun k hk hn=>hg.block k hk (fun e=>hn (by injection e))⟩ _ (OW hr) (fun k hk=>hk) q hq hn
theorem SL.ES (h:SL S w0 w l) (e:TypeId) (size:Nat):SL S w0 w (l++[Cb e size (.slice none 0 0) 0 []]):=
 h.add (Aj.refl w) _ (Gf (QW w 0 e size)) (fun g (hg:Value.ownBlock (.slice none 0 0)=some g)=>by simp [Value.ownBlock] at hg)
theorem SL.CJ (h:SL S w0 w l) (hb:Aj w w') {e:TypeId} {size n:Nat} {v:Value} {xs:List Value} (ho:w'.ownsRow w.heap.size e size v n xs):SL S w0 w' (l++[Cb e size v n xs]):=
 h.add hb _ (Gf ho) (fun g hg=>Gj ho hg)
theorem SL.new (h:SL No w0 w l) (i:Nat) {r:EE} (hi:l[i]?=some r):∀ g,r.D g→w0.heap.size≤g:=fun g hg=>(h.own i r hi g hg).elim (fun h=>h) (fun h=>h.elim)
theorem SL.RB {b:Nat} (h:SL (One b) w0 w l) (i j:Nat) {r q:EE} (hij:i≠j) (hi:l[i]?=some r) (hj:l[j]?=some q) (hq:q.D b):∀ g,r.D g→w0.heap.size≤g:=fun g hg=>(h.own i r hi g hg).elim (fun h=>h) (fun e=>by
 cases e
 exact absurd hq (h.Xq i j r q hij hi hj _ hg))
theorem SL.O3 {b:Nat} {s k:List UInt8} (w:World) (h:Gb w b s k):SL (One b) w w [MW b s k]:=by
 refine ⟨Fr.refl _ _,fun i r hi=>?_,fun i j r q hij hi hj=>?_,fun i r hi g hg=>?_⟩
 ·match i,hi with
  |0,hi=>injection hi with hi;subst hi;exact OW h
 ·match i,j,hi,hj with
  |0,0,_,_=>exact absurd rfl hij
 ·match i,hi with
  |0,hi=>injection hi with hi;subst hi;exact .inr hg
abbrev IZ (B:Nat) (s k:List UInt8) (l:List EE):List EE:=MW (B+1) s k::Av B 45 #[.int .i64 0]::Av (B+2) 166 #[.pointer (some ⟨B+1,0,none⟩)]::l
theorem SL.begin {s k:List UInt8} (h:SL S w0 w l) (h1:Aj w w') (h2:Gb w' (w.heap.size+1) s k) (h3:Br w' w.heap.size 45 #[.int .i64 0]) (h4:Br w' (w.heap.size+2) 166 #[.pointer (some ⟨w.heap.size+1,0,none⟩)]):SL S w0 w' (IZ w.heap.size s k l):=by
 have hb:=h.Au h1
 have hsz:=h.fr.size
 have hlt:∀ (i:Nat) r,l[i]?=some r→∀ g,r.D g→g<w.heap.size:=fun i r hi g hg=>(h.all i r hi).1 g hg
 have hD0:∀ g,(MW (w.heap.size+1) s k).D g→g=w.heap.size+1:=fun g hg=>hg
 have hD1:∀ g,(Av w.heap.size 45 #[.int .i64 0]).D g→g=w.heap.size:=fun g hg=>hg
 have hD2:∀ g,(Av (w.heap.size+2) 166 #[.pointer (some ⟨w.heap.size+1,0,none⟩)]).D g→g=w.heap.size+2:=fun g hg=>hg
 have key:∀ (i:Nat) r,(IZ w.heap.size s k l)[i]?=some r→(i=0∧r=MW (w.heap.size+1) s k)∨(i=1∧r=Av w.heap.size 45 #[.int .i64 0])∨(i=2∧r=Av (w.heap.size+2) 166 #[.pointer (some ⟨w.heap.size+1,0,none⟩)])∨(3≤i∧l[i - 3]?=some r):=by
  intro i r hi
  match i,hi with
  |0,hi=>injection hi with hi;exact .inl ⟨rfl,hi.symm⟩
  |1,hi=>injection hi with hi;exact .inr (.inl ⟨rfl,hi.symm⟩)
  |2,hi=>injection hi with hi;exact .inr (.inr (.inl ⟨rfl,hi.symm⟩))
  |n+3,hi=>exact .inr (.inr (.inr ⟨by omega,by simpa [IZ] using hi⟩))
 refine ⟨hb.fr,fun i r hi=>?_,fun i j r q hij hi hj g hg hg'=>?_,fun i r hi g hg=>?_⟩
 ·rcases key i r hi with ⟨_,rfl⟩|⟨_,rfl⟩|⟨_,rfl⟩|⟨_,hi⟩
  ·exact OW h2
  ·exact Mm h3
  ·exact Mm h4
  ·exact hb.all _ _ hi
 ·rcases key i r hi with ⟨ei,rfl⟩|⟨ei,rfl⟩|⟨ei,rfl⟩|⟨ei,hi⟩<;>rcases key j q hj with ⟨ej,rfl⟩|⟨ej,rfl⟩|⟨ej,rfl⟩|⟨ej,hj⟩<;>
   first
    |exact hij (ei.trans ej.symm)
    |exact absurd ((hD0 g hg).symm.trans (hD1 g hg')) (by omega)
    |exact absurd ((hD0 g hg).symm.trans (hD2 g hg')) (by omega)
    |exact absurd ((hD1 g hg).symm.trans (hD0 g hg')) (by omega)
    |exact absurd ((hD1 g hg).symm.trans (hD2 g hg')) (by omega)
    |exact absurd ((hD2 g hg).symm.trans (hD0 g hg')) (by omega)
    |exact absurd ((hD2 g hg).symm.trans (hD1 g hg')) (by omega)
    |(have a:=hlt _ _ hi g hg;have b:=hD0 g hg';omega)
    |(have a:=hlt _ _ hi g hg;have b:=hD1 g hg';omega)
    |(have a:=hlt _ _ hi g hg;have b:=hD2 g hg';omega)
    |(have a:=hlt _ _ hj g hg';have b:=hD0 g hg;omega)
    |(have a:=hlt _ _ hj g hg';have b:=hD1 g hg;omega)
    |(have a:=hlt _ _ hj g hg';have b:=hD2 g hg;omega)
    |exact h.Xq (i - 3) (j - 3) r q (by omega) hi hj g hg hg'
 ·rcases key i r hi with ⟨_,rfl⟩|⟨_,rfl⟩|⟨_,rfl⟩|⟨_,hi⟩
  ·have:=hD0 g hg;exact .inl (by omega)
  ·have:=hD1 g hg;exact .inl (by omega)
  ·have:=hD2 g hg;exact .inl (by omega)
  ·exact h.own _ _ hi g hg
theorem SL.ok {B:Nat} {s k:List UInt8} {R:Int→World→Prop} (h:SL S w0 w (IZ B s k l)) (hR:R (if k=[] then 0 else 3) w):LH B s R (.returned (.tuple #[])) w:=
 ⟨h.blk 1 rfl,h.blk 2 rfl,.inr ⟨k,rfl,h.EN 0 rfl,hR⟩⟩
theorem SL.err {B:Nat} {s k:List UInt8} {R:Int→World→Prop} {e:Int} (h:SL S w0 w (IZ B s k l)) (hR:R e w):LH B s R (.panicked (K3 e)) w:=
 ⟨h.blk 1 rfl,h.blk 2 rfl,.inl ⟨e,rfl,⟨k,h.EN 0 rfl⟩,hR⟩⟩
theorem SL.ended {B:Nat} {s k:List UInt8} (h:SL S w0 w (IZ B s k l)) (hb:MK B w w'):SL S w0 w' l:=by
 have h0:∀ (i:Nat) r,l[i]?=some r→(IZ B s k l)[i+3]?=some r:=fun i r hi=>by simpa [IZ] using hi
 have n0:∀ (i:Nat) r,l[i]?=some r→∀ g,r.D g→g≠B∧g≠B+1:=fun i r hi g hg=>
  ⟨fun e=>h.Xq (i+3) 1 r _ (by omega) (h0 i r hi) rfl g hg e,fun e=>h.Xq (i+3) 0 r _ (by omega) (h0 i r hi) rfl g hg e⟩
 have o0:w0.heap.size≤B∨S B:=h.own 1 _ rfl B rfl
 have o1:w0.heap.size≤B+1∨S (B+1):=h.own 0 _ rfl (B+1) rfl
 refine ⟨⟨hb.os.trans h.fr.os,hb.tape.trans h.fr.tape,hb.output.trans h.fr.output,Gm h.fr.size hb.size,fun g hg hn=>?_⟩,fun i r hi=>?_,fun i j r q hij hi hj=>h.Xq (i+3) (j+3) r q (by omega) (h0 i r hi) (h0 j q hj),fun i r hi=>h.own (i+3) r (h0 i r hi)⟩
 ·refine (hb.block g (Kk hg h.fr.size) ?_ ?_).trans (h.fr.block g hg hn)
  ·rintro rfl
   rcases o0 with o|o
   ·omega
   ·exact hn o
  ·rintro rfl
   rcases o1 with o|o
   ·omega
   ·exact hn o
 ·have:=h.all (i+3) r (h0 i r hi)
  exact this.keep hb.size fun g hg=>hb.block g (this.1 g hg) (n0 i r hi g hg).1 (n0 i r hi g hg).2
theorem SL.readAll {B:Nat} {s k k':List UInt8} (h:SL S w0 w (IZ B s k l)) (hg:w.grownBy w' (some (B+1))) (hr:Gb w' (B+1) s k'):SL S w0 w' (IZ B s k' l):=h.BP 0 rfl hg hr
theorem SL.jQ {B:Nat} {s k k':List UInt8} (h:SL S w0 w (IZ B s k l)) (hg:w.grownBy w' (some (B+1))) (hr:Gb w' (B+1) s k') (q:EE) (hq:q.holds w') (hn:∀ g,q.D g→w.heap.size≤g):SL S w0 w' (IZ B s k' (l++[q])):=h.Gc 0 rfl hg hr q hq hn
theorem SL.pick (h:SL S w0 w l) (l':List EE) (f:Nat→Nat) (hf:∀ (i:Nat) r,l'[i]?=some r→l[f i]?=some r) (hi:∀ i j,i<l'.length→j<l'.length→f i=f j→i=j):SL S w0 w l':=
 ⟨h.fr,fun i r hr=>h.all _ _ (hf i r hr),fun i j r q hij hr hq=>h.Xq _ _ r q (fun e=>hij (hi i j (Ca.1 hr).1 (Ca.1 hq).1 e)) (hf i r hr) (hf j q hq),fun i r hr=>h.own _ _ (hf i r hr)⟩
def Vn (l:List EE):List Nat→List EE
 |[]=>[]
 |i::is=>l.getD i ⟨fun _=>False,fun _=>True⟩::Vn l is
theorem Ec {P:Program} {ops:Array Oper} {r:List Oper} {o:Oper} {a:Act} {w:World} {Q:Exit→Act→World→Prop} {ty:TypeId} {n:Nat} (R:DV P ty n) {S:Nat→Prop} {w0:World} {l:List EE} (H:Hid (SL S w0 w l)) (i:Nat) {g:Nat} {t:TypeId} {cs:Array Value} (hi:l[i]?=some (Av g t cs)) (cs':Array Value) (k:cs'.all (·.oneCell')=true) (h:∀ w',Hid (SL S w0 w' (l.set i (Av g t cs')))→wpList P ops Q r (a.put o.dst undef) w') {x y:Operand} (h1:o.guard=none:=by rfl) (h2:o.op=.store ty x y:=by rfl) (h3:a.eval x=.pointer (some ⟨g,0,none⟩):=by rfl) (h4:cs.size=n:=by rfl) (h5:cs'.size=n:=by rfl) (h6:a.eval y=.agg cs':=by rfl):wpList P ops Q (o::r) a w:=AA h1 R x y h2 g h3 (H.out.blk i hi) h4 cs' h5 h6 k fun w' b g=>h w' (Aa (H.out.AY i hi g b))
theorem LS:(∀ {α:Type} {x:α} {xs:List α} {a:α},(x::xs).set 0 a=a::xs)∧(∀ {α:Type} {x:α} {xs:List α} {i:Nat} {a:α},(x::xs).set (i+1) a=x::xs.set i a)∧(∀ {α:Type} {a:α} {l m:List α},a::l++m=a::(l++m))∧(∀ {α:Type} (m:List α),[]++m=m)∧(∀ {α:Type} {a:α} {l:List α},(a::l).eraseIdx 0=l)∧(∀ {α:Type} {a:α} {l:List α} {i:Nat},(a::l).eraseIdx (i+1)=a::l.eraseIdx i)∧(∀ {α:Type} (l:List α) (i:Nat) (a:α),l.toArray.setIfInBounds i a=(l.set i a).toArray)∧(∀ (w:World) (d:Obj),(w.alloc d).heap.size=w.heap.size+1)∧(∀ l:List EE,Vn l []=[])∧(∀ (l:List EE) (i:Nat) (is:List Nat),Vn l (i::is)=l.getD i ⟨fun _=>False,fun _=>True⟩::Vn l is)∧(∀ {α:Type} {x:α} {xs:List α} {d:α},(x::xs).getD 0 d=x)∧(∀ {α:Type} {x:α} {xs:List α} {n:Nat} {d:α},(x::xs).getD (n+1) d=xs.getD n d):=
 ⟨YL,List.set_cons_succ,IQ,Fy,List.eraseIdx_cons_zero,List.eraseIdx_cons_succ,List.setIfInBounds_toArray,Kl,fun _=>rfl,fun _ _ _=>rfl,List.getD_cons_zero,List.getD_cons_succ⟩
theorem xU (l:List EE) (is:List Nat):(Vn l is).length=is.length:=by induction is with|nil=>rfl|cons i is ih=>simp [Vn,ih]
theorem aZ (l:List EE):∀ (is:List Nat) (k:Nat),(∀ i ∈ is,i<l.length)→(Vn l is)[k]?=(is[k]?).bind (fun i=>l[i]?)
 |[],k,_=>by simp [Vn]
 |i::is,0,h=>by
  have:=h i (Dr ..)
  simp [Vn,nU,Ep this]
 |i::is,k+1,h=>by
  rw [Vn,FW,FW]
  exact aZ l is k fun j hj=>h j (EO _ hj)
theorem SL.Gh (h:SL S w0 w l) (is:List Nat) (hn:is.Nodup) (hl:∀ i ∈ is,i<l.length):SL S w0 w (Vn l is):=by
 refine h.pick _ (fun i=>is.getD i 0) (fun i r hi=>?_) (fun i j hi hj e=>?_)
 ·rw [aZ l is i hl] at hi
  cases hx:is[i]? with
  |none=>rw [hx] at hi;cases hi
  |some x=>
   rw [hx] at hi
   show l[is.getD i 0]?=_
   rw [nU,hx]
   exact hi
 ·rw [xU] at hi hj
  simp only [nU,Ep hi,Ep hj,Option.getD_some] at e
  have hp:=List.pairwise_iff_getElem.1 hn
  rcases iI i j with h1|h1|h1
  ·exact absurd e (hp i j hi hj h1)
  ·exact h1
  ·exact absurd e.symm (hp j i hj hi h1)
theorem SL.rot {r:EE} (h:SL S w0 w (l++[r])):SL S w0 w (r::l):=by
 refine h.pick _ (fun i=>match i with|0=>l.length|i+1=>i) (fun i q hq=>?_) (fun i j hi hj e=>?_)
 ·match i,hq with
  |0,hq=>
   injection hq with hq
   subst hq
   show (l++[r])[l.length]?=_
   simp
  |i+1,hq=>
   have hq:l[i]?=some q:=by simpa using hq
   have:=(Ca.1 hq).1
   show (l++[r])[i]?=_
   rw [Nz this]
   exact hq
 ·match i,j,hi,hj,e with
  |0,0,_,_,_=>rfl
  |0,j+1,_,hj,e=>simp at hj;simp at e;omega
  |i+1,0,hi,_,e=>simp at hi;simp at e;omega
  |i+1,j+1,_,_,e=>simp at e;omega
end
end Go.Proofs.YtijplolmkcdflaaGreat
namespace Go.Proofs.YtijplolmkcdflaaGreat
open Tryz
open Go.RowKit Go.ChangeShapes Go.WideShapes Go.Deep
structure NS where
 kind:Int
 data:List UInt8
abbrev NS.cs (c:NS):Array Value:=#[.int .i64 c.kind,.string ⟨c.data.toArray⟩]
structure NS.ok (c:NS):Prop where
 kind:AP c.kind
 data:c.data.length≤140737488351232
instance Ab9:Ar NS where
 size:=2
 bytes:=24
 cells c:=c.cs.toList
 ok w c:=c.ok
 len _:=rfl
 pos:=by omega
 mono _ h:=h
theorem pF (c:NS):c.cs.all (·.oneCell')=true:=by simp [Value.oneCell']
theorem LU:DV prog 41 2:=⟨⟨_,underlying41,rfl⟩,by kernel_rfl⟩
end Go.Proofs.YtijplolmkcdflaaGreat
