/- What follows was written short by a program: the walks that lead to YtijplolmkcdflaaGreatModelOrder. -/
import Derived.OpenShut
import Derived.Deep.DeepCutAuto
import Derived.StillTailTactics
import Derived.ChangeKeysEq
import Derived.Test.YtijplolmkcdflaaGreatT0
set_option maxHeartbeats 4000000
set_option maxRecDepth 100000
set_option linter.unusedVariables false
set_option linter.unusedSimpArgs false
namespace Go.Proofs.YtijplolmkcdflaaGreat
open Tryz
open Go.RowKit
structure NQ where
 s:Int
 mn:Int
 mx:Int
deriving DecidableEq
structure Ag where
 c:Int
 p:NQ
 q:NQ
 r:NQ
deriving DecidableEq
def NQ.cs (x:NQ):Array Value:=#[.int .i64 x.s,.int .i64 x.mn,.int .i64 x.mx]
def Ag.cs (a:Ag):Array Value:=#[.int .i64 a.c,.int .i64 a.p.s,.int .i64 a.p.mn,.int .i64 a.p.mx,.int .i64 a.q.s,.int .i64 a.q.mn,.int .i64 a.q.mx,.int .i64 a.r.s,.int .i64 a.r.mn,.int .i64 a.r.mx]
structure NQ.ok (x:NQ):Prop where
 s:AP x.s
 mn:AP x.mn
 mx:AP x.mx
structure Ag.ok (a:Ag):Prop where
 c:AP a.c
 p:a.p.ok
 q:a.q.ok
 r:a.r.ok
def NQ.zero:NQ:=⟨0,0,0⟩
def Ag.zero:Ag:=⟨0,.zero,.zero,.zero⟩
def NQ.join (x y:NQ):NQ:=⟨(EM x.s y.s).1,min x.mn y.mn,max x.mx y.mx⟩
theorem VH (x y:NQ) (w:World) (hx:x.ok) (hy:y.ok):
 Calls prog 154 #[.agg x.cs,.agg y.cs] w fun e w'=>e=.returned (.tuple #[.agg (x.join y).cs,.bool (EM x.s y.s).2])∧Aj w w':=by
 obtain ⟨x0,x1,x2⟩:=x
 obtain ⟨y0,y1,y2⟩:=y
 have Hx:=Aa hx
 have Hy:=Aa hy
 clear hx hy
 unfold NQ.cs NQ.join
 simp only
 go_enter func154,ntmps154
 go_wp2_with fail
 refine (Sd _ _ _ Hx.s Hy.s).mono ?_;rintro e w1 ⟨rfl,rfl⟩
 go_wp2
 refine Ce (v:=.tuple #[.agg #[.int .i64 (EM x0 y0).1,.int .i64 (min x1 y1),.int .i64 (max x2 y2)],.bool (EM x0 y0).2]) (by simp [results,Tryz.results154,go_sem]) rfl ⟨rfl,?_⟩
 exact (((Aj.refl _).alloc _).alloc _).alloc _
def Ag.join (a b:Ag):Ag × Bool:=
 if a.c=0 then (b,true) else if b.c=0 then (a,true) else
 if (EM a.c b.c).2=true∧(EM a.p.s b.p.s).2=true∧(EM a.q.s b.q.s).2=true∧(EM a.r.s b.r.s).2=true
 then (⟨(EM a.c b.c).1,a.p.join b.p,a.q.join b.q,a.r.join b.r⟩,true) else (.zero,false)
def Ag.upto (a b:Ag) (k:Nat):Ag:=⟨(EM a.c b.c).1,if 0<k then a.p.join b.p else .zero,if 1<k then a.q.join b.q else .zero,if 2<k then a.r.join b.r else .zero⟩
theorem tZ (a b:Ag) (w:World) (ha:a.ok) (hb:b.ok) (h1:¬ a.c=0) (h2:¬ b.c=0) (h3:(EM a.c b.c).2=true):
 Calls prog 109 #[.agg a.cs,.agg b.cs] w fun e w'=>e=.returned (.tuple #[.agg (a.join b).1.cs,.bool (a.join b).2])∧Aj w w':=by
 have Ha:=Aa ha
 have Hb:=Aa hb
 clear ha hb
 have q1:(a.c==0)=false:=by simpa using h1
 have q2:(b.c==0)=false:=by simpa using h2
 have HJ:Hid (a.join b=if (EM a.p.s b.p.s).2=true∧(EM a.q.s b.q.s).2=true∧(EM a.r.s b.r.s).2=true then (a.upto b 3,true) else (.zero,false)):=by
  show _=_
  unfold Ag.join Ag.upto
  rw [Ah h1,Ah h2]
  simp [h3]
 clear h1 h2
 have ea:a.cs=#[.int .i64 a.c,.int .i64 a.p.s,.int .i64 a.p.mn,.int .i64 a.p.mx,.int .i64 a.q.s,.int .i64 a.q.mn,.int .i64 a.q.mx,.int .i64 a.r.s,.int .i64 a.r.mn,.int .i64 a.r.mx]:=rfl
 have eb:b.cs=#[.int .i64 b.c,.int .i64 b.p.s,.int .i64 b.p.mn,.int .i64 b.p.mx,.int .i64 b.q.s,.int .i64 b.q.mn,.int .i64 b.q.mx,.int .i64 b.r.s,.int .i64 b.r.mn,.int .i64 b.r.mx]:=rfl
 rw [ea,eb]
 clear ea eb
 go_enter func109,ntmps109
 go_wp2_with fail
 refine (Sd _ _ _ Ha.c Hb.c).mono ?_;rintro e w1 ⟨rfl,rfl⟩
 go_wp2_with fail
 have B0:Br ((((w.alloc (.cells a.cs 95)).alloc (.cells b.cs 95)).alloc (.cells Ag.zero.cs 95)).alloc (.cells (a.upto b 0).cs 95)) w.heap.size 95 a.cs:=(((Br.new w _ _).alloc _).alloc _).alloc _
 have B1:Br ((((w.alloc (.cells a.cs 95)).alloc (.cells b.cs 95)).alloc (.cells Ag.zero.cs 95)).alloc (.cells (a.upto b 0).cs 95)) (w.heap.size+1) 95 b.cs:=by
  have:=((Br.new (w.alloc (.cells a.cs 95)) 95 b.cs).alloc (.cells Ag.zero.cs 95)).alloc (.cells (a.upto b 0).cs 95)
  simpa using this
 have B2:Br ((((w.alloc (.cells a.cs 95)).alloc (.cells b.cs 95)).alloc (.cells Ag.zero.cs 95)).alloc (.cells (a.upto b 0).cs 95)) (w.heap.size+1+1) 95 Ag.zero.cs:=by
  have:=(Br.new ((w.alloc (.cells a.cs 95)).alloc (.cells b.cs 95)) 95 Ag.zero.cs).alloc (.cells (a.upto b 0).cs 95)
  simpa using this
 have B3:Br ((((w.alloc (.cells a.cs 95)).alloc (.cells b.cs 95)).alloc (.cells Ag.zero.cs 95)).alloc (.cells (a.upto b 0).cs 95)) (w.heap.size+1+1+1) 95 (a.upto b 0).cs:=by
  have:=Br.new (((w.alloc (.cells a.cs 95)).alloc (.cells b.cs 95)).alloc (.cells Ag.zero.cs 95)) 95 (a.upto b 0).cs
  simpa using this
 have BB:Aj w ((((w.alloc (.cells a.cs 95)).alloc (.cells b.cs 95)).alloc (.cells Ag.zero.cs 95)).alloc (.cells (a.upto b 0).cs 95)):=((((Aj.refl w).alloc _).alloc _).alloc _).alloc _
 go_loopg [7,32] 3 (fun g s7 s32 wr=>∃ k:Nat,g=3 - k∧k≤3∧s32=.int .i64 k∧s7=.bool true∧Aj w wr∧Br wr w.heap.size 95 a.cs∧Br wr (w.heap.size+1) 95 b.cs∧Br wr (w.heap.size+1+1) 95 Ag.zero.cs∧Br wr (w.heap.size+1+1+1) 95 (a.upto b k).cs∧
  Hid ((0<k→(EM a.p.s b.p.s).2=true)∧(1<k→(EM a.q.s b.q.s).2=true)∧(2<k→(EM a.r.s b.r.s).2=true)))
 case atStart=>exact ⟨0,rfl,by omega,rfl,rfl,BB,B0,B1,B2,B3,by refine ⟨?_,?_,?_⟩<;>intro h<;>omega⟩
 case round=>
  clear B0 B1 B2 B3 BB
  obtain ⟨k,BG,hk,rfl,rfl,hB,b0,b1,b2,b3,hF⟩:=hrel
  by_cases hlt:k<3
  ·rcases (show k=0∨k=1∨k=2 by omega) with rfl|rfl|rfl
   ·have c0:=b0.cell 1
    have d0:=b1.cell 1
    have c1:=b0.cell 2
    have d1:=b1.cell 2
    have c2:=b0.cell 3
    have d2:=b1.cell 3
    simp [Ag.cs] at c0 c1 c2 d0 d1 d2
    obtain ⟨m,Hm⟩:∃ m,Hid (a.p.join b.p=m):=⟨_,rfl⟩
    obtain ⟨ok,gM⟩:∃ ok,Hid ((EM a.p.s b.p.s).2=ok):=⟨_,rfl⟩
    have Hu:Hid (((((a.upto b 0).cs.setIfInBounds 1 (.int .i64 m.s)).setIfInBounds 2 (.int .i64 m.mn)).setIfInBounds 3 (.int .i64 m.mx))=(a.upto b 1).cs):=by rw [←Hm.Ab];rfl
    go_wp2_with fail
    go_region_with (go_at_call 154;refine (VH a.p b.p _ Ha.p Hb.p).mono ?_;rintro e w1 ⟨rfl,hb1⟩;rw [Hm.Ab,gM.Ab,show m.cs=#[.int .i64 m.s,.int .i64 m.mn,.int .i64 m.mx] from rfl];have b3':=b3.drew.Au hb1;have f0:=b3'.cell 1;have f1:=b3'.cell 2;have f2:=b3'.cell 3;simp [Ag.cs] at f0 f1 f2;have z0:=b3'.frozen 1;have z1:=b3'.frozen 2;have z2:=b3'.frozen 3)
    all_goals
     have b0':=((((b0.drew.Au hb1).far (p:=⟨w.heap.size+1+1+1,1,none⟩) (by simp;omega) (.int .i64 m.s)).far (p:=⟨w.heap.size+1+1+1,2,none⟩) (by simp;omega) (.int .i64 m.mn)).far (p:=⟨w.heap.size+1+1+1,3,none⟩) (by simp;omega) (.int .i64 m.mx))
     have b1':=((((b1.drew.Au hb1).far (p:=⟨w.heap.size+1+1+1,1,none⟩) (by simp) (.int .i64 m.s)).far (p:=⟨w.heap.size+1+1+1,2,none⟩) (by simp) (.int .i64 m.mn)).far (p:=⟨w.heap.size+1+1+1,3,none⟩) (by simp) (.int .i64 m.mx))
     have b2':=((((b2.drew.Au hb1).far (p:=⟨w.heap.size+1+1+1,1,none⟩) (by simp) (.int .i64 m.s)).far (p:=⟨w.heap.size+1+1+1,2,none⟩) (by simp) (.int .i64 m.mn)).far (p:=⟨w.heap.size+1+1+1,3,none⟩) (by simp) (.int .i64 m.mx))
     have fT:=((b3'.Gr 1 (.int .i64 m.s)).Gr 2 (.int .i64 m.mn)).Gr 3 (.int .i64 m.mx)
     rw [Hu.Ab] at fT
     have hB':=(((hB.drew.trans hb1).setCell (p:=⟨w.heap.size+1+1+1,1,none⟩) (by simp;omega) (.int .i64 m.s)).setCell (p:=⟨w.heap.size+1+1+1,2,none⟩) (by simp;omega) (.int .i64 m.mn)).setCell (p:=⟨w.heap.size+1+1+1,3,none⟩) (by simp;omega) (.int .i64 m.mx)
     generalize (((w1.setCell ⟨w.heap.size+1+1+1,1,none⟩ (.int .i64 m.s)).setCell ⟨w.heap.size+1+1+1,2,none⟩ (.int .i64 m.mn)).setCell ⟨w.heap.size+1+1+1,3,none⟩ (.int .i64 m.mx))=w2 at *
     clear f0 f1 f2 z0 z1 z2 c0 c1 c2 d0 d1 d2 b0 b1 b2 b3 b3' hB hb1
     cases ok
     ·have HJ':Hid (a.join b=(.zero,false)):=by
       show _=_
       rw [HJ.Ab,Ah]
       rintro ⟨k1,k2,k3⟩
       first|(rw [gM.Ab] at k1;cases k1)|(rw [gM.Ab] at k2;cases k2)|(rw [gM.Ab] at k3;cases k3)
      have lV:=b2'.cell 0
      have lU:=b2'.cell 1
      have lT:=b2'.cell 2
      have lS:=b2'.cell 3
      have lQ:=b2'.cell 4
      have lN:=b2'.cell 5
      have lM:=b2'.cell 6
      have lL:=b2'.cell 7
      have lK:=b2'.cell 8
      have lJ:=b2'.cell 9
      have gz0:=b2'.frozen 0
      have gz1:=b2'.frozen 1
      have gz2:=b2'.frozen 2
      have gz3:=b2'.frozen 3
      have gz4:=b2'.frozen 4
      have gz5:=b2'.frozen 5
      have gz6:=b2'.frozen 6
      have gz7:=b2'.frozen 7
      have gz8:=b2'.frozen 8
      have gz9:=b2'.frozen 9
      simp only [Ag.zero,NQ.zero,Ag.cs] at lV lU lT lS lQ lN lM lL lK lJ
      simp at lV lU lT lS lQ lN lM lL lK lJ
      go_wp2
      refine Ce (v:=.tuple #[.agg #[.int .i64 0,.int .i64 0,.int .i64 0,.int .i64 0,.int .i64 0,.int .i64 0,.int .i64 0,.int .i64 0,.int .i64 0,.int .i64 0],.bool false]) (by simp [results,Tryz.results109,go_sem,lV,lU,lT,lS,lQ,lN,lM,lL,lK,lJ] ) rfl ?_
      rw [HJ'.Ab]
      refine ⟨rfl,?_⟩
      iterate 10 (refine Aj.setCell ?_ (by simp;omega) _)
      exact hB'
     ·go_wp2
      go_roundg (3 - 1)
      case rel=>exact ⟨1,rfl,by omega,rfl,rfl,hB',b0',b1',b2',fT,by refine ⟨fun h=>?_,fun h=>?_,fun h=>?_⟩<;>first|omega|exact gM.Ab|exact hF.1 (by omega)|exact hF.2.1 (by omega)⟩
      case measure=>omega
   ·have c0:=b0.cell 4
    have d0:=b1.cell 4
    have c1:=b0.cell 5
    have d1:=b1.cell 5
    have c2:=b0.cell 6
    have d2:=b1.cell 6
    simp [Ag.cs] at c0 c1 c2 d0 d1 d2
    obtain ⟨m,Hm⟩:∃ m,Hid (a.q.join b.q=m):=⟨_,rfl⟩
    obtain ⟨ok,gM⟩:∃ ok,Hid ((EM a.q.s b.q.s).2=ok):=⟨_,rfl⟩
    have Hu:Hid (((((a.upto b 1).cs.setIfInBounds 4 (.int .i64 m.s)).setIfInBounds 5 (.int .i64 m.mn)).setIfInBounds 6 (.int .i64 m.mx))=(a.upto b 2).cs):=by rw [←Hm.Ab];rfl
    go_wp2_with fail
    go_region_with (go_at_call 154;refine (VH a.q b.q _ Ha.q Hb.q).mono ?_;rintro e w1 ⟨rfl,hb1⟩;rw [Hm.Ab,gM.Ab,show m.cs=#[.int .i64 m.s,.int .i64 m.mn,.int .i64 m.mx] from rfl];have b3':=b3.drew.Au hb1;have f0:=b3'.cell 4;have f1:=b3'.cell 5;have f2:=b3'.cell 6;simp [Ag.cs] at f0 f1 f2;have z0:=b3'.frozen 4;have z1:=b3'.frozen 5;have z2:=b3'.frozen 6)
    all_goals
     have b0':=((((b0.drew.Au hb1).far (p:=⟨w.heap.size+1+1+1,4,none⟩) (by simp;omega) (.int .i64 m.s)).far (p:=⟨w.heap.size+1+1+1,5,none⟩) (by simp;omega) (.int .i64 m.mn)).far (p:=⟨w.heap.size+1+1+1,6,none⟩) (by simp;omega) (.int .i64 m.mx))
     have b1':=((((b1.drew.Au hb1).far (p:=⟨w.heap.size+1+1+1,4,none⟩) (by simp) (.int .i64 m.s)).far (p:=⟨w.heap.size+1+1+1,5,none⟩) (by simp) (.int .i64 m.mn)).far (p:=⟨w.heap.size+1+1+1,6,none⟩) (by simp) (.int .i64 m.mx))
     have b2':=((((b2.drew.Au hb1).far (p:=⟨w.heap.size+1+1+1,4,none⟩) (by simp) (.int .i64 m.s)).far (p:=⟨w.heap.size+1+1+1,5,none⟩) (by simp) (.int .i64 m.mn)).far (p:=⟨w.heap.size+1+1+1,6,none⟩) (by simp) (.int .i64 m.mx))
     have fT:=((b3'.Gr 4 (.int .i64 m.s)).Gr 5 (.int .i64 m.mn)).Gr 6 (.int .i64 m.mx)
     rw [Hu.Ab] at fT
     have hB':=(((hB.drew.trans hb1).setCell (p:=⟨w.heap.size+1+1+1,4,none⟩) (by simp;omega) (.int .i64 m.s)).setCell (p:=⟨w.heap.size+1+1+1,5,none⟩) (by simp;omega) (.int .i64 m.mn)).setCell (p:=⟨w.heap.size+1+1+1,6,none⟩) (by simp;omega) (.int .i64 m.mx)
     generalize (((w1.setCell ⟨w.heap.size+1+1+1,4,none⟩ (.int .i64 m.s)).setCell ⟨w.heap.size+1+1+1,5,none⟩ (.int .i64 m.mn)).setCell ⟨w.heap.size+1+1+1,6,none⟩ (.int .i64 m.mx))=w2 at *
     clear f0 f1 f2 z0 z1 z2 c0 c1 c2 d0 d1 d2 b0 b1 b2 b3 b3' hB hb1
     cases ok
     ·have HJ':Hid (a.join b=(.zero,false)):=by
       show _=_
       rw [HJ.Ab,Ah]
       rintro ⟨k1,k2,k3⟩
       first|(rw [gM.Ab] at k1;cases k1)|(rw [gM.Ab] at k2;cases k2)|(rw [gM.Ab] at k3;cases k3)
      have lV:=b2'.cell 0
      have lU:=b2'.cell 1
      have lT:=b2'.cell 2
      have lS:=b2'.cell 3
      have lQ:=b2'.cell 4
      have lN:=b2'.cell 5
      have lM:=b2'.cell 6
      have lL:=b2'.cell 7
      have lK:=b2'.cell 8
      have lJ:=b2'.cell 9
      have gz0:=b2'.frozen 0
      have gz1:=b2'.frozen 1
      have gz2:=b2'.frozen 2
      have gz3:=b2'.frozen 3
      have gz4:=b2'.frozen 4
      have gz5:=b2'.frozen 5
      have gz6:=b2'.frozen 6
      have gz7:=b2'.frozen 7
      have gz8:=b2'.frozen 8
      have gz9:=b2'.frozen 9
      simp only [Ag.zero,NQ.zero,Ag.cs] at lV lU lT lS lQ lN lM lL lK lJ
      simp at lV lU lT lS lQ lN lM lL lK lJ
      go_wp2
      refine Ce (v:=.tuple #[.agg #[.int .i64 0,.int .i64 0,.int .i64 0,.int .i64 0,.int .i64 0,.int .i64 0,.int .i64 0,.int .i64 0,.int .i64 0,.int .i64 0],.bool false]) (by simp [results,Tryz.results109,go_sem,lV,lU,lT,lS,lQ,lN,lM,lL,lK,lJ] ) rfl ?_
      rw [HJ'.Ab]
      refine ⟨rfl,?_⟩
      iterate 10 (refine Aj.setCell ?_ (by simp;omega) _)
      exact hB'
     ·go_wp2
      go_roundg (3 - 2)
      case rel=>exact ⟨2,rfl,by omega,rfl,rfl,hB',b0',b1',b2',fT,by refine ⟨fun h=>?_,fun h=>?_,fun h=>?_⟩<;>first|omega|exact gM.Ab|exact hF.1 (by omega)|exact hF.2.1 (by omega)⟩
      case measure=>omega
   ·have c0:=b0.cell 7
    have d0:=b1.cell 7
    have c1:=b0.cell 8
    have d1:=b1.cell 8
    have c2:=b0.cell 9
    have d2:=b1.cell 9
    simp [Ag.cs] at c0 c1 c2 d0 d1 d2
    obtain ⟨m,Hm⟩:∃ m,Hid (a.r.join b.r=m):=⟨_,rfl⟩
    obtain ⟨ok,gM⟩:∃ ok,Hid ((EM a.r.s b.r.s).2=ok):=⟨_,rfl⟩
    have Hu:Hid (((((a.upto b 2).cs.setIfInBounds 7 (.int .i64 m.s)).setIfInBounds 8 (.int .i64 m.mn)).setIfInBounds 9 (.int .i64 m.mx))=(a.upto b 3).cs):=by rw [←Hm.Ab];rfl
    go_wp2_with fail
    go_region_with (go_at_call 154;refine (VH a.r b.r _ Ha.r Hb.r).mono ?_;rintro e w1 ⟨rfl,hb1⟩;rw [Hm.Ab,gM.Ab,show m.cs=#[.int .i64 m.s,.int .i64 m.mn,.int .i64 m.mx] from rfl];have b3':=b3.drew.Au hb1;have f0:=b3'.cell 7;have f1:=b3'.cell 8;have f2:=b3'.cell 9;simp [Ag.cs] at f0 f1 f2;have z0:=b3'.frozen 7;have z1:=b3'.frozen 8;have z2:=b3'.frozen 9)
    all_goals
     have b0':=((((b0.drew.Au hb1).far (p:=⟨w.heap.size+1+1+1,7,none⟩) (by simp;omega) (.int .i64 m.s)).far (p:=⟨w.heap.size+1+1+1,8,none⟩) (by simp;omega) (.int .i64 m.mn)).far (p:=⟨w.heap.size+1+1+1,9,none⟩) (by simp;omega) (.int .i64 m.mx))
     have b1':=((((b1.drew.Au hb1).far (p:=⟨w.heap.size+1+1+1,7,none⟩) (by simp) (.int .i64 m.s)).far (p:=⟨w.heap.size+1+1+1,8,none⟩) (by simp) (.int .i64 m.mn)).far (p:=⟨w.heap.size+1+1+1,9,none⟩) (by simp) (.int .i64 m.mx))
     have b2':=((((b2.drew.Au hb1).far (p:=⟨w.heap.size+1+1+1,7,none⟩) (by simp) (.int .i64 m.s)).far (p:=⟨w.heap.size+1+1+1,8,none⟩) (by simp) (.int .i64 m.mn)).far (p:=⟨w.heap.size+1+1+1,9,none⟩) (by simp) (.int .i64 m.mx))
     have fT:=((b3'.Gr 7 (.int .i64 m.s)).Gr 8 (.int .i64 m.mn)).Gr 9 (.int .i64 m.mx)
     rw [Hu.Ab] at fT
     have hB':=(((hB.drew.trans hb1).setCell (p:=⟨w.heap.size+1+1+1,7,none⟩) (by simp;omega) (.int .i64 m.s)).setCell (p:=⟨w.heap.size+1+1+1,8,none⟩) (by simp;omega) (.int .i64 m.mn)).setCell (p:=⟨w.heap.size+1+1+1,9,none⟩) (by simp;omega) (.int .i64 m.mx)
     generalize (((w1.setCell ⟨w.heap.size+1+1+1,7,none⟩ (.int .i64 m.s)).setCell ⟨w.heap.size+1+1+1,8,none⟩ (.int .i64 m.mn)).setCell ⟨w.heap.size+1+1+1,9,none⟩ (.int .i64 m.mx))=w2 at *
     clear f0 f1 f2 z0 z1 z2 c0 c1 c2 d0 d1 d2 b0 b1 b2 b3 b3' hB hb1
     cases ok
     ·have HJ':Hid (a.join b=(.zero,false)):=by
       show _=_
       rw [HJ.Ab,Ah]
       rintro ⟨k1,k2,k3⟩
       first|(rw [gM.Ab] at k1;cases k1)|(rw [gM.Ab] at k2;cases k2)|(rw [gM.Ab] at k3;cases k3)
      have lV:=b2'.cell 0
      have lU:=b2'.cell 1
      have lT:=b2'.cell 2
      have lS:=b2'.cell 3
      have lQ:=b2'.cell 4
      have lN:=b2'.cell 5
      have lM:=b2'.cell 6
      have lL:=b2'.cell 7
      have lK:=b2'.cell 8
      have lJ:=b2'.cell 9
      have gz0:=b2'.frozen 0
      have gz1:=b2'.frozen 1
      have gz2:=b2'.frozen 2
      have gz3:=b2'.frozen 3
      have gz4:=b2'.frozen 4
      have gz5:=b2'.frozen 5
      have gz6:=b2'.frozen 6
      have gz7:=b2'.frozen 7
      have gz8:=b2'.frozen 8
      have gz9:=b2'.frozen 9
      simp only [Ag.zero,NQ.zero,Ag.cs] at lV lU lT lS lQ lN lM lL lK lJ
      simp at lV lU lT lS lQ lN lM lL lK lJ
      go_wp2
      refine Ce (v:=.tuple #[.agg #[.int .i64 0,.int .i64 0,.int .i64 0,.int .i64 0,.int .i64 0,.int .i64 0,.int .i64 0,.int .i64 0,.int .i64 0,.int .i64 0],.bool false]) (by simp [results,Tryz.results109,go_sem,lV,lU,lT,lS,lQ,lN,lM,lL,lK,lJ] ) rfl ?_
      rw [HJ'.Ab]
      refine ⟨rfl,?_⟩
      iterate 10 (refine Aj.setCell ?_ (by simp;omega) _)
      exact hB'
     ·go_wp2
      go_roundg (3 - 3)
      case rel=>exact ⟨3,rfl,by omega,rfl,rfl,hB',b0',b1',b2',fT,by refine ⟨fun h=>?_,fun h=>?_,fun h=>?_⟩<;>first|omega|exact gM.Ab|exact hF.1 (by omega)|exact hF.2.1 (by omega)⟩
      case measure=>omega
  ·obtain rfl:k=3:=by omega
   have HJ':Hid (a.join b=(a.upto b 3,true)):=by
    show _=_
    rw [HJ.Ab,Ak ⟨hF.1 (by omega),hF.2.1 (by omega),hF.2.2 (by omega)⟩]
   obtain ⟨m,Hm⟩:∃ m,Hid (a.upto b 3=m):=⟨_,rfl⟩
   rw [Hm.Ab] at HJ' b3
   clear HJ hF
   have lV:=b2.cell 0
   have lU:=b2.cell 1
   have lT:=b2.cell 2
   have lS:=b2.cell 3
   have lQ:=b2.cell 4
   have lN:=b2.cell 5
   have lM:=b2.cell 6
   have lL:=b2.cell 7
   have lK:=b2.cell 8
   have lJ:=b2.cell 9
   have gz0:=b2.frozen 0
   have gz1:=b2.frozen 1
   have gz2:=b2.frozen 2
   have gz3:=b2.frozen 3
   have gz4:=b2.frozen 4
   have gz5:=b2.frozen 5
   have gz6:=b2.frozen 6
   have gz7:=b2.frozen 7
   have gz8:=b2.frozen 8
   have gz9:=b2.frozen 9
   have hc0:=b3.cell 0
   have hc1:=b3.cell 1
   have hc2:=b3.cell 2
   have hc3:=b3.cell 3
   have hc4:=b3.cell 4
   have hc5:=b3.cell 5
   have hc6:=b3.cell 6
   have hc7:=b3.cell 7
   have hc8:=b3.cell 8
   have hc9:=b3.cell 9
   simp only [Ag.zero,NQ.zero,Ag.cs] at lV lU lT lS lQ lN lM lL lK lJ hc0 hc1 hc2 hc3 hc4 hc5 hc6 hc7 hc8 hc9
   simp at lV lU lT lS lQ lN lM lL lK lJ hc0 hc1 hc2 hc3 hc4 hc5 hc6 hc7 hc8 hc9
   go_wp2
   refine Ce (v:=.tuple #[.agg m.cs,.bool true]) (by simp [results,Tryz.results109,go_sem,Ag.cs,lV,lU,lT,lS,lQ,lN,lM,lL,lK,lJ]) rfl ?_
   rw [HJ'.Ab]
   refine ⟨rfl,?_⟩
   iterate 10 (refine Aj.setCell ?_ (by simp;omega) _)
   exact hB
theorem uA (a b:Ag) (w:World) (h1:a.c=0):
 Calls prog 109 #[.agg a.cs,.agg b.cs] w fun e w'=>e=.returned (.tuple #[.agg b.cs,.bool true])∧Aj w w':=by
 have q1:(a.c==0)=true:=by simp [h1]
 clear h1
 unfold Ag.cs
 go_enter func109,ntmps109
 go_wp2
 refine Ce (v:=.tuple #[.agg b.cs,.bool true]) (by simp [results,Tryz.results109,go_sem,Ag.cs]) rfl ⟨rfl,?_⟩
 exact (((Aj.refl _).alloc _).alloc _).alloc _
theorem lC (a b:Ag) (w:World) (h1:¬ a.c=0) (h2:b.c=0):
 Calls prog 109 #[.agg a.cs,.agg b.cs] w fun e w'=>e=.returned (.tuple #[.agg a.cs,.bool true])∧Aj w w':=by
 have q1:(a.c==0)=false:=by simp [h1]
 have q2:(b.c==0)=true:=by simp [h2]
 clear h1 h2
 unfold Ag.cs
 go_enter func109,ntmps109
 go_wp2
 refine Ce (v:=.tuple #[.agg a.cs,.bool true]) (by simp [results,Tryz.results109,go_sem,Ag.cs]) rfl ⟨rfl,?_⟩
 exact (((Aj.refl _).alloc _).alloc _).alloc _
theorem tY (a b:Ag) (w:World) (ha:a.ok) (hb:b.ok) (h1:¬ a.c=0) (h2:¬ b.c=0) (h3:(EM a.c b.c).2=false):
 Calls prog 109 #[.agg a.cs,.agg b.cs] w fun e w'=>e=.returned (.tuple #[.agg Ag.zero.cs,.bool false])∧Aj w w':=by
 have q1:(a.c==0)=false:=by simp [h1]
 have q2:(b.c==0)=false:=by simp [h2]
 have Ha:=Aa ha
 have Hb:=Aa hb
 clear h1 h2 ha hb
 unfold Ag.cs
 go_enter func109,ntmps109
 go_wp2_with fail
 refine (Sd _ _ _ Ha.c Hb.c).mono ?_;rintro e w1 ⟨rfl,rfl⟩
 go_wp2
 refine Ce (v:=.tuple #[.agg Ag.zero.cs,.bool false]) (by simp [results,Tryz.results109,go_sem,Ag.cs,Ag.zero,NQ.zero]) rfl ⟨rfl,?_⟩
 exact ((((Aj.refl _).alloc _).alloc _).alloc _).alloc _
theorem zR (a b:Ag) (w:World) (ha:a.ok) (hb:b.ok):
 Calls prog 109 #[.agg a.cs,.agg b.cs] w fun e w'=>e=.returned (.tuple #[.agg (a.join b).1.cs,.bool (a.join b).2])∧Aj w w':=by
 by_cases h1:a.c=0
 ·refine (uA a b w h1).mono fun _ _ h=>⟨?_,h.2⟩
  rw [Ag.join,Ak h1];exact h.1
 ·by_cases h2:b.c=0
  ·refine (lC a b w h1 h2).mono fun _ _ h=>⟨?_,h.2⟩
   rw [Ag.join,Ah h1,Ak h2];exact h.1
  ·by_cases h3:(EM a.c b.c).2=true
   ·exact tZ a b w ha hb h1 h2 h3
   ·refine (tY a b w ha hb h1 h2 (by simpa using h3)).mono fun _ _ h=>⟨?_,h.2⟩
    rw [Ag.join,Ah h1,Ah h2,Ah (fun k=>h3 k.1)];exact h.1
theorem M3 (x:Int):AP (YP x).1:=by
 unfold YP
 split
 ·assumption
 ·unfold AP;simp
theorem nZ (a b:Int):AP (EM a b).1:=M3 _
theorem Om {x y:NQ} (hx:x.ok) (hy:y.ok):(x.join y).ok:=
 ⟨nZ _ _,by have:=hx.mn;have:=hy.mn;unfold AP at *;simp only [NQ.join];omega,by have:=hx.mx;have:=hy.mx;unfold AP at *;simp only [NQ.join];omega⟩
theorem Lr:NQ.zero.ok:=⟨by unfold AP NQ.zero;simp,by unfold AP NQ.zero;simp,by unfold AP NQ.zero;simp⟩
theorem L9:Ag.zero.ok:=⟨by unfold AP Ag.zero;simp,Lr,Lr,Lr⟩
theorem Q6 {a b:Ag} (ha:a.ok) (hb:b.ok):(a.join b).1.ok:=by
 unfold Ag.join
 split
 ·exact hb
 ·split
  ·exact ha
  ·split
   ·exact ⟨nZ _ _,Om ha.p hb.p,Om ha.q hb.q,Om ha.r hb.r⟩
   ·exact L9
def MG (l:List Ag):List Value:=l.flatMap fun a=>a.cs.toList
theorem Un (l:List Ag):(MG l).length=l.length * 10:=by
 induction l with
 |nil=>rfl
 |cons a l ih=>simp only [MG,CY,BQ,CZ] at ih ⊢;rw [ih];simp [Ag.cs];omega
theorem Ug (l:List Ag) (k j:Nat) (a:Ag) (h:l[k]?=some a) (hj:j<10):(MG l)[k * 10+j]?=a.cs[j]?:=by
 induction l generalizing k with
 |nil=>simp at h
 |cons b l ih=>
  have hb:b.cs.toList.length=10:=by simp [Ag.cs]
  cases k with
  |zero=>
   simp at h
   subst h
   simp only [MG,CY]
   rw [Nz (by omega)]
   simp
  |succ k=>
   simp at h
   have:=ih k h
   simp only [MG,CY] at this ⊢
   rw [NZ (by omega),hb,←this]
   congr 1
   omega
theorem XM {w:World} {ad:Addr} {u:Value} (h:w.cell? (ad.add 0)=some u):ad=⟨ad.block,ad.off,none⟩:=by
 obtain ⟨b,o,sp⟩:=ad
 have h1:=World.cell?_spot h
 simp [Addr.add] at h1
 subst h1
 rfl
theorem Rd.ag {w:World} {A:Option Addr} {n k:Nat} {l:List Ag} (h:Rd w 10 A n (MG l)) (hk:k<n):
 ∃ b o a,A=some ⟨b,o,none⟩∧l[k]?=some a∧∀ j,j<10→w.cell? ⟨b,o+k * 10+j,none⟩=a.cs[j]?:=by
 obtain ⟨ad,e,_,hc⟩:=h.2 (by omega)
 have hl:l.length=n:=by have:=h.1;rw [Un] at this;omega
 have key:∀ j,j<10→w.cell? (ad.add (k * 10+j))=l[k].cs[j]?:=by
  intro j hj
  have h1:=Ug l k j l[k] (Ep (by omega)) hj
  have h2:(l[k].cs)[j]?=some ((l[k].cs)[j]'(by simp [Ag.cs];omega)):=UY _
  rw [h2] at h1 ⊢
  exact hc _ _ h1
 have h0:w.cell? (ad.add 0)=some (.int .i64 l[0].c):=by
  have h1:=Ug l 0 0 l[0] (Ep (by omega)) (by omega)
  exact hc 0 _ h1
 have hs:=XM h0
 refine ⟨ad.block,ad.off,l[k],by rw [e,←hs],Ep (by omega),fun j hj=>?_⟩
 have h3:=key j hj
 rw [hs,Qi,←Ns] at h3
 exact h3
def YE (w:World) (g:Nat) (m:Ag):World:=((((((((((w.setCell ⟨g,0,none⟩ (.int .i64 m.c)).setCell ⟨g,1,none⟩ (.int .i64 m.p.s)).setCell ⟨g,2,none⟩ (.int .i64 m.p.mn)).setCell ⟨g,3,none⟩ (.int .i64 m.p.mx)).setCell ⟨g,4,none⟩ (.int .i64 m.q.s)).setCell ⟨g,5,none⟩ (.int .i64 m.q.mn)).setCell ⟨g,6,none⟩ (.int .i64 m.q.mx)).setCell ⟨g,7,none⟩ (.int .i64 m.r.s)).setCell ⟨g,8,none⟩ (.int .i64 m.r.mn)).setCell ⟨g,9,none⟩ (.int .i64 m.r.mx))
theorem N9 (cs:Array Value) (hs:cs.size=10) (m:Ag):((((((((((cs.setIfInBounds 0 (.int .i64 m.c)).setIfInBounds 1 (.int .i64 m.p.s)).setIfInBounds 2 (.int .i64 m.p.mn)).setIfInBounds 3 (.int .i64 m.p.mx)).setIfInBounds 4 (.int .i64 m.q.s)).setIfInBounds 5 (.int .i64 m.q.mn)).setIfInBounds 6 (.int .i64 m.q.mx)).setIfInBounds 7 (.int .i64 m.r.s)).setIfInBounds 8 (.int .i64 m.r.mn)).setIfInBounds 9 (.int .i64 m.r.mx))=m.cs:=by
 obtain ⟨l⟩:=cs
 match l,hs with
 |[x0,x1,x2,x3,x4,x5,x6,x7,x8,x9],_=>simp [Ag.cs]
theorem Br.YE {w:World} {g:Nat} {t:TypeId} {cs:Array Value} (h:Br w g t cs) (hs:cs.size=10) (m:Ag):Br (YE w g m) g t m.cs:=by
 have h2:=((((((((((h.Gr 0 (.int .i64 m.c)).Gr 1 (.int .i64 m.p.s)).Gr 2 (.int .i64 m.p.mn)).Gr 3 (.int .i64 m.p.mx)).Gr 4 (.int .i64 m.q.s)).Gr 5 (.int .i64 m.q.mn)).Gr 6 (.int .i64 m.q.mx)).Gr 7 (.int .i64 m.r.s)).Gr 8 (.int .i64 m.r.mn)).Gr 9 (.int .i64 m.r.mx))
 rw [N9 cs hs m] at h2
 exact h2
theorem Aj.YE {a w:World} {g:Nat} (h:Aj a w) (hg:a.heap.size≤g) (m:Ag):Aj a (Proofs.YtijplolmkcdflaaGreat.YE w g m):=by
 unfold Proofs.YtijplolmkcdflaaGreat.YE
 iterate 10 (refine Aj.setCell ?_ hg _)
 exact h
def Ag.all:Ag→List Ag→Ag × Bool
 |a,[]=>(a,true)
 |a,b::l=>if (a.join b).2=true then Ag.all (a.join b).1 l else (.zero,false)
theorem Aj.jH {a w:World} {g x y z:Nat} (h:Aj a w) (hg:a.heap.size≤g) (u u' u'':Value):Aj a (((w.setCell ⟨g,x,none⟩ u).setCell ⟨g,y,none⟩ u').setCell ⟨g,z,none⟩ u''):=
 ((h.setCell hg _).setCell hg _).setCell hg _
theorem Br.far3 {w:World} {g' g x y z:Nat} {t:TypeId} {cs:Array Value} (h:Br w g' t cs) (hne:g'≠g) (u u' u'':Value):Br (((w.setCell ⟨g,x,none⟩ u).setCell ⟨g,y,none⟩ u').setCell ⟨g,z,none⟩ u'') g' t cs:=
 ((h.far (p:=⟨g,x,none⟩) hne _).far (p:=⟨g,y,none⟩) hne _).far (p:=⟨g,z,none⟩) hne _
theorem Br.jH {w:World} {g:Nat} {t:TypeId} {cs cs':Array Value} (h:Br w g t cs) (x y z:Nat) (u u' u'':Value) (e:((cs.setIfInBounds x u).setIfInBounds y u').setIfInBounds z u''=cs'):Br (((w.setCell ⟨g,x,none⟩ u).setCell ⟨g,y,none⟩ u').setCell ⟨g,z,none⟩ u'') g t cs':=by
 have:=((h.Gr x u).Gr y u').Gr z u''
 rw [e] at this
 exact this
theorem Rd.PZ {w:World} {A:Option Addr} {n k:Nat} {kd:IntKind} {zs:List Int} (h:Rd w 1 A n (zs.map (Value.int kd))) (hk:k<n):
 ∃ b o z,A=some ⟨b,o,none⟩∧zs[k]?=some z∧w.cell? ⟨b,o+k,none⟩=some (.int kd z):=by
 obtain ⟨ad,z,e,hz,hc⟩:=h.int hk
 obtain ⟨ad',z',e',_,hc'⟩:=h.int (k:=0) (by omega)
 rw [e] at e'
 injection e' with e'
 subst e'
 have hs:=XM hc'
 refine ⟨ad.block,ad.off,z,by rw [e,←hs],hz,?_⟩
 rw [hs,Qi] at hc
 exact hc
def Ls (zs:List Int) (i:Nat):NQ:=match zs[i]? with|some v=>⟨v,v,v⟩|none=>.zero
def Ag.of (zs:List Int):Ag:=⟨1,Ls zs 0,Ls zs 1,Ls zs 2⟩
theorem Na {zs:List Int} {i:Nat} {v:Int} (h:zs[i]?=some v):Ls zs i=⟨v,v,v⟩:=by simp only [Ls,h]
theorem Qv {zs:List Int} {i:Nat} (h:zs[i]?=none):Ls zs i=.zero:=by simp only [Ls,h]
theorem Qu {zs:List Int} {i k:Nat}:Ls (zs.take k) i=if i<k then Ls zs i else .zero:=by
 by_cases h:i<k
 ·rw [Ak h];simp only [Ls,Gu h]
 ·rw [Ah h];exact Qv (by rw [Qk,Ah h])
theorem rR (i:Nat):Ls [] i=.zero:=Qv (by simp)
theorem zI (zs:List Int) (x:Int) (h:zs[0]?=some x):(((Ag.of (zs.take 0)).cs.setIfInBounds 1 (.int .i64 x)).setIfInBounds 2 (.int .i64 x)).setIfInBounds 3 (.int .i64 x)=(Ag.of (zs.take 1)).cs:=by
 rw [wU]
 simp [Ag.of,Ag.cs,Qu,Na h,rR]
theorem zH (zs:List Int) (x:Int) (h:zs[1]?=some x):(((Ag.of (zs.take 1)).cs.setIfInBounds 4 (.int .i64 x)).setIfInBounds 5 (.int .i64 x)).setIfInBounds 6 (.int .i64 x)=(Ag.of (zs.take 2)).cs:=by
 simp [Ag.of,Ag.cs,Qu,Na h]
theorem zG (zs:List Int) (x:Int) (h:zs[2]?=some x):(((Ag.of (zs.take 2)).cs.setIfInBounds 7 (.int .i64 x)).setIfInBounds 8 (.int .i64 x)).setIfInBounds 9 (.int .i64 x)=(Ag.of (zs.take 3)).cs:=by
 simp [Ag.of,Ag.cs,Qu,Na h]
theorem P7 (zs:List Int):(Ag.of (zs.take 0)).cs=#[.int .i64 1,.int .i64 0,.int .i64 0,.int .i64 0,.int .i64 0,.int .i64 0,.int .i64 0,.int .i64 0,.int .i64 0,.int .i64 0]:=by
 rw [wU]
 rfl
theorem Ad8 {zs:List Int} (h:∀ z ∈ zs,AP z):(Ag.of zs).ok:=by
 have hp:∀ i,(Ls zs i).ok:=by
  intro i
  cases hz:zs[i]? with
  |none=>rw [Qv hz];exact Lr
  |some v=>rw [Na hz];have:=h v (CE hz);exact ⟨this,this,this⟩
 exact ⟨by unfold AP Ag.of;simp,hp 0,hp 1,hp 2⟩
theorem Ab0 (A:Option Addr) (n c:Nat) (zs:List Int) (w:World) (hr:Rd w 1 A n (zs.map (Value.int .i64))) (hn:n≤3):
 Calls prog 100 #[.slice A n c] w fun e w'=>e=.returned (.tuple #[.agg (Ag.of zs).cs,.int .i64 0])∧Aj w w':=by
 have hlen:Hid (zs.length=n):=by have:=hr.len;show _=_;simpa using this
 have dn:decide (3<(n:Int))=false:=by simp;omega
 go_enter func100,ntmps100
 go_wp2
 rw [←P7 zs]
 have BB:Aj w ((w.alloc (.cells Ag.zero.cs 95)).alloc (.cells (Ag.of (zs.take 0)).cs 95)):=((Aj.refl w).alloc _).alloc _
 have B0:Br ((w.alloc (.cells Ag.zero.cs 95)).alloc (.cells (Ag.of (zs.take 0)).cs 95)) w.heap.size 95 Ag.zero.cs:=(Br.new w _ _).alloc _
 have B1:Br ((w.alloc (.cells Ag.zero.cs 95)).alloc (.cells (Ag.of (zs.take 0)).cs 95)) (w.heap.size+1) 95 (Ag.of (zs.take 0)).cs:=by
  have:=Br.new (w.alloc (.cells Ag.zero.cs 95)) 95 (Ag.of (zs.take 0)).cs
  rw [Kl] at this
  exact this
 go_loopg [14] n (fun g i wr=>∃ k:Nat,g=n - k∧k≤n∧k≤3∧i=.int .i64 k∧Aj w wr∧Br wr w.heap.size 95 Ag.zero.cs∧Br wr (w.heap.size+1) 95 (Ag.of (zs.take k)).cs)
 case atStart=>exact ⟨0,rfl,by omega,by omega,rfl,BB,B0,B1⟩
 case round=>
  clear B0 B1 BB
  obtain ⟨k,BG,hk,hk3,rfl,hB,b0,b1⟩:=hrel
  by_cases hlt:k<n
  ·obtain ⟨bb,oo,x,rfl,hx,hcx⟩:=(hr.Au hB).PZ hlt
   have Hx:=Aa hx
   clear hx
   rcases (show k=0∨k=1∨k=2 by omega) with rfl|rfl|rfl
   ·have f0:=b1.cell 1
    have f1:=b1.cell 2
    have f2:=b1.cell 3
    have z0:=b1.frozen 1
    have z1:=b1.frozen 2
    have z2:=b1.frozen 3
    simp [Ag.cs] at f0 f1 f2
    try simp only [Jk] at hcx
    rw [show ((0:Nat):Int)=0 from rfl]
    go_wp2
    go_roundg (n - 1)
    case rel=>exact ⟨1,rfl,by omega,by omega,rfl,Aj.jH hB (by omega) _ _ _,Br.far3 b0 (by omega) _ _ _,Br.jH b1 1 2 3 (.int .i64 x) (.int .i64 x) (.int .i64 x) (zI zs x Hx.Ab)⟩
    case measure=>omega
   ·have f0:=b1.cell 4
    have f1:=b1.cell 5
    have f2:=b1.cell 6
    have z0:=b1.frozen 4
    have z1:=b1.frozen 5
    have z2:=b1.frozen 6
    simp [Ag.cs] at f0 f1 f2
    try simp only [Jk] at hcx
    rw [show ((1:Nat):Int)=1 from rfl]
    go_wp2
    go_roundg (n - 2)
    case rel=>exact ⟨2,rfl,by omega,by omega,rfl,Aj.jH hB (by omega) _ _ _,Br.far3 b0 (by omega) _ _ _,Br.jH b1 4 5 6 (.int .i64 x) (.int .i64 x) (.int .i64 x) (zH zs x Hx.Ab)⟩
    case measure=>omega
   ·have f0:=b1.cell 7
    have f1:=b1.cell 8
    have f2:=b1.cell 9
    have z0:=b1.frozen 7
    have z1:=b1.frozen 8
    have z2:=b1.frozen 9
    simp [Ag.cs] at f0 f1 f2
    try simp only [Jk] at hcx
    rw [show ((2:Nat):Int)=2 from rfl]
    go_wp2
    go_roundg (n - 3)
    case rel=>exact ⟨3,rfl,by omega,by omega,rfl,Aj.jH hB (by omega) _ _ _,Br.far3 b0 (by omega) _ _ _,Br.jH b1 7 8 9 (.int .i64 x) (.int .i64 x) (.int .i64 x) (zG zs x Hx.Ab)⟩
    case measure=>omega
  ·have HE:Hid (zs.take k=zs):=by show _=_;exact DY (by have:=hlen.Ab;omega)
   rw [HE.Ab] at b1
   obtain ⟨m,Hm⟩:∃ m,Hid (Ag.of zs=m):=⟨_,rfl⟩
   rw [Hm.Ab] at b1
   clear HE
   have x0:=b0.cell 0
   have x1:=b0.cell 1
   have x2:=b0.cell 2
   have x3:=b0.cell 3
   have x4:=b0.cell 4
   have x5:=b0.cell 5
   have x6:=b0.cell 6
   have x7:=b0.cell 7
   have x8:=b0.cell 8
   have x9:=b0.cell 9
   have y0:=b0.frozen 0
   have y1:=b0.frozen 1
   have y2:=b0.frozen 2
   have y3:=b0.frozen 3
   have y4:=b0.frozen 4
   have y5:=b0.frozen 5
   have y6:=b0.frozen 6
   have y7:=b0.frozen 7
   have y8:=b0.frozen 8
   have y9:=b0.frozen 9
   have d0:=b1.cell 0
   have d1:=b1.cell 1
   have d2:=b1.cell 2
   have d3:=b1.cell 3
   have d4:=b1.cell 4
   have d5:=b1.cell 5
   have d6:=b1.cell 6
   have d7:=b1.cell 7
   have d8:=b1.cell 8
   have d9:=b1.cell 9
   simp only [Ag.zero,NQ.zero,Ag.cs] at x0 x1 x2 x3 x4 x5 x6 x7 x8 x9 d0 d1 d2 d3 d4 d5 d6 d7 d8 d9
   simp at x0 x1 x2 x3 x4 x5 x6 x7 x8 x9 d0 d1 d2 d3 d4 d5 d6 d7 d8 d9
   go_wp2
   refine Ce (v:=.tuple #[.agg m.cs,.int .i64 0]) (by simp [results,Tryz.results100,go_sem,Ag.cs,x0,x1,x2,x3,x4,x5,x6,x7,x8,x9]) rfl ?_
   rw [Hm.Ab]
   exact ⟨rfl,hB.YE (g:=w.heap.size) (by omega) m⟩
theorem EC:DV prog 95 10:=⟨⟨_,underlying95,rfl⟩,by kernel_rfl⟩
theorem Kg (m:Ag):m.cs.all (·.oneCell')=true:=by simp [Ag.cs,Value.oneCell']
end Go.Proofs.YtijplolmkcdflaaGreat
namespace Go.Proofs.YtijplolmkcdflaaGreat
open Tryz
open Go.RowKit Go.ChangeShapes Go.WideShapes Go.Deep
theorem mU:prog.cellsOf 92=3:=by kernel_rfl
theorem zV {n:Int} (h:(Lit.int .i64 n).wf=true):AP n:=bounds_i64 h
end Go.Proofs.YtijplolmkcdflaaGreat
namespace Go.Proofs.YtijplolmkcdflaaGreat
open Tryz
open Go.RowKit
theorem uF:(prog.info? 92).map (fun i=>(i.zero,i.size,i.bytes))=some (some (.agg #[.int .i64 0,.int .i64 0,.int .i64 0]),3,24):=by kernel_rfl
theorem OC:prog.eqGuardType prog.depth 95=false:=by kernel_rfl
theorem Zg (a b:Ag) (W:World):(binOp .neq 95 (.agg a.cs) (.agg b.cs)).run prog W=.ok (.bool (!decide (a=b))) W:=by
 obtain ⟨i0,hi0,hz0,hz1,hz2⟩:=info_parts uF
 unfold Ag.cs
 go_simp
 rw [run_equalIn_array W 9998 _ _ underlying93 hi0,mU]
 simp only [show List.range 3=[0,1,2] from rfl,Op.eqItems]
 go_simp
 clear hi0 hz0 hz1 hz2
 obtain ⟨ac,⟨a1,a2,a3⟩,⟨a4,a5,a6⟩,⟨a7,a8,a9⟩⟩:=a
 obtain ⟨bc,⟨b1,b2,b3⟩,⟨b4,b5,b6⟩,⟨b7,b8,b9⟩⟩:=b
 simp only [Ag.mk.injEq,NQ.mk.injEq]
 repeat' split
 all_goals simp_all
end Go.Proofs.YtijplolmkcdflaaGreat
namespace Go.Proofs.YtijplolmkcdflaaGreat
open Tryz
open Go.RowKit Go.ChangeShapes Go.WideShapes Go.Deep
structure AV where
 ks:Row Int
 ag:Ag
def AV.cs (f:AV):Array Value:=⟨f.ks.v::f.ag.cs.toList⟩
theorem JU (f:AV):f.cs.size=11:=rfl
theorem Row.Y7 {α:Type} (x:Row α):x.v.oneCell'=true:=rfl
theorem FC (f:AV):f.cs.all (·.oneCell')=true:=by
 rw [NB]
 intro v hv
 have hv':v ∈ f.ks.v::f.ag.cs.toList:=by simpa [AV.cs] using hv
 rcases En.1 hv' with rfl|h
 ·exact Row.Y7 _
 ·exact NB.1 (Kg f.ag) v (by simpa using h)
structure AV.ok (w:World) (f:AV):Prop where
 ks:f.ks.ok w
 ag:f.ag.ok
instance Ab8:Ar AV where
 size:=11
 bytes:=104
 cells f:=f.cs.toList
 ok w f:=f.ok w
 len _:=rfl
 pos:=by omega
 mono hb h:=⟨h.ks.mono hb,h.ag⟩
def AV.Ac (f:AV):List Int × Ag:=(f.ks.l,f.ag)
theorem BM:DV prog 97 11:=⟨⟨_,underlying97,rfl⟩,by kernel_rfl⟩
theorem Af8:BC prog 47 3 1 8:=BC.mk' (z:=.int .i64 0) underlying47 (by kernel_rfl) rfl (by omega)
theorem MJ:BC prog 54 97 11 104:=BC.mk' (z:=.agg (AV.mk ⟨none,0,0,[]⟩ .zero).cs) underlying54 (by kernel_rfl) rfl (by omega)
def Cu:List Int→List Int→Int
 |[],[]=>0
 |[],_::_=>-1
 |_::_,[]=>1
 |a::x,b::y=>if a<b then -1 else if b<a then 1 else Cu x y
def FY (x y:List Int):Bool:=Cu x y==-1
theorem FT (x y:List Int):Cu x y=-1∨Cu x y=0∨Cu x y=1:=by
 induction x generalizing y with
 |nil=>cases y<;>simp [Cu]
 |cons a x ih=>
  cases y with
  |nil=>simp [Cu]
  |cons b y=>
   rw [Cu]
   split
   ·exact .inl rfl
   ·split
    ·exact .inr (.inr rfl)
    ·exact ih y
theorem ED (x y:List Int):Cu y x=- Cu x y:=by
 induction x generalizing y with
 |nil=>cases y<;>simp [Cu]
 |cons a x ih=>
  cases y with
  |nil=>simp [Cu]
  |cons b y=>
   simp only [Cu]
   by_cases h1:a<b
   ·rw [Ak h1,Ah (by omega),Ak h1];rfl
   ·rw [Ah h1]
    by_cases h2:b<a
    ·simp [h1,h2]
    ·simp only [h1,h2,if_false];exact ih y
theorem Pm {x y:List Int} (h:Cu x y=0):x=y:=by
 induction x generalizing y with
 |nil=>cases y with|nil=>rfl|cons b y=>simp [Cu] at h
 |cons a x ih=>
  cases y with
  |nil=>simp [Cu] at h
  |cons b y=>
   rw [Cu] at h
   by_cases h1:a<b
   ·rw [Ak h1] at h;cases h
   ·rw [Ah h1] at h
    by_cases h2:b<a
    ·rw [Ak h2] at h;cases h
    ·rw [Ah h2] at h
     have:a=b:=by omega
     subst this
     rw [ih h]
theorem Pj (x:List Int):Cu x x=0:=by
 have:=ED x x
 omega
theorem QP {x y z:List Int} (h1:Cu x y=-1) (h2:Cu y z=-1):Cu x z=-1:=by
 induction x generalizing y z with
 |nil=>
  cases z with
  |nil=>cases y with|nil=>exact h1|cons b y=>simp [Cu] at h2
  |cons c z=>rfl
 |cons a x ih=>
  cases y with
  |nil=>simp [Cu] at h1
  |cons b y=>
   cases z with
   |nil=>simp [Cu] at h2
   |cons c z=>
    simp only [Cu] at *
    by_cases a1:a<b
    ·by_cases b1:b<c
     ·rw [Ak (by omega)]
     ·rw [Ah b1] at h2
      by_cases b2:c<b
      ·rw [Ak b2] at h2;cases h2
      ·rw [Ak (by omega)]
    ·rw [Ah a1] at h1
     by_cases a2:b<a
     ·rw [Ak a2] at h1;cases h1
     ·rw [Ah a2] at h1
      have:a=b:=by omega
      subst this
      by_cases b1:a<c
      ·rw [Ak b1]
      ·rw [Ah b1] at h2 ⊢
       by_cases b2:c<a
       ·rw [Ak b2] at h2;cases h2
       ·rw [Ah b2] at h2 ⊢
        exact ih h1 h2
theorem Yx {x y:List Int} {k:Nat} {a b:Int} (hx:x[k]?=some a) (hy:y[k]?=some b):
 Cu (x.drop k) (y.drop k)=if a<b then -1 else if b<a then 1 else Cu (x.drop (k+1)) (y.drop (k+1)):=by
 obtain ⟨h1,rfl⟩:=Ca.1 hx
 obtain ⟨h2,rfl⟩:=Ca.1 hy
 rw [DZ h1,DZ h2,Cu]
theorem WE {x y:List Int} {k:Nat} (hx:k<x.length) (hy:y.length≤k):Cu (x.drop k) (y.drop k)=1:=by
 rw [DZ hx,EY hy,Cu]
theorem fD {x y:List Int} {k:Nat} (hx:x.length≤k) (hy:k<y.length):Cu (x.drop k) (y.drop k)=-1:=by
 rw [DZ hy,EY hx,Cu]
theorem Yy {x y:List Int} {k:Nat} (hx:x.length≤k) (hy:y.length≤k):Cu (x.drop k) (y.drop k)=0:=by
 rw [EY hx,EY hy,Cu]
def mK (a b:Int):Int:=if a<b then -1 else if b<a then 1 else 0
theorem WG (a b:Int) (w:World):Calls prog 187 #[.int .i64 a,.int .i64 b] w fun e w'=>e=.returned (.int .i64 (mK a b))∧w=w':=by
 have q:∀ x:Int,(x !=x)=false:=by simp
 by_cases h1:a<b
 ·have HR:Hid (mK a b=-1):=Ak h1
  go_enter func187,ntmps187
  go_wp2
  go_ret
  rw [HR.Ab]
  exact ⟨rfl,rfl⟩
 ·by_cases h2:b<a
  ·have HR:Hid (mK a b=1):=(Ah h1).trans (Ak h2)
   go_enter func187,ntmps187
   go_wp2
   go_ret
   rw [HR.Ab]
   exact ⟨rfl,rfl⟩
  ·have HR:Hid (mK a b=0):=(Ah h1).trans (Ah h2)
   go_enter func187,ntmps187
   go_wp2
   go_ret
   rw [HR.Ab]
   exact ⟨rfl,rfl⟩
theorem fC (x y:Row Int) (w:World) (hx:x.ok w) (hy:y.ok w):
 Calls prog 153 #[x.v,y.v] w fun e w'=>e=.returned (.int .i64 (Cu x.l y.l))∧w=w':=by
 have eB:=hx.size
 have hyn:=hy.size
 have Hxl:=Aa hx.len
 have Hyl:=Aa hy.len
 have Hx:=Aa hx
 have Hy:=Aa hy
 clear hx hy
 obtain ⟨xA,xn,xc,xl⟩:=x
 obtain ⟨yA,yn,yc,yl⟩:=y
 simp only [Row.v] at *
 go_enter func153,ntmps153
 go_wp2
 go_loopg [11] xn (fun g i wr=>∃ k:Nat,g=xn - k∧k≤xn∧k≤yn∧i=.int .i64 k∧wr=w∧Hid (Cu xl yl=Cu (xl.drop k) (yl.drop k)))
 case atStart=>exact ⟨0,rfl,by omega,by omega,rfl,rfl,rfl⟩
 case round=>
  obtain ⟨k,BG,hk,hky,rfl,rfl,hF⟩:=hrel
  have Cg:=Aa BG
  clear BG
  by_cases hlt:k<xn
  ·obtain ⟨xb,xo,a,rfl,ha,hai,hca⟩:=Hx.int hlt
   have Ha:=Aa ha
   clear ha
   by_cases l7:k<yn
   ·obtain ⟨yb,yo,b,rfl,hb,hbi,hcb⟩:=Hy.int l7
    have Hb:=Aa hb
    clear hb
    have HD:=Aa (Yx Ha Hb.Ab)
    by_cases h1:a<b
    ·have HR:Hid (Cu xl yl=-1):=by show _=_;rw [hF.Ab,HD.Ab,Ak h1]
     have HI:Hid (mK a b=-1):=Ak h1
     clear hF HD
     go_wp2_with fail
     refine (WG _ _ _).mono ?_;rintro e w1 ⟨rfl,rfl⟩
     rw [HI.Ab]
     go_wp2
     go_ret
     rw [HR.Ab]
     exact ⟨rfl,rfl⟩
    ·by_cases h2:b<a
     ·have HR:Hid (Cu xl yl=1):=by show _=_;rw [hF.Ab,HD.Ab,Ah h1,Ak h2]
      have HI:Hid (mK a b=1):=(Ah h1).trans (Ak h2)
      clear hF HD
      go_wp2_with fail
      refine (WG _ _ _).mono ?_;rintro e w1 ⟨rfl,rfl⟩
      rw [HI.Ab]
      go_wp2
      go_ret
      rw [HR.Ab]
      exact ⟨rfl,rfl⟩
     ·have HR:Hid (Cu xl yl=Cu (xl.drop (k+1)) (yl.drop (k+1))):=by show _=_;rw [hF.Ab,HD.Ab,Ah h1,Ah h2]
      have HI:Hid (mK a b=0):=(Ah h1).trans (Ah h2)
      clear hF HD
      go_wp2_with fail
      refine (WG _ _ _).mono ?_;rintro e w1 ⟨rfl,rfl⟩
      rw [HI.Ab]
      go_wp2
      go_roundg (xn - (k+1))
      case rel=>exact ⟨k+1,rfl,by omega,by omega,by go_num,rfl,HR⟩
      case measure=>rw [Cg.Ab];omega
   ·have HR:Hid (Cu xl yl=1):=by show _=_;rw [hF.Ab,WE (by have:=Hxl.Ab;omega) (by have:=Hyl.Ab;omega)]
    clear hF
    go_wp2
    go_ret
    rw [HR.Ab]
    exact ⟨rfl,rfl⟩
  ·by_cases l7:k<yn
   ·have HR:Hid (Cu xl yl=-1):=by show _=_;rw [hF.Ab,fD (by have:=Hxl.Ab;omega) (by have:=Hyl.Ab;omega)]
    clear hF
    go_wp2
    go_ret
    rw [HR.Ab]
    exact ⟨rfl,rfl⟩
   ·have HR:Hid (Cu xl yl=0):=by show _=_;rw [hF.Ab,Yy (by have:=Hxl.Ab;omega) (by have:=Hyl.Ab;omega)]
    clear hF
    go_wp2
    go_ret
    rw [HR.Ab]
    exact ⟨rfl,rfl⟩
end Go.Proofs.YtijplolmkcdflaaGreat
namespace Go.Proofs.YtijplolmkcdflaaGreat
open Tryz
open Go.RowKit
@[local go_sem] theorem Jc (f:AV):f.cs[0]?=some f.ks.v:=rfl
theorem Nk (f g:AV) (w:World) (hf:f.ok w) (hg:g.ok w):
 Calls prog 108 #[.agg f.cs,.agg g.cs] w fun e w'=>e=.returned (.int .i64 (Cu f.ks.l g.ks.l))∧Aj w w':=by
 have Hf:=Aa hf
 have Hg:=Aa hg
 clear hf hg
 go_enter func108,ntmps108
 go_wp2_with fail
 have hB:Aj w ((w.alloc (.cells f.cs 97)).alloc (.cells g.cs 97)):=((Aj.refl w).alloc _).alloc _
 refine (fC _ _ _ (Hf.ks.mono hB) (Hg.ks.mono hB)).mono ?_;rintro e w1 ⟨rfl,rfl⟩
 go_wp2
 go_ret
 exact ⟨rfl,hB⟩
theorem RH {x y:List Int} {r:Int} (h:Cu x y=r):FY x y=(r==-1):=by unfold FY;rw [h]
theorem zO (f g:AV) (w:World) (hf:f.ok w) (hg:g.ok w):
 Calls prog 39 #[.agg f.cs,.agg g.cs] w fun e w'=>e=.returned (.bool (FY f.ks.l g.ks.l))∧Aj w w':=by
 have eB:=hf.ks.size
 have hyn:=hg.ks.size
 have Hxl:=Aa hf.ks.len
 have Hyl:=Aa hg.ks.len
 have Hx:=Aa hf.ks
 have Hy:=Aa hg.ks
 clear hf hg
 have b1:Br ((w.alloc (.cells f.cs 97)).alloc (.cells g.cs 97)) w.heap.size 97 f.cs:=(Br.new w _ _).alloc _
 have b2:Br ((w.alloc (.cells f.cs 97)).alloc (.cells g.cs 97)) (w.heap.size+1) 97 g.cs:=by
  have:=Br.new (w.alloc (.cells f.cs 97)) 97 g.cs
  rw [Kl] at this
  exact this
 have hB0:Aj w ((w.alloc (.cells f.cs 97)).alloc (.cells g.cs 97)):=((Aj.refl w).alloc _).alloc _
 have C1:=b1.cell 0
 have C2:=b2.cell 0
 clear b1 b2
 obtain ⟨⟨xA,xn,xc,xl⟩,fa⟩:=f
 obtain ⟨⟨yA,yn,yc,yl⟩,ga⟩:=g
 simp only [Jc,Row.v] at *
 go_enter func39,ntmps39
 go_wp2
 generalize ((w.alloc (.cells (AV.mk ⟨xA,xn,xc,xl⟩ fa).cs 97)).alloc (.cells (AV.mk ⟨yA,yn,yc,yl⟩ ga).cs 97))=W at *
 go_loopg [5] xn (fun g i wr=>∃ k m:Nat,g=xn - k∧k≤xn∧k≤yn∧i=.int .i64 k∧wr=W.drewN m∧Hid (Cu xl yl=Cu (xl.drop k) (yl.drop k)))
 case atStart=>exact ⟨0,0,rfl,by omega,by omega,rfl,rfl,rfl⟩
 case round=>
  obtain ⟨k,m,BG,hk,hky,rfl,rfl,hF⟩:=hrel
  have Cg:=Aa BG
  clear BG
  by_cases hlt:k<xn
  ·obtain ⟨xb,xo,a,rfl,ha,hai,hca⟩:=(Hx.mono hB0).int hlt
   have Ha:=Aa ha
   clear ha
   have dx:decide ((k:Int)<(xn:Int))=true:=by simp;omega
   have dx':decide (k<xn)=true:=by simp;omega
   by_cases l7:k<yn
   ·obtain ⟨yb,yo,b,rfl,hb,hbi,hcb⟩:=(Hy.mono hB0).int l7
    have Hb:=Aa hb
    clear hb
    have dy:decide ((k:Int)<(yn:Int))=true:=by simp;omega
    have dy':decide (k<yn)=true:=by simp;omega
    have HD:=Aa (Yx Ha Hb.Ab)
    by_cases h1:a<b
    ·have HR:Hid (FY xl yl=true):=by show _=_;rw [RH (hF.trans (HD.trans (Ak h1)))];rfl
     have q:(a !=b)=true:=by rw [bne_iff_ne];omega
     have q2:decide (a<b)=true:=by simp;omega
     clear hF HD
     go_wp2_with fail
     go_quiet (fail)
     go_wp2_with fail
     go_quiet (fail)
     go_wp2
     go_ret
     rw [HR.Ab]
     exact ⟨rfl,((hB0.drewN _).drewN _).drewN _⟩
    ·by_cases h2:b<a
     ·have HR:Hid (FY xl yl=false):=by show _=_;rw [RH (hF.trans (HD.trans ((Ah h1).trans (Ak h2))))];rfl
      have q:(a !=b)=true:=by rw [bne_iff_ne];omega
      have q2:decide (a<b)=false:=by simp;omega
      clear hF HD
      go_wp2_with fail
      go_quiet (fail)
      go_wp2_with fail
      go_quiet (fail)
      go_wp2
      go_ret
      rw [HR.Ab]
      exact ⟨rfl,((hB0.drewN _).drewN _).drewN _⟩
     ·have HR:Hid (Cu xl yl=Cu (xl.drop (k+1)) (yl.drop (k+1))):=by show _=_;rw [hF.Ab,HD.Ab,Ah h1,Ah h2]
      have q:(a !=b)=false:=by rw [bne_eq_false_iff_eq];omega
      clear hF HD
      go_wp2_with fail
      go_quiet (fail)
      go_wp2
      go_roundg (xn - (k+1))
      case rel=>exact ⟨k+1,_,rfl,by omega,by omega,by go_num,rfl,HR⟩
      case measure=>rw [Cg.Ab];omega
   ·have HR:Hid (FY xl yl=false):=by show _=_;rw [RH (hF.trans (WE (by have:=Hxl.Ab;omega) (by have:=Hyl.Ab;omega)))];rfl
    have dy:decide ((k:Int)<(yn:Int))=false:=by simp;omega
    have dy':decide (k<yn)=false:=by simp;omega
    have dz:decide (xn<yn)=false:=by simp;omega
    clear hF
    go_wp2
    go_ret
    rw [HR.Ab]
    exact ⟨rfl,hB0.drewN _⟩
  ·have dx:decide ((k:Int)<(xn:Int))=false:=by simp;omega
   have dx':decide (k<xn)=false:=by simp;omega
   by_cases l7:k<yn
   ·have HR:Hid (FY xl yl=true):=by show _=_;rw [RH (hF.trans (fD (by have:=Hxl.Ab;omega) (by have:=Hyl.Ab;omega)))];rfl
    have dz:decide (xn<yn)=true:=by simp;omega
    clear hF
    go_wp2
    go_ret
    rw [HR.Ab]
    exact ⟨rfl,hB0.drewN _⟩
   ·have HR:Hid (FY xl yl=false):=by show _=_;rw [RH (hF.trans (Yy (by have:=Hxl.Ab;omega) (by have:=Hyl.Ab;omega)))];rfl
    have dz:decide (xn<yn)=false:=by simp;omega
    clear hF
    go_wp2
    go_ret
    rw [HR.Ab]
    exact ⟨rfl,hB0.drewN _⟩
theorem Ze {w:World} {base:Nat} {e:TypeId} {size n:Nat} {v:Value} {xs:List Value} (h:w.ownsRow base e size v n xs):∀ A c,v=.slice A n c→c≤maxLen:=by
 intro A c hv
 rcases h.2 with ⟨rfl,_⟩|⟨g,cap,cur,rfl,_,_,_,hc,_⟩
 ·injection hv with _ _ h3;rw [←h3];exact Bw _
 ·injection hv with _ _ h3;rw [←h3];exact hc
structure V6 (w w':World) (zs:List Int) (x:Row Int):Prop where
 l:x.l=zs
 ok:x.ok w'
 new:0<x.n→∀ ad,x.A=some ad→w.heap.size≤ad.block
def I5 (w w':World) (zs:List Int) (e:Ending):Prop:=∃ x:Row Int,e=.returned x.v∧V6 w w' zs x
theorem Xt (x:Row Int) (w:World) (hx:x.ok w):
 Calls prog 69 #[x.v] w fun e w'=>I5 w w' x.l e∧Aj w w':=by
 obtain ⟨A,n,c,l⟩:=x
 have Hx:=Aa hx
 have hr:Rd w 1 A n (l.map (Value.int .i64)):=hx.ints
 have hlen:Hid (l.length=n):=hx.len
 have hc:Hid (n≤c∧c≤maxLen):=⟨hx.le,hx.cap⟩
 have hn:n * 8≤140737488351232:=hx.reach
 clear hx
 simp only [Row.v] at *
 cases A with
 |none=>
  obtain rfl:n=0:=by
   rcases Tt n with h|h
   ·exact h
   ·obtain ⟨ad,e,_⟩:=hr.2 h;cases e
  have hl:l=[]:=Km hlen.Ab
  subst hl
  have he:=fun (c:Nat) (w:World)=>Tu (P:=prog) w 47 3 none 0 c 0 0 underlying47
  go_enter func69,ntmps69
  go_wp2
  go_ret
  exact ⟨⟨⟨none,0,0,[]⟩,rfl,⟨rfl,⟨Rd.nil,by simp,BZ _,Bw _,Bw _⟩,fun h=>absurd h (by simp)⟩⟩,Aj.refl _⟩
 |some ad=>
  have he:=fun (n c:Nat) (w:World)=>Tu (P:=prog) w 47 3 (some ad) n c 0 0 underlying47
  have hbs:∀ w:World,(Instr.buildSlice 47 0 #[]).run prog w=.ok (.slice (some ⟨w.heap.size,0,none⟩) 0 0) (w.alloc (.cells #[] 3)):=fun _=>by kernel_rfl
  have hown:(w.alloc (.cells #[] 3)).ownsRow w.heap.size 3 1 (.slice (some ⟨w.heap.size,0,none⟩) 0 0) 0 []:=⟨rfl,.inr ⟨w.heap.size,0,#[],rfl,BZ _,Qn w _,BZ _,Bw _,rfl,rfl⟩⟩
  go_enter func69,ntmps69
  go_wp2_with ((with_reducible refine OP 7 ?_);refine KO rfl (.tmp 5) (.tmp 6) _ rfl Af8 w ((Aj.refl w).alloc _) _ 0 [] rfl hown (some ad) n c (l.map (Value.int .i64)) rfl (hr.Au ((Aj.refl w).alloc _)) (by simp [Value.oneCell']) (by unfold maxLen;omega) (by omega) ?_;intro v2 w2 hown2 hB2 hg2 hat2)
  go_ret
  simp only [Hw,Fy] at hown2
  refine ⟨?_,hB2⟩
  have hcap:=Ze hown2
  obtain ⟨A2,c2,rfl,hc2⟩:=Ao hown2
  refine ⟨⟨A2,n,c2,l⟩,rfl,⟨rfl,⟨?_,Hx.all,hc2,hcap _ _ rfl,Hx.reach⟩,fun _ a ha=>?_⟩⟩
  ·rw [EX];exact Rd.Bf hown2
  ·subst ha
   exact Gj hown2 rfl
attribute [local go_sem] Jc
theorem vR (k:Row Int) (a:Ag) (w:World):(Instr.build 97 #[(0,k.v),(1,.agg a.cs)]).run prog w=.ok (.agg (AV.mk k a).cs) w:=by kernel_rfl
def Row.nil {α:Type}:Row α:=⟨none,0,0,[]⟩
theorem mV (w:World):(Instr.build 97 #[]).run prog w=.ok (.agg (AV.mk .nil .zero).cs) w:=by kernel_rfl
def iC (v:Value) (f:AV):Prop:=0<f.ks.n→∀ ad,f.ks.A=some ad→v.ownBlock≠some ad.block
structure Im (w0 w:World) (v:Value) (fs:List AV):Prop where
 Au:Aj w0 w
 own:w.ownsRow w0.heap.size 97 11 v fs.length (fs.flatMap Ar.cells)
 ok:∀ f ∈ fs,f.ok w
 away:∀ f ∈ fs,iC v f
 new:∀ f ∈ fs,0<f.ks.n→∀ ad,f.ks.A=some ad→w0.heap.size≤ad.block
def cons (l:List AV):List (List Int × Ag):=l.map AV.Ac
theorem Im.keep {w0 w w':World} {v:Value} {fs:List AV} (h:Im w0 w v fs) (hb:Aj w w'):Im w0 w' v fs:=
 ⟨h.Au.trans hb,FB h.own hb,fun f hf=>⟨(h.ok f hf).ks.mono hb,(h.ok f hf).ag⟩,h.away,h.new⟩
theorem Row.ok.grown {w w':World} {x:Row Int} {row:Option Nat} (h:x.ok w) (hg:w.grownBy w' row) (ha:0<x.n→∀ ad,x.A=some ad→row≠some ad.block):x.ok w':=by
 refine ⟨⟨h.rd.1,fun hn=>?_⟩,h.all,h.le,h.cap,h.reach⟩
 obtain ⟨ad,e,hb,hc⟩:=h.rd.2 hn
 refine ⟨ad,e,Kk hb hg.size,fun j u hu=>?_⟩
 rw [←hc j u hu]
 refine QY ?_
 rw [FU]
 exact hg.block _ hb (fun e'=>ha hn ad e e'.symm)
theorem Im.app {w0 w w':World} {v v':Value} {fs:List AV} {f:AV} (h:Im w0 w v fs) (hf:f.ok w) (hA:iC v f) (hB:Aj w0 w') (hfn:0<f.ks.n→∀ ad,f.ks.A=some ad→w0.heap.size≤ad.block) (ho:w'.ownsRow w0.heap.size 97 11 v' (fs.length+1) (fs.flatMap Ar.cells++f.cs.toList)) (hg:w.grownBy w' v.ownBlock)
 (hv:v'.ownBlock=v.ownBlock∨v'.ownBlock=some w.heap.size):Im w0 w' v' (fs++[f]):=by
 have hall:∀ g ∈ fs++[f],g.ok w∧iC v g∧(0<g.ks.n→∀ ad,g.ks.A=some ad→w0.heap.size≤ad.block):=fun g hg'=>by
  rcases DT.1 hg' with h1|h1
  ·exact ⟨h.ok g h1,h.away g h1,h.new g h1⟩
  ·rw [Dt] at h1;subst h1;exact ⟨hf,hA,hfn⟩
 refine ⟨hB,by simpa [Ar.cells] using ho,fun g hg'=>?_,fun g hg' hn ad e=>?_,fun g hg'=>(hall g hg').2.2⟩
 ·obtain ⟨h1,h2,_⟩:=hall g hg'
  exact ⟨h1.ks.grown hg h2,h1.ag⟩
 ·obtain ⟨h1,h2,_⟩:=hall g hg'
  rcases hv with hv|hv
  ·rw [hv];exact h2 hn ad e
  ·rw [hv]
   obtain ⟨ad',e',hb,_⟩:=h1.ks.rd.2 hn
   rw [e] at e'
   injection e' with e'
   subst e'
   intro h3
   injection h3 with h3
   omega
theorem Jz (x:Row AV) (w:World) (hx:x.ok w) (hn:x.n≤1000000):
 Calls prog 41 #[x.v] w fun e w'=>∃ v fs,e=.returned v∧Im w w' v fs∧cons fs=cons x.l:=by
 obtain ⟨A,n,c,l⟩:=x
 have Hx:=Aa hx
 have hlen:Hid (l.length=n):=hx.len
 clear hx
 simp only [Row.v] at *
 have u35:=underlying95
 have i35:∀ a:Ag,(prog.info? 95).map (·.size)=some a.cs.toList.length:=fun a=>by kernel_rfl
 go_enter func41,ntmps41
 go_wp2
 go_loopg [3,8] n (fun g s i wr=>∃ (k:Nat) (fs:List AV),g=n - k∧k≤n∧i=.int .i64 k∧Im w wr s fs∧fs.length=k∧Hid (cons fs=cons (l.take k)))
 case atStart=>exact ⟨0,[],rfl,by omega,rfl,⟨Aj.refl _,⟨rfl,.inl ⟨rfl,rfl⟩⟩,by simp,by simp,by simp⟩,rfl,rfl⟩
 case round=>
  obtain ⟨k,fs,BG,hk,rfl,hG,hfl,hF⟩:=hrel
  have Cg:=Aa BG
  have Hfl:=Aa hfl
  clear BG hfl
  by_cases hlt:k<n
  ·obtain ⟨b,o,f,rfl,hb,hf,hrg⟩:=Md (Hx.rd.Au hG.Au) hlt
   have Hf:=Aa hf
   have hfo:f.ok wr:=Ar.mono hG.Au (Hx.all f (CE hf))
   have aD:=Aa hfo
   clear hf hfo
   go_wp2_with (first
    |((with_reducible refine OP 11 ?_);refine Ae rfl BM (.tmp 10) rfl b (o+k * 11) rfl f.cs rfl hrg ?_)
    |((with_reducible refine OS 5 ?_);refine Fu BM f.cs (FC _) ?_))
   have bk:=Br.new wr 97 f.cs
   have hne:u3.ownBlock≠some wr.heap.size:=fun e=>absurd (Zd hG.own e) (Nat.lt_irrefl _)
   have hG1:=hG.keep ((Aj.refl wr).alloc (.cells f.cs 97))
   have I6:Hid (f.ok (wr.alloc (.cells f.cs 97))):=⟨aD.ks.mono ((Aj.refl wr).alloc _),aD.ag⟩
   clear hG aD
   generalize wr.alloc (.cells f.cs 97)=W at *
   generalize wr.heap.size=g at *
   have hS:∀ w',Aj W w'→w'.cell? ⟨g,0,none⟩=some f.ks.v∧w'.cell? ⟨g,1,none⟩=some (.int .i64 f.ag.c)∧w'.cell? ⟨g,2,none⟩=some (.int .i64 f.ag.p.s)∧w'.cell? ⟨g,3,none⟩=some (.int .i64 f.ag.p.mn)∧w'.cell? ⟨g,4,none⟩=some (.int .i64 f.ag.p.mx)∧w'.cell? ⟨g,5,none⟩=some (.int .i64 f.ag.q.s)∧w'.cell? ⟨g,6,none⟩=some (.int .i64 f.ag.q.mn)∧w'.cell? ⟨g,7,none⟩=some (.int .i64 f.ag.q.mx)∧w'.cell? ⟨g,8,none⟩=some (.int .i64 f.ag.r.s)∧w'.cell? ⟨g,9,none⟩=some (.int .i64 f.ag.r.mn)∧w'.cell? ⟨g,10,none⟩=some (.int .i64 f.ag.r.mx):=fun w' hb'=>by
    have q:=bk.Au hb'
    exact ⟨q.cell 0,q.cell 1,q.cell 2,q.cell 3,q.cell 4,q.cell 5,q.cell 6,q.cell 7,q.cell 8,q.cell 9,q.cell 10⟩
   have hT:∀ w1 w',Aj W w1→w1.grownBy w' u3.ownBlock→w'.cell? ⟨g,0,none⟩=some f.ks.v∧w'.cell? ⟨g,1,none⟩=some (.int .i64 f.ag.c)∧w'.cell? ⟨g,2,none⟩=some (.int .i64 f.ag.p.s)∧w'.cell? ⟨g,3,none⟩=some (.int .i64 f.ag.p.mn)∧w'.cell? ⟨g,4,none⟩=some (.int .i64 f.ag.p.mx)∧w'.cell? ⟨g,5,none⟩=some (.int .i64 f.ag.q.s)∧w'.cell? ⟨g,6,none⟩=some (.int .i64 f.ag.q.mn)∧w'.cell? ⟨g,7,none⟩=some (.int .i64 f.ag.q.mx)∧w'.cell? ⟨g,8,none⟩=some (.int .i64 f.ag.r.s)∧w'.cell? ⟨g,9,none⟩=some (.int .i64 f.ag.r.mn)∧w'.cell? ⟨g,10,none⟩=some (.int .i64 f.ag.r.mx):=fun w1 w' hb' hg'=>by
    have q:=(bk.Au hb').grown hg' (fun e=>hne e.symm)
    exact ⟨q.cell 0,q.cell 1,q.cell 2,q.cell 3,q.cell 4,q.cell 5,q.cell 6,q.cell 7,q.cell 8,q.cell 9,q.cell 10⟩
   have HS:=Aa hS
   have HT:=Aa hT
   clear hS hT hrg bk i35
   have hB1:=hG1.Au
   have hfs:fs.length≤1000000:=by rw [Hfl.Ab];omega
   go_region_held3 (fun w'=>w'.cell? ⟨g,0,none⟩=some f.ks.v∧w'.cell? ⟨g,1,none⟩=some (.int .i64 f.ag.c)∧w'.cell? ⟨g,2,none⟩=some (.int .i64 f.ag.p.s)∧w'.cell? ⟨g,3,none⟩=some (.int .i64 f.ag.p.mn)∧w'.cell? ⟨g,4,none⟩=some (.int .i64 f.ag.p.mx)∧w'.cell? ⟨g,5,none⟩=some (.int .i64 f.ag.q.s)∧w'.cell? ⟨g,6,none⟩=some (.int .i64 f.ag.q.mn)∧w'.cell? ⟨g,7,none⟩=some (.int .i64 f.ag.q.mx)∧w'.cell? ⟨g,8,none⟩=some (.int .i64 f.ag.r.s)∧w'.cell? ⟨g,9,none⟩=some (.int .i64 f.ag.r.mn)∧w'.cell? ⟨g,10,none⟩=some (.int .i64 f.ag.r.mx)) (first|exact HS _ (Aj.refl W).drew|exact HS _ ((Aj.refl W).drew.trans hb2)|exact HS _ (((Aj.refl W).drew.trans hb2).alloc _)|exact HT _ _ (((Aj.refl W).drew.trans hb2).alloc _) hg3|go_keep) (first|(go_at_call 69;refine (Xt f.ks _ (I6.ks.mono (Aj.refl W).drew)).mono ?_;rintro e w2 ⟨⟨⟨xA,xn,xc,xl⟩,rfl,hx2⟩,hb2⟩;simp only [Row.v])|(refine YU (by rfl) (.tmp 12) (.tmp 19) _ (by rfl) MJ w ((hB1.trans ((Aj.refl W).drew.trans hb2)).alloc _) u3 fs.length (fs.flatMap Ar.cells) (by rfl) ((FB hG1.own ((Aj.refl W).drew.trans hb2)).alloc _) _ 1 1 (AV.mk ⟨xA,xn,xc,xl⟩ f.ag).cs.toList (by rfl) (KT _ _ _ 1 11 rfl) (fun u hu=>(NB.1 (FC (AV.mk ⟨xA,xn,xc,xl⟩ f.ag))) u (by simpa using hu)) (by unfold maxLen;omega) (by omega) ?_;intro v3 w3 hown3 hB3 hg3 hat3))
   obtain ⟨hxl,hxo,eB⟩:=hx2
   have hBW:Aj W w2:=(Aj.refl W).drew.trans hb2
   have hAw:iC u3 (AV.mk ⟨xA,xn,xc,xl⟩ f.ag):=fun h0 ad e e2=>by
    have h1:=eB h0 ad e
    have h2:=Zd hG1.own e2
    simp at h1
    omega
   have hG3:=((hG1.keep hBW).keep ((Aj.refl w2).alloc (.cells (AV.mk ⟨xA,xn,xc,xl⟩ f.ag).cs 97))).app (f:=⟨⟨xA,xn,xc,xl⟩,f.ag⟩) ⟨hxo.mono ((Aj.refl w2).alloc _),I6.ag⟩ hAw hB3 (fun h0 ad e=>by have h1:=eB h0 ad e;have h2:=hG1.Au.size;simp at h1;omega) hown3 hg3 hat3
   have HR:Hid (cons (fs++[⟨⟨xA,xn,xc,xl⟩,f.ag⟩])=cons (l.take (k+1))):=by
    show _=_
    rw [Tw,Hf.Ab]
    have:=hF.Ab
    simp only at hxl
    subst hxl
    simp only [cons,BR,DI,EF,AV.Ac,Option.toList] at this ⊢
    rw [this]
   have HG3:=Aa hG3
   clear hG3 hG1 hown3 hg3 hat3 hb2 hB3 hF
   go_wp2
   go_roundg (n - (k+1))
   case rel=>exact ⟨k+1,_,rfl,by omega,by go_num,HG3.Ab,by rw [BQ,Hfl.Ab];rfl,HR⟩
   case measure=>rw [Cg.Ab];omega
  ·have HR:Hid (cons fs=cons l):=by show _=_;rw [hF.Ab,DY (by have:=hlen.Ab;omega)]
   clear hF
   have HG:=Aa hG
   clear hG
   go_wp2
   go_ret
   exact ⟨_,fs,rfl,HG.Ab,HR.Ab⟩
end Go.Proofs.YtijplolmkcdflaaGreat
namespace Go.Proofs.YtijplolmkcdflaaGreat
open Tryz
open Go.RowKit
attribute [local go_sem] Jc
theorem Row.ok.U2 {w:World} {x:Row AV} (h:x.ok w) {k:Nat} (hk:k<x.n):
 ∃ b o f,x.A=some ⟨b,o,none⟩∧b<w.heap.size∧x.l[k]?=some f∧f.ok w∧w.cell? ⟨b,o+k * 11,none⟩=some f.ks.v∧w.rangeAt b (o+k * 11) f.cs.toList∧w.rangeAt b (o+k * 11+1) f.ag.cs.toList:=by
 obtain ⟨b,o,f,e,hb,hf,hc⟩:=XV h.rd hk
 refine ⟨b,o,f,e,hb,hf,h.all f (CE hf),hc 0 _ rfl,fun j v hv=>hc j v hv,fun j v hv=>?_⟩
 rw [Ns,Tq 1 j]
 exact hc (j+1) v hv
end Go.Proofs.YtijplolmkcdflaaGreat
namespace Go.Proofs.YtijplolmkcdflaaGreat
open Tryz
open Go.RowKit
attribute [local go_sem] Jc
def Mc (a b:List AV):Bool:=decide (cons a=cons b)
theorem AL (l:List AV):(cons l).length=l.length:=by unfold cons;rw [Cq]
theorem Ld {l:List AV} {k:Nat} {f:AV} (h:l[k]?=some f):(cons l)[k]?=some f.Ac:=by unfold cons;rw [DD,h];rfl
theorem Vr {a b:List AV} {k:Nat} {f g:AV} (hf:a[k]?=some f) (hg:b[k]?=some g) (h:f.Ac≠g.Ac):Mc a b=false:=by
 unfold Mc
 rw [decide_eq_false_iff_not]
 intro e
 have h1:=Ld hf
 rw [e,Ld hg] at h1
 injection h1 with h1
 exact h h1.symm
theorem Yw {l:List AV} {k:Nat} {f:AV} (h:l[k]?=some f):cons (l.take (k+1))=cons (l.take k)++[f.Ac]:=by
 rw [Tw,h]
 simp [cons]
theorem vM {f g:AV} (h:¬ f.ag=g.ag):f.Ac≠g.Ac:=fun e=>h (Cm Prod.snd e)
theorem TY {f g:AV} (h:FY f.ks.l g.ks.l=true):f.Ac≠g.Ac:=fun e=>by
 have e1:f.ks.l=g.ks.l:=Cm Prod.fst e
 rw [e1] at h
 unfold FY at h
 rw [Pj] at h
 cases h
theorem Ac3 {f g:AV} (h:f.ag=g.ag) (h1:FY f.ks.l g.ks.l=false) (h2:FY g.ks.l f.ks.l=false):f.Ac=g.Ac:=by
 have:=FT f.ks.l g.ks.l
 have hs:=ED f.ks.l g.ks.l
 unfold FY at h1 h2
 simp at h1 h2
 have h0:Cu f.ks.l g.ks.l=0:=by omega
 unfold AV.Ac
 rw [Pm h0,h]
theorem Oy {f g:AV} {w:World} {r:Bool} (h:FY f.ks.l g.ks.l=r) (hf:f.ok w) (hg:g.ok w):
 Calls prog 39 #[.agg f.cs,.agg g.cs] w fun e w'=>e=.returned (.bool r)∧Aj w w':=by
 have:=zO f g w hf hg
 rw [h] at this
 exact this
theorem AV.ok.over {f:AV} {w:World} (h:f.ok w) (u:Over w):f.ok u.wd:=⟨h.ks.mono u.Au,h.ag⟩
theorem xW (x y:Row AV) (w:World) (hx:x.ok w) (hy:y.ok w) (hn:x.n≤1000000) (hn2:y.n≤1000000):
 Calls prog 17 #[x.v,y.v] w fun e w'=>e=.returned (.bool (Mc x.l y.l))∧Aj w w':=by
 have hlx:Hid (x.l.length=x.n):=hx.len
 have hly:Hid (y.l.length=y.n):=hy.len
 have Hx:=Aa hx
 have Hy:=Aa hy
 clear hx hy
 obtain ⟨xA,n,xc,xl⟩:=x
 obtain ⟨yA,m,yc,yl⟩:=y
 simp only [Row.v] at *
 by_cases hnm:n=m
 ·subst hnm
  go_enter func17,ntmps17
  go_wp2
  go_loopg [13] n (fun g i wr=>∃ k:Nat,g=n - k∧k≤n∧i=.int .i64 k∧Aj w wr∧Hid (cons (xl.take k)=cons (yl.take k)))
  case atStart=>exact ⟨0,rfl,by omega,rfl,Aj.refl _,by show _=_;simp⟩
  case round=>
   obtain ⟨k,BG,hk,rfl,hB,hF⟩:=hrel
   have Cg:=Aa BG
   clear BG
   by_cases hlt:k<n
   ·obtain ⟨b,o,f,rfl,hb,hf,hfo,_,hrf,hra⟩:=(Hx.mono hB).U2 hlt
    obtain ⟨d,p,g,rfl,hd,hg,hgo,_,hrg,hrh⟩:=(Hy.mono hB).U2 hlt
    have aD:=Aa hfo
    have Hgo:=Aa hgo
    have Hf:=Aa hf
    have Hg:=Aa hg
    clear hf hg hfo hgo
    by_cases hag:f.ag=g.ag
    ·have HN:Hid (∀ w,(binOp .neq 95 (.agg f.ag.cs) (.agg g.ag.cs)).run prog w=.ok (.bool false) w):=fun w=>by rw [Zg];simp [hag]
     have Hag:=Aa hag
     clear hag
     cases hL:FY f.ks.l g.ks.l with
     |true=>
      have HR:Hid (Mc xl yl=false):=Vr Hf Hg (TY hL)
      have HL:=Aa hL
      clear hL hF
      go_wp2_with fail
      refine Al ?_
      repeat (first
       |((with_reducible show wpQuiet _ _ _ _ (⟨some 20,_,_,_,_,_⟩::_) _);refine Af rfl EC (.tmp 19) rfl b (o+k * 11+1) rfl f.ag.cs rfl hb hra ?_;simp only [Act.put,LP])
       |((with_reducible show wpQuiet _ _ _ _ (⟨some 25,_,_,_,_,_⟩::_) _);refine Af rfl EC (.tmp 24) rfl d (p+k * 11+1) rfl g.ag.cs rfl hd hrh ?_;simp only [Act.put,LP])
       |((with_reducible show wpQuiet _ _ _ _ (⟨some 26,_,_,_,_,_⟩::_) _);refine FX rfl .neq 95 95 (.tmp 20) (.tmp 25) rfl rfl rfl OC HN.Ab ?_;simp only [Act.put,LP])
       |((with_reducible show wpQuiet _ _ _ _ (⟨some 31,_,_,_,_,_⟩::_) _);refine Af rfl BM (.tmp 30) rfl b (o+k * 11) rfl f.cs rfl hb hrf ?_;simp only [Act.put,LP])
       |((with_reducible show wpQuiet _ _ _ _ (⟨some 35,_,_,_,_,_⟩::_) _);refine Af rfl BM (.tmp 34) rfl d (p+k * 11) rfl g.cs rfl hd hrg ?_;simp only [Act.put,LP])
       |((with_reducible show wpQuiet _ _ _ _ (⟨some 42,_,_,_,_,_⟩::_) _);refine Af rfl BM (.tmp 41) rfl d (p+k * 11) rfl g.cs rfl hd hrg ?_;simp only [Act.put,LP])
       |((with_reducible show wpQuiet _ _ _ _ (⟨some 46,_,_,_,_,_⟩::_) _);refine Af rfl BM (.tmp 45) rfl b (o+k * 11) rfl f.cs rfl hb hrf ?_;simp only [Act.put,LP])
       |go_big_quiet_step (((go_at_call 39;exact Be (Oy HL (aD.over _) (Hgo.over _))))))
      refine CX ?_
      rintro _ ⟨u,rfl⟩
      go_wp2
      go_ret
      rw [HR.Ab]
      exact ⟨rfl,hB.trans u.Au⟩
     |false=>
      have HL:=Aa hL
      clear hL
      cases hM:FY g.ks.l f.ks.l with
      |true=>
       have HR:Hid (Mc xl yl=false):=Vr Hf Hg (TY hM).symm
       have HM:=Aa hM
       clear hM hF
       go_wp2_with fail
       refine Al ?_
       repeat (first
        |((with_reducible show wpQuiet _ _ _ _ (⟨some 20,_,_,_,_,_⟩::_) _);refine Af rfl EC (.tmp 19) rfl b (o+k * 11+1) rfl f.ag.cs rfl hb hra ?_;simp only [Act.put,LP])
        |((with_reducible show wpQuiet _ _ _ _ (⟨some 25,_,_,_,_,_⟩::_) _);refine Af rfl EC (.tmp 24) rfl d (p+k * 11+1) rfl g.ag.cs rfl hd hrh ?_;simp only [Act.put,LP])
        |((with_reducible show wpQuiet _ _ _ _ (⟨some 26,_,_,_,_,_⟩::_) _);refine FX rfl .neq 95 95 (.tmp 20) (.tmp 25) rfl rfl rfl OC HN.Ab ?_;simp only [Act.put,LP])
        |((with_reducible show wpQuiet _ _ _ _ (⟨some 31,_,_,_,_,_⟩::_) _);refine Af rfl BM (.tmp 30) rfl b (o+k * 11) rfl f.cs rfl hb hrf ?_;simp only [Act.put,LP])
        |((with_reducible show wpQuiet _ _ _ _ (⟨some 35,_,_,_,_,_⟩::_) _);refine Af rfl BM (.tmp 34) rfl d (p+k * 11) rfl g.cs rfl hd hrg ?_;simp only [Act.put,LP])
        |((with_reducible show wpQuiet _ _ _ _ (⟨some 42,_,_,_,_,_⟩::_) _);refine Af rfl BM (.tmp 41) rfl d (p+k * 11) rfl g.cs rfl hd hrg ?_;simp only [Act.put,LP])
        |((with_reducible show wpQuiet _ _ _ _ (⟨some 46,_,_,_,_,_⟩::_) _);refine Af rfl BM (.tmp 45) rfl b (o+k * 11) rfl f.cs rfl hb hrf ?_;simp only [Act.put,LP])
        |go_big_quiet_step ((first|(go_at_call 39;exact Be (Oy HL (aD.over _) (Hgo.over _)))|(go_at_call 39;exact Be (Oy HM (Hgo.over _) (aD.over _))))))
       refine CX ?_
       rintro _ ⟨u,rfl⟩
       go_wp2
       go_ret
       rw [HR.Ab]
       exact ⟨rfl,hB.trans u.Au⟩
      |false=>
       have HR:Hid (cons (xl.take (k+1))=cons (yl.take (k+1))):=by show _=_;rw [Yw Hf.Ab,Yw Hg.Ab,hF.Ab,Ac3 Hag HL hM]
       have HM:=Aa hM
       clear hM hF
       go_wp2_with fail
       refine Al ?_
       repeat (first
        |((with_reducible show wpQuiet _ _ _ _ (⟨some 20,_,_,_,_,_⟩::_) _);refine Af rfl EC (.tmp 19) rfl b (o+k * 11+1) rfl f.ag.cs rfl hb hra ?_;simp only [Act.put,LP])
        |((with_reducible show wpQuiet _ _ _ _ (⟨some 25,_,_,_,_,_⟩::_) _);refine Af rfl EC (.tmp 24) rfl d (p+k * 11+1) rfl g.ag.cs rfl hd hrh ?_;simp only [Act.put,LP])
        |((with_reducible show wpQuiet _ _ _ _ (⟨some 26,_,_,_,_,_⟩::_) _);refine FX rfl .neq 95 95 (.tmp 20) (.tmp 25) rfl rfl rfl OC HN.Ab ?_;simp only [Act.put,LP])
        |((with_reducible show wpQuiet _ _ _ _ (⟨some 31,_,_,_,_,_⟩::_) _);refine Af rfl BM (.tmp 30) rfl b (o+k * 11) rfl f.cs rfl hb hrf ?_;simp only [Act.put,LP])
        |((with_reducible show wpQuiet _ _ _ _ (⟨some 35,_,_,_,_,_⟩::_) _);refine Af rfl BM (.tmp 34) rfl d (p+k * 11) rfl g.cs rfl hd hrg ?_;simp only [Act.put,LP])
        |((with_reducible show wpQuiet _ _ _ _ (⟨some 42,_,_,_,_,_⟩::_) _);refine Af rfl BM (.tmp 41) rfl d (p+k * 11) rfl g.cs rfl hd hrg ?_;simp only [Act.put,LP])
        |((with_reducible show wpQuiet _ _ _ _ (⟨some 46,_,_,_,_,_⟩::_) _);refine Af rfl BM (.tmp 45) rfl b (o+k * 11) rfl f.cs rfl hb hrf ?_;simp only [Act.put,LP])
        |go_big_quiet_step ((first|(go_at_call 39;exact Be (Oy HL (aD.over _) (Hgo.over _)))|(go_at_call 39;exact Be (Oy HM (Hgo.over _) (aD.over _))))))
       refine CX ?_
       rintro _ ⟨u,rfl⟩
       go_wp2
       go_roundg (n - (k+1))
       case rel=>exact ⟨k+1,rfl,by omega,by go_num,hB.trans u.Au,HR⟩
       case measure=>rw [Cg.Ab];omega
    ·have HN:Hid (∀ w,(binOp .neq 95 (.agg f.ag.cs) (.agg g.ag.cs)).run prog w=.ok (.bool true) w):=fun w=>by rw [Zg];simp [hag]
     have HR:Hid (Mc xl yl=false):=Vr Hf Hg (vM hag)
     clear hag hF
     go_wp2_with fail
     refine Al ?_
     repeat (first
      |((with_reducible show wpQuiet _ _ _ _ (⟨some 20,_,_,_,_,_⟩::_) _);refine Af rfl EC (.tmp 19) rfl b (o+k * 11+1) rfl f.ag.cs rfl hb hra ?_;simp only [Act.put,LP])
      |((with_reducible show wpQuiet _ _ _ _ (⟨some 25,_,_,_,_,_⟩::_) _);refine Af rfl EC (.tmp 24) rfl d (p+k * 11+1) rfl g.ag.cs rfl hd hrh ?_;simp only [Act.put,LP])
      |((with_reducible show wpQuiet _ _ _ _ (⟨some 26,_,_,_,_,_⟩::_) _);refine FX rfl .neq 95 95 (.tmp 20) (.tmp 25) rfl rfl rfl OC HN.Ab ?_;simp only [Act.put,LP])
      |go_big_quiet_step (fail))
     refine CX ?_
     rintro _ ⟨u,rfl⟩
     go_wp2
     go_ret
     rw [HR.Ab]
     exact ⟨rfl,hB.trans u.Au⟩
   ·have HR:Hid (Mc xl yl=true):=by
     show _=_
     have h1:xl.length=n:=hlx.Ab
     have h2:yl.length=n:=hly.Ab
     have h3:=hF.Ab
     rw [DY (by omega),DY (by omega)] at h3
     unfold Mc
     simp [h3]
    clear hF
    go_wp2
    go_ret
    rw [HR.Ab]
    exact ⟨rfl,hB⟩
 ·have HR:Hid (Mc xl yl=false):=by
   show _=_
   unfold Mc
   rw [decide_eq_false_iff_not]
   intro e
   have h1:xl.length=n:=hlx.Ab
   have h2:yl.length=m:=hly.Ab
   have h3:=Cm List.length e
   rw [AL,AL] at h3
   omega
  have q:((n:Int) !=(m:Int))=true:=by rw [bne_iff_ne];omega
  have q2:(n !=m)=true:=by rw [bne_iff_ne];exact hnm
  clear hnm
  go_enter func17,ntmps17
  go_wp2
  go_ret
  rw [HR.Ab]
  exact ⟨rfl,Aj.refl _⟩
end Go.Proofs.YtijplolmkcdflaaGreat
namespace Go.Proofs.YtijplolmkcdflaaGreat
open Tryz
open Go.RowKit
attribute [local go_sem] Jc
theorem RO {f g:AV} {w:World} {r:Int} (h:Cu f.ks.l g.ks.l=r) (hf:f.ok w) (hg:g.ok w):
 Calls prog 108 #[.agg f.cs,.agg g.cs] w fun e w'=>e=.returned (.int .i64 r)∧Aj w w':=by
 have:=Nk f g w hf hg
 rw [h] at this
 exact this
end Go.Proofs.YtijplolmkcdflaaGreat
namespace Go.Proofs.YtijplolmkcdflaaGreat
open Tryz
open Go.RowKit
structure NR where
 ks:Row (List UInt8)
 ag:Ag
def NR.cs (g:NR):Array Value:=⟨g.ks.v::g.ag.cs.toList⟩
structure NR.rd (w:World) (g:NR):Prop where
 ks:g.ks.rd w
 ag:g.ag.ok
theorem R8 (f:NR):f.cs.all (·.oneCell')=true:=by
 rw [NB]
 intro v hv
 have hv':v ∈ f.ks.v::f.ag.cs.toList:=by simpa [NR.cs] using hv
 rcases En.1 hv' with rfl|h
 ·exact Row.Y7 _
 ·exact NB.1 (Kg f.ag) v (by simpa using h)
instance Ab7:Ar NR where
 size:=11
 bytes:=104
 cells f:=f.cs.toList
 ok w f:=f.rd w
 len _:=rfl
 pos:=by omega
 mono hb h:=⟨h.ks.mono hb,h.ag⟩
def NR.Ac (g:NR):List (List UInt8) × Ag:=(g.ks.l,g.ag)
theorem Row.rd.Aa1 {w:World} {x:Row NR} (h:x.rd w) {k:Nat} (hk:k<x.n):∃ b o t,x.A=some ⟨b,o,none⟩∧b<w.heap.size∧x.l[k]?=some t∧t.rd w∧w.cell? ⟨b,o+k * 11,none⟩=some (.slice t.ks.A t.ks.n t.ks.c)∧w.rangeAt b (o+k * 11+1) t.ag.cs.toList:=by
 obtain ⟨b,o,t,e,hb,ht,hc⟩:=Md h.r hk
 refine ⟨b,o,t,e,hb,ht,h.all t (CE ht),hc 0 _ rfl,fun j v hv=>?_⟩
 have:=hc (j+1) v hv
 rw [show o+k * Ar.size NR+(j+1)=o+k * 11+1+j by show o+k * 11+(j+1)=_;omega] at this
 exact this
theorem YX (a b:Row NR) (w:World) (ha:a.rd w) (hb:b.rd w) (he:a.l.map NR.Ac=b.l.map NR.Ac):
 Calls prog 38 #[.slice a.A a.n a.c,.slice b.A b.n b.c] w fun e w'=>e=.returned (.bool true)∧Aj w w':=by
 have HA:=Aa (fun w' (h:Aj w w')=>ha.mono h)
 have HB:=Aa (fun w' (h:Aj w w')=>hb.mono h)
 have hla:a.l.length=a.n:=ha.len
 have hlb:b.l.length=b.n:=hb.len
 have n63:=ha.n63
 have hnn:a.n=b.n:=by have h:=Cm List.length he;rw [Cq,Cq] at h;omega
 have HE:=Aa he
 have H:=Aa (SL.start No w)
 obtain ⟨A,n,c,ps⟩:=a
 obtain ⟨B,m,d,qs⟩:=b
 simp only at *
 subst hnn
 have hq1:((n:Int) !=n)=false:=by simp
 clear ha hb he hla hlb
 go_enter func38,ntmps38
 go_upto_region 4 with fail
 clear hq1
 go_loopg [14] n (fun gg s14 wr=>∃ (k:Nat),gg=n - k∧k≤n∧s14=.int .i64 k∧Hid (SL No w wr []))
 case atStart=>exact ⟨0,rfl,by omega,rfl,H⟩
 case round=>
  clear H
  obtain ⟨k,BG,hk,rfl,H⟩:=hrel
  obtain ⟨W0,hW0⟩:∃ W0,W0=wr:=⟨_,rfl⟩
  subst hW0
  have Cg:=Aa BG
  clear BG
  by_cases hlt:k<n
  ·obtain ⟨b1,o1,p,hA,hb1,hpk,hpr,hrg1,har1⟩:=(HA _ H.to).Aa1 (k:=k) hlt
   simp only at hA
   obtain ⟨b2,o2,q,hB,hb2,hqk,hqr,hrg2,har2⟩:=(HB _ H.to).Aa1 (k:=k) hlt
   simp only at hB
   have hc:p.Ac=q.Ac:=by
    have h1:(ps.map NR.Ac)[k]?=some p.Ac:=by rw [DD,hpk];rfl
    have h2:(qs.map NR.Ac)[k]?=some q.Ac:=by rw [DD,hqk];rfl
    rw [HE.Ab,h2] at h1
    injection h1 with h1
    exact h1.symm
   have hck:p.ks.l=q.ks.l:=Cm Prod.fst hc
   have hca:p.ag=q.ag:=Cm Prod.snd hc
   have HN:Hid (∀ w,(binOp .neq 95 (.agg p.ag.cs) (.agg q.ag.cs)).run prog w=.ok (.bool false) w):=fun w=>by rw [Zg];simp [hca]
   have g1:p.ks.l.length=p.ks.n:=hpr.ks.len
   have g2:q.ks.l.length=q.ks.n:=hqr.ks.len
   have p63:=hpr.ks.n63
   have HX:=Aa (fun w' (h:Aj W0 w')=>hpr.ks.mono h)
   have HY:=Aa (fun w' (h:Aj W0 w')=>hqr.ks.mono h)
   have nP:=Aa (fun w' (h:Aj W0 w')=>(h.cell (p:=⟨b1,o1+k * 11,none⟩) hb1).trans hrg1)
   have HC2:=Aa (fun w' (h:Aj W0 w')=>(h.cell (p:=⟨b2,o2+k * 11,none⟩) hb2).trans hrg2)
   have HR1:=Aa har1
   have HR2:=Aa har2
   have HAA:=Aa hA
   have HBB:=Aa hB
   have i0:(0:Int)≤k:=by omega
   have i1:(k:Int)<n:=by omega
   have HB0:Hid (Aj W0 W0):=Aj.refl _
   rw [hA,hB]
   clear hpk hqk hpr hqr hrg1 hrg2 har1 har2 hc hca hA hB
   obtain ⟨⟨A3,n3,c3,xs⟩,pag⟩:=p
   obtain ⟨⟨A4,n4,c4,ys⟩,qag⟩:=q
   simp only at *
   subst hck
   obtain rfl:n3=n4:=by omega
   clear g1 g2
   have z1:((n3:Int) !=n3)=false:=by simp
   have r1:=nP W0 (Aj.refl _)
   have r2:=HC2 W0 (Aj.refl _)
   go_upto_region 6 with fail
   have f_r1:=fun u:Over W0=>Over.cell r1 u
   have D9:=fun u:Over W0=>Over.cell r2 u
   refine Al ?_
   (try simp only [Act.put,LP])
   repeat (first
    |((with_reducible show wpQuiet _ _ _ _ (⟨some 21,_,_,_,_,_⟩::_) _);refine Af (by first|rfl|go_simp) EC (.tmp 20) rfl b1 (o1+k * 11+1) rfl pag.cs rfl hb1 HR1.Ab ?_;simp only [Act.put,LP])
    |((with_reducible show wpQuiet _ _ _ _ (⟨some 26,_,_,_,_,_⟩::_) _);refine Af (by first|rfl|go_simp) EC (.tmp 25) rfl b2 (o2+k * 11+1) rfl qag.cs rfl hb2 HR2.Ab ?_;simp only [Act.put,LP])
    |((with_reducible show wpQuiet _ _ _ _ (⟨some 27,_,_,_,_,_⟩::_) _);refine FX rfl .neq 95 95 (.tmp 21) (.tmp 26) rfl rfl rfl OC HN.Ab ?_;simp only [Act.put,LP])
    |go_big_quiet_step (fail))
   refine CX ?_
   rintro w5 ⟨⟨_,FP⟩,rfl⟩
   (try dsimp only)
   replace H:=Aa (H.Au FP)
   clear f_r1 D9 r1 r2
   replace HB0:=Aa (HB0.trans FP)
   clear FP
   have r1:=nP w5 HB0.Ab
   go_upto_region 9 with fail
   clear z1 r1 HR1 HR2 HN
   go_loopg [49] n3 (fun gg s49 wx=>∃ (j:Nat),gg=n3 - j∧j≤n3∧s49=.int .i64 j∧Hid (Aj W0 wx)∧Hid (SL No w wx []))
   case atStart=>exact ⟨0,rfl,by omega,rfl,HB0,H⟩
   case round=>
    clear H HB0
    obtain ⟨j,hgj,hj,rfl,HB0,H⟩:=hrel
    have Kv:=Aa hgj
    clear hgj
    by_cases hjlt:j<n3
    ·obtain ⟨b4,o4,t,Zq,htk,htl,hr4⟩:=(HX _ HB0.Ab).FE (k:=j) hjlt
     obtain ⟨b5,o5,t2,hA5,Wd,_,J5⟩:=(HY _ HB0.Ab).FE (k:=j) hjlt
     simp only at Zq hA5 htk Wd
     rw [htk] at Wd
     injection Wd with Wd
     subst Wd
     have j0:(0:Int)≤j:=by omega
     have j1:(j:Int)<n3:=by omega
     have r1:=nP _ HB0.Ab
     have r2:=HC2 _ HB0.Ab
     rw [Zq] at r1
     rw [hA5] at r2
     clear htk Zq hA5
     go_upto_region 11 with fail
     have f_r1:=fun u:Over wr=>Over.cell r1 u
     have D9:=fun u:Over wr=>Over.cell r2 u
     have E8:=fun u:Over wr=>Over.cell hr4 u
     have E5:=fun u:Over wr=>Over.cell J5 u
     refine Al ?_
     (try simp only [Act.put,LP])
     repeat (go_big_quiet_step (fail))
     refine CX ?_
     rintro w5 ⟨⟨_,FP⟩,rfl⟩
     (try dsimp only)
     replace H:=Aa (H.Au FP)
     clear f_r1 D9 E8 E5 r1 r2 hr4 J5
     replace HB0:=Aa (HB0.trans FP)
     clear FP
     go_wp2_with fail
     go_roundg (n3 - (j+1))
     case rel=>exact ⟨j+1,rfl,by omega,by go_num,HB0,H⟩
     case measure=>rw [Kv.Ab];omega
    ·go_wp2_with fail
     rw [←HAA.Ab,←HBB.Ab]
     go_roundg (n - (k+1))
     case rel=>exact ⟨k+1,rfl,by omega,by go_num,H⟩
     case measure=>rw [Cg.Ab];omega
  ·go_wp2
   go_ret
   exact ⟨rfl,H.to⟩
structure Io where
 er:Int
 gs:Row NR
 ns:Row Int
abbrev Io.cs (a:Io):Array Value:=#[.int .i64 a.er,.slice a.gs.A a.gs.n a.gs.c,.slice a.ns.A a.ns.n a.ns.c]
structure Io.rd (w:World) (a:Io):Prop where
 gs:a.gs.rd w
 ns:a.ns.rd w
theorem Io.rd.mono {w w':World} {a:Io} (h:a.rd w) (hb:Aj w w'):a.rd w':=⟨h.gs.mono hb,h.ns.mono hb⟩
structure aG where
 er:Int
 gs:List (List (List UInt8) × Ag)
 ns:List Int
def Io.Ac (a:Io):aG:=⟨a.er,a.gs.l.map NR.Ac,a.ns.l⟩
theorem bE (a b:Io) (w:World) (ha:a.rd w) (hb:b.rd w) (he:a.Ac=b.Ac):
 Calls prog 16 #[.agg a.cs,.agg b.cs] w fun e w'=>e=.returned (.bool true)∧Aj w w':=by
 have HAN:=Aa (fun w' (h:Aj w w')=>YX a.gs b.gs w' (ha.gs.mono h) (hb.gs.mono h) (Cm aG.gs he))
 have HX:=Aa (fun w' (h:Aj w w')=>ha.ns.mono h)
 have HY:=Aa (fun w' (h:Aj w w')=>hb.ns.mono h)
 have hla:a.ns.l.length=a.ns.n:=ha.ns.len
 have hlb:b.ns.l.length=b.ns.n:=hb.ns.len
 have n63:=ha.ns.n63
 have hE:a.er=b.er:=Cm aG.er he
 have hN:a.ns.l=b.ns.l:=Cm aG.ns he
 have hnn:a.ns.n=b.ns.n:=by rw [←hla,←hlb,hN]
 have H:=Aa (((SL.start No w).alloc a.cs 49).alloc b.cs 49)
 (try simp only [LS] at H)
 obtain ⟨er,⟨A1,n1,c1,gs1⟩,⟨A,n,c,ps⟩⟩:=a
 obtain ⟨er2,⟨B1,m1,d1,gs2⟩,⟨B,m,d,qs⟩⟩:=b
 simp only [Io.cs] at *
 subst hnn hE hN
 have hq1:((n:Int) !=n)=false:=by simp
 have hq2:(er !=er)=false:=by simp
 clear ha hb he hla hlb
 go_enter func16,ntmps16
 go_upto_region 1 with fail
 generalize w.heap.size+1=y at *
 generalize w.heap.size=x at *
 generalize World.alloc (World.alloc _ _) _=w0 at *
 have p0:w0.cell? ⟨x,0,none⟩=some (.int .i64 er):=(H.blk 0 rfl).cell 0
 have p1:w0.cell? ⟨x,1,none⟩=some (.slice A1 n1 c1):=(H.blk 0 rfl).cell 1
 have p2:w0.cell? ⟨x,2,none⟩=some (.slice A n c):=(H.blk 0 rfl).cell 2
 have e0:w0.cell? ⟨y,0,none⟩=some (.int .i64 er):=(H.blk 1 rfl).cell 0
 have e1:w0.cell? ⟨y,1,none⟩=some (.slice B1 m1 d1):=(H.blk 1 rfl).cell 1
 have e2:w0.cell? ⟨y,2,none⟩=some (.slice B n d):=(H.blk 1 rfl).cell 2
 go_wp2_with fail
 refine (HAN _ H.to).mono ?_;rintro e w1 ⟨rfl,hb1⟩
 replace H:=Aa (H.Au hb1)
 clear hb1 HAN p0 p1 p2 e0 e1 e2
 have p2:w1.cell? ⟨x,2,none⟩=some (.slice A n c):=(H.blk 0 rfl).cell 2
 go_upto_region 4 with fail
 clear p2 hq1 hq2
 go_loopg [31] n (fun gg s31 wr=>∃ (k:Nat),gg=n - k∧k≤n∧s31=.int .i64 k∧Hid (SL No w wr [Av x 49 #[.int .i64 er,.slice A1 n1 c1,.slice A n c],Av y 49 #[.int .i64 er,.slice B1 m1 d1,.slice B n d]]))
 case atStart=>exact ⟨0,rfl,by omega,rfl,H⟩
 case round=>
  clear H
  obtain ⟨k,BG,hk,rfl,H⟩:=hrel
  have Cg:=Aa BG
  clear BG
  by_cases hlt:k<n
  ·obtain ⟨b4,o4,t,Zq,htk,ht64,hr4⟩:=(HX _ H.to).PZ (k:=k) hlt
   obtain ⟨b5,o5,t2,hA5,Wd,_,J5⟩:=(HY _ H.to).PZ (k:=k) hlt
   simp only at Zq hA5 htk Wd
   rw [htk] at Wd
   injection Wd with Wd
   subst Wd
   have i0:(0:Int)≤k:=by omega
   have i1:(k:Int)<n:=by omega
   have p2:wr.cell? ⟨x,2,none⟩=some (.slice A n c):=(H.blk 0 rfl).cell 2
   have e2:wr.cell? ⟨y,2,none⟩=some (.slice B n d):=(H.blk 1 rfl).cell 2
   have z1:(t !=t)=false:=by simp
   rw [Zq] at p2
   rw [hA5] at e2
   clear htk Zq hA5
   go_upto_region 6 with fail
   have f_p2:=fun u:Over wr=>Over.cell p2 u
   have f_e2:=fun u:Over wr=>Over.cell e2 u
   have E8:=fun u:Over wr=>Over.cell hr4 u
   have E5:=fun u:Over wr=>Over.cell J5 u
   refine Al ?_
   (try simp only [Act.put,LP])
   repeat (go_big_quiet_step (fail))
   refine CX ?_
   rintro w5 ⟨⟨_,FP⟩,rfl⟩
   (try dsimp only)
   replace H:=Aa (H.Au FP)
   clear f_p2 f_e2 E8 E5 p2 e2 hr4 J5
   clear FP
   go_wp2_with fail
   go_roundg (n - (k+1))
   case rel=>exact ⟨k+1,rfl,by omega,by go_num,H⟩
   case measure=>rw [Cg.Ab];omega
  ·go_wp2
   go_ret
   exact ⟨rfl,H.to⟩
section
variable {P : Program} {w : World}
theorem Bu {ops:Array Oper} {o:Oper} {a:Act} {K:Act→World→Prop} {Q:Exit→Act→World→Prop} {X:Prop} (hgd:o.guard=none) {t e:TypeId} {size bytes:Nat} (E:BC P t e size bytes) (x:Operand) (ho:o.op=.buildSlice t 1 #[(0,x)])
 (v:Value) (hx:a.eval x=v) (cs:Array Value) (hc:v.cells=cs) (hv:cs.size=size) (hs:size≤1000)
 (h:K (a.put o.dst (.slice (some ⟨w.heap.size,0,none⟩) 1 1)) (w.alloc (.cells cs e))):
 if Region.wanted o (yielded ops a.tmps)=true then Oper.wp P o a w K Q else X:=by
 subst hc
 have hw:Region.wanted o (yielded ops a.tmps)=true:=by simp [Region.wanted,hgd]
 rw [Ak hw]
 unfold Oper.wp execOp
 have hr:=JY E v hv hs w
 simp only [ho,PI,DI,EF,hx,IP,hr,JK,JJ]
 exact h
end
structure iF (w:World) (b y:Nat) (s l nm:List UInt8) (v:Value) (ts:List (List UInt8)) (u:Value) (ups:List Int) (wr:World):Prop where
 g:w.grownBy wr (some b)
 r:Gb wr b s l
 Z:Br wr w.heap.size 75 #[.string ⟨#[]⟩,.slice none 0 0,.slice none 0 0]
 Y:Br wr y 75 #[.string ⟨nm.toArray⟩,v,u]
 ts:wr.ownsRow (w.heap.size+1) 9 1 v ts.length (ts.map tx)
 up:wr.ownsRow (w.heap.size+1) 3 1 u ups.length (ups.map (Value.int .i64))
theorem Z0:(3:TypeId)≠9:=by decide
theorem Z5:(3:TypeId)≠75:=by decide
theorem Ad9:(9:TypeId)≠75:=by decide
theorem UB {w w':World} {base:Nat} {e:TypeId} {size n g:Nat} {v:Value} {xs:List Value} (h:w.ownsRow base e size v n xs) (hg:w.grownBy w' (some g)) (hne:v.ownBlock≠some g):w'.ownsRow base e size v n xs:=
 h.kept hg (by
  rcases ho:v.ownBlock with _|k
  ·exact .inl rfl
  ·exact .inr (by rw [←ho];exact hne))
section
variable {w w1 w2 : World} {b y : Nat} {s l l' nm : List UInt8} {v u u' : Value} {ts : List (List UInt8)} {ups : List Int}
theorem iF.read (h:iF w b y s l nm v ts u ups w1) (hb:b<w.heap.size) (hg:w1.grownBy w2 (some b)) (hr:Gb w2 b s l') (hy:w.heap.size<y:=by assumption):iF w b y s l' nm v ts u ups w2:=
 ⟨h.g.trans hg,hr,h.Z.grown hg (by intro e;injection e with e;omega),h.Y.grown hg (by intro e;injection e with e;omega),h.ts.kept hg (KC h.ts (by omega)),h.up.kept hg (KC h.up (by omega))⟩
theorem iF.more (h:iF w b y s l nm v ts u ups w1) (hb:Aj w1 w2):iF w b y s l nm v ts u ups w2:=
 ⟨h.g.trans (Di hb _),h.r.Au hb,h.Z.Au hb,h.Y.Au hb,FB h.ts hb,FB h.up hb⟩
theorem iF.app {x:Int} (h:iF w b y s l nm v ts u ups w1) (ho:w2.ownsRow (w.heap.size+1) 3 1 u' (ups.length+1) (ups.map (Value.int .i64)++[.int .i64 x])) (hg:w1.grownBy w2 u.ownBlock) (hb:b<w.heap.size:=by assumption):
 w.grownBy w2 (some b)∧Gb w2 b s l∧Br w2 w.heap.size 75 #[.string ⟨#[]⟩,.slice none 0 0,.slice none 0 0]∧Br w2 y 75 #[.string ⟨nm.toArray⟩,v,u]∧w2.ownsRow (w.heap.size+1) 9 1 v ts.length (ts.map tx)∧w2.ownsRow (w.heap.size+1) 3 1 u' (ups++[x]).length ((ups++[x]).map (Value.int .i64)):=by
 have hu:=h.up
 refine ⟨h.g.andThen hg (fun j e=>.inl (by have:=Gj hu e;omega)),h.r.grown hg (fun e=>by have:=Gj hu e.symm;omega),h.Z.grown hg (fun e=>by have:=Gj hu e.symm;omega),h.Y.grown hg (fun e=>QE hu h.Y Z5 e.symm),Yf h.ts hg (Ud h.ts hu (fun e=>Z0 e.symm)),by simpa using ho⟩
theorem iF.stored (hg:w.grownBy w1 (some b)) (hr:Gb w1 b s l) (hz:Br w1 w.heap.size 75 #[.string ⟨#[]⟩,.slice none 0 0,.slice none 0 0]) (hY:Br w1 y 75 #[.string ⟨nm.toArray⟩,v,u]) (ht:w1.ownsRow (w.heap.size+1) 9 1 v ts.length (ts.map tx)) (ho:w1.ownsRow (w.heap.size+1) 3 1 u' ups.length (ups.map (Value.int .i64))) (hyb:y≠b) (hyw:w.heap.size≤y) (hy:w.heap.size<y):iF w b y s l nm v ts u' ups (w1.setCell ⟨y,2,none⟩ u'):=by
 have g:=grownBy_setCell w1 y 2 u'
 refine ⟨hg.andThen g (fun k e=>by injection e with e;exact .inl (by omega)),hr.grown g (by intro e;injection e with e;omega),hz.grown g (by intro e;injection e with e;omega),?_,?_,?_⟩
 ·have:=hY.Gr 2 u'
  simpa using this
 ·exact UB ht g (QE ht hY Ad9)
 ·exact UB ho g (QE ho hY Z5)
end
def Ke (ds:List Int) (o:PR (List Int)):PR (List Int):=match o with|.error e=>.error e|.ok (xs,r)=>.ok (ds++xs,r)
theorem nD (o:PR (List Int)):Ke [] o=o:=by rcases o with e|⟨xs,r⟩<;>rfl
theorem Uf {ds:List Int} {most:Int} {n x:Nat} {l r:List UInt8} (h:Et most l=.ok (x,r)):Ke ds (Jl most (n+1) l)=Ke (ds++[(x:Int)]) (Jl most n r):=by
 simp only [Jl,h]
 rcases Jl most n r with e|⟨xs,r2⟩
 ·rfl
 ·simp [Ke]
theorem WR {ds:List Int} {most k:Int} {n:Nat} {l:List UInt8} (h:Et most l=.error k):Ke ds (Jl most (n+1) l)=.error k:=by
 simp only [Jl,h]
 rfl
def Rt (above:Int) (nm:List UInt8) (ts:List (List UInt8)) (o:PR (List Int)):PR TC:=match o with|.error k=>.error k|.ok (up,r)=>KV above ⟨nm,ts,up⟩ r
theorem XF {most:Int} {l r:List UInt8} {ts:List (List UInt8)} (h:tread most l=.ok (ts,r)):(ts.length:Int)≤most:=by
 unfold tread at h
 split at h
 ·cases h
 ·rename_i n r1 hp
  have h1:=(TB (p:=none) h (.inr ⟨rfl,rfl⟩)).2.1
  have h2:=(Ex hp).2.1
  omega
theorem yK {above:Int} {l r r2 nm:List UInt8} {ts:List (List UInt8)} (h1:Eg 12 l=.ok (nm,r)) (h2:tread 200 r=.ok (ts,r2)):EJ above l=Rt above nm ts (Rq above ts.length r2):=by
 unfold EJ
 rw [h1]
 simp only
 rw [h2]
 simp only
 unfold Rt
 cases Rq above ts.length r2<;>rfl
structure FJ (base:Nat) (T:Bg) (w:World):Prop where
 ts:w.ownsRow base 9 1 (.slice T.ts.A T.ts.n T.ts.c) T.ts.n (T.ts.l.map tx)
 up:w.ownsRow base 3 1 (.slice T.up.A T.up.n T.up.c) T.up.n (T.up.l.map (Value.int .i64))
 nm:T.nm.length≤12
 tl:∀ t ∈ T.ts.l,t.length≤16
 ul:∀ z ∈ T.up.l,AP z
 tn:T.ts.n≤200
 un:T.up.n≤200
theorem FJ.rd {base:Nat} {T:Bg} {w:World} (h:FJ base T w):T.rd w:=
 ⟨by have:=h.nm;omega,⟨by have:=Rd.Bf h.ts;rw [FQ];exact this,fun t ht=>by have:=h.tl t ht;show t.length≤_;omega,by have:=h.tn;omega⟩,⟨by have:=Rd.Bf h.up;rw [EX];exact this,fun z hz=>h.ul z hz,by have:=h.un;omega⟩⟩
theorem FJ.kept {base:Nat} {T:Bg} {w w':World} {g:Nat} (h:FJ base T w) (hg:w.grownBy w' (some g)) (hb:g<base):FJ base T w':=
 ⟨h.ts.kept hg (KC h.ts hb),h.up.kept hg (KC h.up hb),h.nm,h.tl,h.ul,h.tn,h.un⟩
theorem FJ.Au {base:Nat} {T:Bg} {w w':World} (h:FJ base T w) (hb:Aj w w'):FJ base T w':=⟨FB h.ts hb,FB h.up hb,h.nm,h.tl,h.ul,h.tn,h.un⟩
def Ac8 (b:Nat) (s:List UInt8) (o:PR TC) (w:World) (e:Ending) (w':World):Prop:=
 match o with
 |.error k=>Tj b s k w e w'
 |.ok (t,l)=>∃ T:Bg,e=.returned (.agg T.cs)∧T.Ac=t∧w.grownBy w' (some b)∧Gb w' b s l∧FJ (w.heap.size+1) T w'
theorem iT (b:Nat) (s l:List UInt8) (above:Int) (w:World) (hR:Gb w b s l) (ha:AP above):
 Calls prog 170 #[.pointer (some ⟨b,0,none⟩),.int .i64 above] w (Ac8 b s (EJ above l) w):=by
 have hb:=hR.lt
 have hl0:=hR.len
 obtain ⟨a0,a1⟩:=ha
 have HC:=Aa (fun (T:Bg) w (h:T.rd w) (hn:T.up.n≤100000)=>TD T above w h hn ⟨a0,a1⟩)
 have HZ:=Aa (Br.new w 75 #[.string ⟨#[]⟩,.slice none 0 0,.slice none 0 0])
 have HT:=Aa (KQ b s l 12 (w.alloc (.cells #[.string ⟨#[]⟩,.slice none 0 0,.slice none 0 0] 75)) (hR.Au ((Aj.refl w).alloc _)) (by omega) (by omega))
 have HG:Hid (w.grownBy (w.alloc (.cells #[.string ⟨#[]⟩,.slice none 0 0,.slice none 0 0] 75)) (some b)):=Di ((Aj.refl w).alloc _) _
 clear hR
 go_enter func170,ntmps170
 go_wp2_with fail
 cases hp:Eg 12 l with
 |error k=>
  have HE:Hid (EJ above l=.error k):=by show _=_;unfold EJ;rw [hp]
  rw [hp] at HT
  refine HT.mono ?_;rintro e w1 ⟨rfl,hg,hr⟩
  clear hp
  go_wp2_with fail
  refine ⟨rfl,?_⟩
  rw [HE.Ab]
  exact ⟨rfl,HG.trans hg,hr⟩
 |ok q=>
  obtain ⟨nm,r1⟩:=q
  have Hp:=Aa hp
  obtain ⟨hnm,_⟩:=MX hp
  rw [hp] at HT
  refine HT.mono ?_;rintro e w1 ⟨rfl,hg,hr⟩
  have G1:=Aa (HG.trans hg)
  have Z1:=Aa (HZ.grown hg (by intro e;injection e with e;omega))
  have HD:=Aa (XH b s r1 200 w1 hr (by omega) (by omega) (by omega))
  have hz1:w.heap.size<w1.heap.size:=Z1.lt
  clear hp hg hr HG HZ HT
  go_wp2_with fail
  cases hd:tread 200 r1 with
  |error k=>
   have HE:Hid (EJ above l=.error k):=by show _=_;unfold EJ;rw [Hp.Ab];simp only;rw [hd]
   rw [hd] at HD
   refine HD.mono ?_;rintro e w2 ⟨rfl,hg,hr⟩
   clear hd
   go_wp2_with fail
   refine ⟨rfl,?_⟩
   rw [HE.Ab]
   exact ⟨rfl,G1.trans hg,hr⟩
  |ok q=>
   obtain ⟨ts,r2⟩:=q
   have HE:=Aa (yK (above:=above) Hp hd)
   have hrow:=(MR hd).1
   have htl:Hid (∀ t ∈ ts,t.length≤16):=fun t ht=>Gv hrow ht
   rw [hd] at HD
   refine HD.mono ?_;rintro e w2 ⟨v,rfl,hx⟩
   obtain ⟨A,c,rfl,_⟩:=Ao hx.own
   have oW:ts.length≤200:=by have:=XF hd;omega
   have H2:Hid (iF w b w2.heap.size s r2 nm (.slice A ts.length c) ts (.slice none 0 0) [] (w2.alloc (.cells #[.string ⟨nm.toArray⟩,.slice A ts.length c,.slice none 0 0] 75))):=
    ⟨(G1.trans hx.g).trans (Di ((Aj.refl _).alloc _) _),hx.r.Au ((Aj.refl _).alloc _),(Z1.grown hx.g (by intro e;injection e with e;omega)).alloc _,Br.new w2 _ _,FB (yU hx.own (by omega)) ((Aj.refl _).alloc _),⟨rfl,.inl ⟨rfl,rfl⟩⟩⟩
   have hyz:w.heap.size<w2.heap.size:=by have:=hx.g.size;omega
   have hyb:w2.heap.size≠b:=by omega
   have hyw:w.heap.size≤w2.heap.size:=by omega
   clear hd hx HD G1 Z1 hrow Hp
   by_cases h0:0<above
   ·have HE2:Hid (EJ above l=Rt above nm ts (Ke [] (Jl (above - 1) (ts.length - 0) r2))):=by show _=_;rw [HE.Ab,nD];unfold Rq;rw [Ak h0];rfl
    have wa:IntKind.i64.wrap (above - 1)=above - 1:=Kj _ (by omega)
    obtain ⟨n,hn⟩:∃ n,n=ts.length:=⟨_,rfl⟩
    have HNN:=Aa hn
    rw [←hn] at HE2 H2 oW
    rw [←hn]
    clear hn HE
    go_wp2_with (((with_reducible refine OS 5 ?_);refine Fu Es #[.string ⟨nm.toArray⟩,.slice A n c,.slice none 0 0] (by simp [Value.oneCell']) ?_))
    go_loopg [17] n (fun gg i wr=>∃ (k:Nat) (u:Value) (ups:List Int) (lr:List UInt8),gg=n - k∧k≤n∧i=.int .i64 k∧Hid (ups.length=k)∧Hid (∀ z ∈ ups,AP z)∧Hid (iF w b w2.heap.size s lr nm (.slice A n c) ts u ups wr)∧Hid (EJ above l=Rt above nm ts (Ke ups (Jl (above - 1) (n - k) lr))))
    case atStart=>exact ⟨0,_,[],r2,rfl,by omega,rfl,rfl,(fun z hz=>by cases hz),H2,HE2⟩
    case round=>
     clear H2 HE2
     obtain ⟨k,u,ups,lr,BG,hk,rfl,hdk,HX,H,hE⟩:=hrel
     have Cg:=Aa BG
     clear BG
     by_cases hlt:k<n
     ·have HA:=Aa (fun w (h:Gb w b s lr)=>Gp b s lr (above - 1) w h (by omega) (by omega))
      cases hp:Et (above - 1) lr with
      |error e=>
       have HN:Hid (EJ above l=.error e):=by show _=_;rw [hE.Ab,show n - k=(n - (k+1))+1 by omega,WR hp];rfl
       rw [hp] at HA
       clear hp hE
       go_wp2_with fail
       refine EG (S:=fun _=>True) (by kernel_rfl) trivial fun hHeld=>?_
       have H1:=Aa (H.more (Aj.refl wr).drew)
       generalize wr.drew=w2d at *
       refine BJ NG ?_
       refine BJ NW ?_
       refine BJ KF ?_
       refine BJ Mr ?_
       refine DX (rs:=[1,5]) (by kernel_rfl) (by simp) ?_
       refine AllReadyH.cons KG (fun KK Ad=>?_) (AllReadyH.cons Lv (fun KK Ad=>?_) AllReadyH.nil)
       ·have c0:=H1.Ab.Y.Am 2
        go_simp
        clear c0
        refine Ai Ad trivial fun hHeld=>?_
        clear Ad KK
        refine DX (rs:=[5]) (by kernel_rfl) (by simp) ?_
        refine AllReadyH.cons Lv (fun KK Ad=>?_) AllReadyH.nil
        go_simp
        refine (HA _ H1.r).mono ?_;rintro e' w3 ⟨rfl,hg3,hr3⟩
        refine ⟨rfl,?_⟩
        rw [HN.Ab]
        exact ⟨rfl,H1.g.trans hg3,hr3⟩
       ·go_simp
        refine (HA _ H1.r).mono ?_;rintro e' w3 ⟨rfl,hg3,hr3⟩
        refine ⟨rfl,?_⟩
        rw [HN.Ab]
        exact ⟨rfl,H1.g.trans hg3,hr3⟩
      |ok q=>
       obtain ⟨x,r⟩:=q
       have HN:Hid (EJ above l=Rt above nm ts (Ke (ups++[(x:Int)]) (Jl (above - 1) (n - (k+1)) r))):=by show _=_;rw [hE.Ab,show n - k=(n - (k+1))+1 by omega,Uf hp]
       have wR:Hid (∀ z ∈ ups++[(x:Int)],AP z):=by
        intro z hz
        rcases DT.1 hz with hz|hz
        ·exact HX z hz
        ·have:=Ex hp
         simp at hz
         subst hz
         unfold AP
         omega
       rw [hp] at HA
       clear hp hE
       go_wp2_with fail
       refine EG (S:=fun _=>True) (by kernel_rfl) trivial fun hHeld=>?_
       have H1:=Aa (H.more (Aj.refl wr).drew)
       generalize wr.drew=w2d at *
       refine BJ NG ?_
       refine BJ NW ?_
       refine BJ KF ?_
       refine BJ Mr ?_
       refine DX (rs:=[1,5]) (by kernel_rfl) (by simp) ?_
       refine AllReadyH.cons KG (fun KK Ad=>?_) (AllReadyH.cons Lv (fun KK Ad=>?_) AllReadyH.nil)
       ·have c0:=H1.Ab.Y.Am 2
        go_simp
        clear c0
        refine Ai Ad trivial fun hHeld=>?_
        clear Ad KK
        refine DX (rs:=[5]) (by kernel_rfl) (by simp) ?_
        refine AllReadyH.cons Lv (fun KK Ad=>?_) AllReadyH.nil
        go_simp
        refine (HA _ H1.r).mono ?_;rintro e' w3 ⟨rfl,hg3,hr3⟩
        have H3:=Aa (H1.read hb hg3 hr3)
        refine Ai Ad trivial fun hHeld=>?_
        clear Ad KK
        clear hg3 hr3
        refine DX (rs:=[6]) (by kernel_rfl) (by simp) ?_
        refine AllReadyH.cons Mq (fun KK Ad=>?_) AllReadyH.nil
        have H4:=Aa (H3.more ((Aj.refl _).alloc (.cells #[.int .i64 (x:Nat)] 3)))
        have R4:=Aa (KT w3 3 #[.int .i64 (x:Nat)] 1 1 rfl)
        have hz4:w.heap.size+1≤w3.heap.size:=by have:=H3.Ab.Z.lt;omega
        refine Bu rfl Lf (.tmp 24) rfl (.int .i64 (x:Nat)) rfl #[.int .i64 (x:Nat)] rfl rfl (by omega) ?_
        refine Ai Ad trivial fun hHeld=>?_
        clear Ad KK
        refine DX (rs:=[7]) (by kernel_rfl) (by simp) ?_
        refine AllReadyH.cons LX (fun KK Ad=>?_) AllReadyH.nil
        refine Aw rfl (.tmp 20) (.tmp 25) _ rfl Lf (w.heap.size+1) (by simp;omega) u ups.length (ups.map (Value.int .i64)) rfl H4.up _ 1 1 [.int .i64 (x:Nat)] rfl R4 (by simp [Value.oneCell']) (by have:=hdk.Ab;unfold maxLen;omega) (by have:=hdk.Ab;omega) ?_
        intro u5 w5 hown5 hg5 uQ
        obtain ⟨g5,r5,z5,y5,t5,o5⟩:=H4.app hown5 hg5
        have c5:=y5.cell 2
        have f5:=y5.frozen 2
        simp only [LG] at c5
        obtain ⟨A5,q5,rfl,_⟩:=Ao o5
        have H5:=Aa (iF.stored (hy:=hyz) g5 r5 z5 y5 t5 o5 hyb hyw)
        rw [BQ,List.length_singleton] at H5
        clear g5 r5 z5 y5 t5 o5 hown5 uQ hg5
        refine Ai Ad trivial fun hHeld=>?_
        clear Ad KK
        refine DX (rs:=[8]) (by kernel_rfl) (by simp) ?_
        refine AllReadyH.cons Px (fun KK Ad=>?_) AllReadyH.nil
        go_simp
        refine Ai Ad trivial fun hHeld=>?_
        clear Ad KK
        refine DX (rs:=[9]) (by kernel_rfl) (by simp) ?_
        refine AllReadyH.cons Qb (fun KK Ad=>?_) AllReadyH.nil
        go_simp
        clear c5 f5
        refine Ai Ad trivial fun hHeld=>?_
        clear Ad KK
        refine BX ?_
        clear hHeld
        go_wp2_with fail
        go_roundg (n - (k+1))
        case rel=>exact ⟨k+1,_,ups++[(x:Int)],r,rfl,by omega,by go_num,by show _=_;have:=hdk.Ab;simp [this],wR,H5,HN⟩
        case measure=>rw [Cg.Ab];omega
       ·go_simp
        refine (HA _ H1.r).mono ?_;rintro e' w3 ⟨rfl,hg3,hr3⟩
        have H3:=Aa (H1.read hb hg3 hr3)
        refine Ai Ad trivial fun hHeld=>?_
        clear Ad KK
        clear hg3 hr3
        refine DX (rs:=[1,6]) (by kernel_rfl) (by simp) ?_
        refine AllReadyH.cons KG (fun KK Ad=>?_) (AllReadyH.cons Mq (fun KK Ad=>?_) AllReadyH.nil)
        ·have c0:=H3.Ab.Y.Am 2
         go_simp
         clear c0
         refine Ai Ad trivial fun hHeld=>?_
         clear Ad KK
         refine DX (rs:=[6]) (by kernel_rfl) (by simp) ?_
         refine AllReadyH.cons Mq (fun KK Ad=>?_) AllReadyH.nil
         have H4:=Aa (H3.more ((Aj.refl _).alloc (.cells #[.int .i64 (x:Nat)] 3)))
         have R4:=Aa (KT w3 3 #[.int .i64 (x:Nat)] 1 1 rfl)
         have hz4:w.heap.size+1≤w3.heap.size:=by have:=H3.Ab.Z.lt;omega
         refine Bu rfl Lf (.tmp 24) rfl (.int .i64 (x:Nat)) rfl #[.int .i64 (x:Nat)] rfl rfl (by omega) ?_
         refine Ai Ad trivial fun hHeld=>?_
         clear Ad KK
         refine DX (rs:=[7]) (by kernel_rfl) (by simp) ?_
         refine AllReadyH.cons LX (fun KK Ad=>?_) AllReadyH.nil
         refine Aw rfl (.tmp 20) (.tmp 25) _ rfl Lf (w.heap.size+1) (by simp;omega) u ups.length (ups.map (Value.int .i64)) rfl H4.up _ 1 1 [.int .i64 (x:Nat)] rfl R4 (by simp [Value.oneCell']) (by have:=hdk.Ab;unfold maxLen;omega) (by have:=hdk.Ab;omega) ?_
         intro u5 w5 hown5 hg5 uQ
         obtain ⟨g5,r5,z5,y5,t5,o5⟩:=H4.app hown5 hg5
         have c5:=y5.cell 2
         have f5:=y5.frozen 2
         simp only [LG] at c5
         obtain ⟨A5,q5,rfl,_⟩:=Ao o5
         have H5:=Aa (iF.stored (hy:=hyz) g5 r5 z5 y5 t5 o5 hyb hyw)
         rw [BQ,List.length_singleton] at H5
         clear g5 r5 z5 y5 t5 o5 hown5 uQ hg5
         refine Ai Ad trivial fun hHeld=>?_
         clear Ad KK
         refine DX (rs:=[8]) (by kernel_rfl) (by simp) ?_
         refine AllReadyH.cons Px (fun KK Ad=>?_) AllReadyH.nil
         go_simp
         refine Ai Ad trivial fun hHeld=>?_
         clear Ad KK
         refine DX (rs:=[9]) (by kernel_rfl) (by simp) ?_
         refine AllReadyH.cons Qb (fun KK Ad=>?_) AllReadyH.nil
         go_simp
         clear c5 f5
         refine Ai Ad trivial fun hHeld=>?_
         clear Ad KK
         refine BX ?_
         clear hHeld
         go_wp2_with fail
         go_roundg (n - (k+1))
         case rel=>exact ⟨k+1,_,ups++[(x:Int)],r,rfl,by omega,by go_num,by show _=_;have:=hdk.Ab;simp [this],wR,H5,HN⟩
         case measure=>rw [Cg.Ab];omega
        ·have H4:=Aa (H3.more ((Aj.refl _).alloc (.cells #[.int .i64 (x:Nat)] 3)))
         have R4:=Aa (KT w3 3 #[.int .i64 (x:Nat)] 1 1 rfl)
         have hz4:w.heap.size+1≤w3.heap.size:=by have:=H3.Ab.Z.lt;omega
         refine Bu rfl Lf (.tmp 24) rfl (.int .i64 (x:Nat)) rfl #[.int .i64 (x:Nat)] rfl rfl (by omega) ?_
         refine Ai Ad trivial fun hHeld=>?_
         clear Ad KK
         refine DX (rs:=[1]) (by kernel_rfl) (by simp) ?_
         refine AllReadyH.cons KG (fun KK Ad=>?_) AllReadyH.nil
         have c0:=H4.Ab.Y.Am 2
         go_simp
         clear c0
         refine Ai Ad trivial fun hHeld=>?_
         clear Ad KK
         refine DX (rs:=[7]) (by kernel_rfl) (by simp) ?_
         refine AllReadyH.cons LX (fun KK Ad=>?_) AllReadyH.nil
         refine Aw rfl (.tmp 20) (.tmp 25) _ rfl Lf (w.heap.size+1) (by simp;omega) u ups.length (ups.map (Value.int .i64)) rfl H4.up _ 1 1 [.int .i64 (x:Nat)] rfl R4 (by simp [Value.oneCell']) (by have:=hdk.Ab;unfold maxLen;omega) (by have:=hdk.Ab;omega) ?_
         intro u5 w5 hown5 hg5 uQ
         obtain ⟨g5,r5,z5,y5,t5,o5⟩:=H4.app hown5 hg5
         have c5:=y5.cell 2
         have f5:=y5.frozen 2
         simp only [LG] at c5
         obtain ⟨A5,q5,rfl,_⟩:=Ao o5
         have H5:=Aa (iF.stored (hy:=hyz) g5 r5 z5 y5 t5 o5 hyb hyw)
         rw [BQ,List.length_singleton] at H5
         clear g5 r5 z5 y5 t5 o5 hown5 uQ hg5
         refine Ai Ad trivial fun hHeld=>?_
         clear Ad KK
         refine DX (rs:=[8]) (by kernel_rfl) (by simp) ?_
         refine AllReadyH.cons Px (fun KK Ad=>?_) AllReadyH.nil
         go_simp
         refine Ai Ad trivial fun hHeld=>?_
         clear Ad KK
         refine DX (rs:=[9]) (by kernel_rfl) (by simp) ?_
         refine AllReadyH.cons Qb (fun KK Ad=>?_) AllReadyH.nil
         go_simp
         clear c5 f5
         refine Ai Ad trivial fun hHeld=>?_
         clear Ad KK
         refine BX ?_
         clear hHeld
         go_wp2_with fail
         go_roundg (n - (k+1))
         case rel=>exact ⟨k+1,_,ups++[(x:Int)],r,rfl,by omega,by go_num,by show _=_;have:=hdk.Ab;simp [this],wR,H5,HN⟩
         case measure=>rw [Cg.Ab];omega
     ·have HN:Hid (EJ above l=KV above ⟨nm,ts,ups⟩ lr):=by show _=_;rw [hE.Ab,show n - k=0 by omega];simp [Jl,Ke,Rt]
      clear hE
      obtain ⟨A2,c2,rfl,_⟩:=Ao H.up
      have iE:ups.length≤200:=by have:=hdk.Ab;omega
      have HXX:=Aa HX.Ab
      obtain ⟨T,hT⟩:∃ T:Bg,T=⟨nm,⟨A,n,c,ts⟩,⟨A2,ups.length,c2,ups⟩⟩:=⟨_,rfl⟩
      have HO:Hid (FJ (w.heap.size+1) T wr):=by subst hT;exact ⟨by have:=H.ts;rw [←HNN.Ab] at this;exact this,H.up,by show nm.length≤12;omega,htl.Ab,HXX.Ab,oW,iE⟩
      have Yp:T.Ac=⟨nm,ts,ups⟩:=by subst hT;rfl
      have hTs:T.cs=#[.string ⟨nm.toArray⟩,.slice A n c,.slice A2 ups.length c2]:=by subst hT;rfl
      rw [←Yp] at HN
      have X0:=Aa Yp
      have HTS:=Aa hTs
      have bY:=H.Ab.Y
      rw [←hTs] at bY
      clear hT Yp hTs
      go_wp2_with ((with_reducible refine OP 29 ?_);refine Er rfl Es (.tmp 5) rfl w2.heap.size rfl bY rfl ?_)
      refine (HC T _ HO.rd (by have:=HO.un;omega)).mono ?_;rintro e w6 ⟨rfl,hb6⟩
      have H6:=Aa (H.more hb6)
      have HO6:=Aa (HO.Au hb6)
      have bY6:=bY.Au hb6
      have hEr:=LQ T.Ac above
      clear hb6 H HO bY
      by_cases hE0:Az T.Ac above=0
      ·have Il:Hid (EJ above l=.ok (T.Ac,lr)):=by show _=_;rw [HN.Ab];unfold KV;rw [Ak hE0]
       rw [hE0]
       clear hE0 hEr HN
       go_wp2_with fail
       refine (KP b s lr 0 _ H6.r).mono ?_;rintro e w7 ⟨rfl,rfl⟩
       have bZ:=H6.Ab.Z
       go_wp2_with (first|((with_reducible refine OP 37 ?_);refine Er rfl Es (.tmp 5) rfl w2.heap.size rfl bY6 rfl ?_)|((with_reducible refine OS 4 ?_);refine AA rfl Es (.tmp 4) (.tmp 37) rfl w.heap.size rfl bZ rfl T.cs rfl rfl (OL T) ?_;intro w8 bC hg8))
       refine Ce (Aq rfl Es rfl bC rfl) rfl ?_
       rw [Il.Ab]
       exact ⟨T,rfl,rfl,H6.g.andThen hg8 (fun k e=>by injection e with e;exact .inl (by omega)),H6.r.grown hg8 (by intro e;injection e with e;omega),HO6.kept hg8 (by omega)⟩
      ·have Il:Hid (EJ above l=.error (Az T.Ac above)):=by show _=_;rw [HN.Ab];unfold KV;rw [Ah hE0]
       have hw:GH (Az T.Ac above)=Az T.Ac above:=by unfold GH;rw [Ah hE0]
       have dE:(Az T.Ac above==0)=false:=by simpa using hE0
       have HW:=Aa hw
       clear hE0 hw HN
       go_wp2_with fail
       refine (Ip b s lr (Az T.Ac above) _ H6.r).mono ?_;rintro e w7 ⟨rfl,rfl⟩
       go_wp2_with fail
       refine ⟨rfl,?_⟩
       rw [Il.Ab,HW.Ab]
       exact ⟨rfl,H6.g,_,H6.r⟩
   ·have HN:Hid (EJ above l=KV above ⟨nm,ts,[]⟩ r2):=by show _=_;rw [HE.Ab];unfold Rq;rw [Ah h0];rfl
    have d0:decide ((0:Int)<above)=false:=by simp;omega
    obtain ⟨n,hn⟩:∃ n,n=ts.length:=⟨_,rfl⟩
    have HNN:=Aa hn
    rw [←hn] at H2 oW
    rw [←hn]
    clear hn HE
    go_upto_region 7 with (((with_reducible refine OS 5 ?_);refine Fu Es #[.string ⟨nm.toArray⟩,.slice A n c,.slice none 0 0] (by simp [Value.oneCell']) ?_))
    obtain ⟨lr,hlr⟩:∃ lr,lr=r2:=⟨_,rfl⟩
    rw [←hlr] at H2 HN
    clear hlr
    have H:=H2
    obtain ⟨ups,zZ⟩:∃ ups:List Int,ups=[]:=⟨_,rfl⟩
    have iE:ups.length≤200:=by rw [zZ];simp
    have HXX:Hid (∀ z ∈ ups,AP z):=by rw [zZ];exact fun z hz=>by cases hz
    obtain ⟨A2,hA2⟩:∃ A2:Option Addr,A2=none:=⟨_,rfl⟩
    obtain ⟨c2,hc2⟩:∃ c2:Nat,c2=0:=⟨_,rfl⟩
    have e0:(Value.slice none 0 0)=.slice A2 ups.length c2:=by rw [zZ,hA2,hc2];rfl
    rw [←zZ] at HN
    have H3:Hid (iF w b w2.heap.size s lr nm (.slice A n c) ts (.slice A2 ups.length c2) ups (w2.alloc (.cells #[.string ⟨nm.toArray⟩,.slice A n c,.slice none 0 0] 75))):=by rw [←e0];rw [←zZ] at H;exact H
    clear H H2
    have H:=H3
    generalize w2.alloc (.cells #[.string ⟨nm.toArray⟩,.slice A n c,.slice none 0 0] 75)=wr at *
    obtain ⟨T,hT⟩:∃ T:Bg,T=⟨nm,⟨A,n,c,ts⟩,⟨A2,ups.length,c2,ups⟩⟩:=⟨_,rfl⟩
    have HO:Hid (FJ (w.heap.size+1) T wr):=by subst hT;exact ⟨by have:=H.ts;rw [←HNN.Ab] at this;exact this,H.up,by show nm.length≤12;omega,htl.Ab,HXX.Ab,oW,iE⟩
    have Yp:T.Ac=⟨nm,ts,ups⟩:=by subst hT;rfl
    have hTs:T.cs=#[.string ⟨nm.toArray⟩,.slice A n c,.slice A2 ups.length c2]:=by subst hT;rfl
    rw [←Yp] at HN
    have X0:=Aa Yp
    have HTS:=Aa hTs
    have bY:=H.Ab.Y
    rw [←hTs] at bY
    clear hT Yp hTs
    go_wp2_with ((with_reducible refine OP 29 ?_);refine Er rfl Es (.tmp 5) rfl w2.heap.size rfl bY rfl ?_)
    refine (HC T _ HO.rd (by have:=HO.un;omega)).mono ?_;rintro e w6 ⟨rfl,hb6⟩
    have H6:=Aa (H.more hb6)
    have HO6:=Aa (HO.Au hb6)
    have bY6:=bY.Au hb6
    have hEr:=LQ T.Ac above
    clear hb6 H HO bY
    by_cases hE0:Az T.Ac above=0
    ·have Il:Hid (EJ above l=.ok (T.Ac,lr)):=by show _=_;rw [HN.Ab];unfold KV;rw [Ak hE0]
     rw [hE0]
     clear hE0 hEr HN
     go_wp2_with fail
     refine (KP b s lr 0 _ H6.r).mono ?_;rintro e w7 ⟨rfl,rfl⟩
     have bZ:=H6.Ab.Z
     go_wp2_with (first|((with_reducible refine OP 37 ?_);refine Er rfl Es (.tmp 5) rfl w2.heap.size rfl bY6 rfl ?_)|((with_reducible refine OS 4 ?_);refine AA rfl Es (.tmp 4) (.tmp 37) rfl w.heap.size rfl bZ rfl T.cs rfl rfl (OL T) ?_;intro w8 bC hg8))
     refine Ce (Aq rfl Es rfl bC rfl) rfl ?_
     rw [Il.Ab]
     exact ⟨T,rfl,rfl,H6.g.andThen hg8 (fun k e=>by injection e with e;exact .inl (by omega)),H6.r.grown hg8 (by intro e;injection e with e;omega),HO6.kept hg8 (by omega)⟩
    ·have Il:Hid (EJ above l=.error (Az T.Ac above)):=by show _=_;rw [HN.Ab];unfold KV;rw [Ah hE0]
     have hw:GH (Az T.Ac above)=Az T.Ac above:=by unfold GH;rw [Ah hE0]
     have dE:(Az T.Ac above==0)=false:=by simpa using hE0
     have HW:=Aa hw
     clear hE0 hw HN
     go_wp2_with fail
     refine (Ip b s lr (Az T.Ac above) _ H6.r).mono ?_;rintro e w7 ⟨rfl,rfl⟩
     go_wp2_with fail
     refine ⟨rfl,?_⟩
     rw [Il.Ab,HW.Ab]
     exact ⟨rfl,H6.g,_,H6.r⟩
theorem rP {above k:Int} {l:List UInt8} (h:EJ above l=.error k):k≠0:=by
 unfold EJ at h
 split at h
 ·rename_i h1
  injection h with h
  subst h
  unfold Eg at h1
  split at h1
  ·rename_i h2
   injection h1 with h1
   subst h1
   have:=Fh h2
   omega
  ·have:=(cZ h1).1
   omega
 ·split at h
  ·rename_i h1
   injection h with h
   subst h
   have:=XG h1
   omega
  ·split at h
   ·rename_i h1
    injection h with h
    subst h
    unfold Rq at h1
    split at h1
    ·have:=rV h1
     omega
    ·cases h1
   ·unfold KV at h
    split at h
    ·cases h
    ·rename_i h1
     injection h with h
     subst h
     exact h1
abbrev Bg.nil:Bg:=⟨[],⟨none,0,0,[]⟩,⟨none,0,0,[]⟩⟩
abbrev TC.nil:TC:=⟨[],[],[]⟩
def Iw (up:List Int) (i:Int):Int:=if i<0 then -1 else (up[i.toNat]?).getD (-1)
theorem yZ (t:Bg) (i:Int) (w:World) (ht:t.rd w) (hi:AP i):
 Calls prog 148 #[.agg t.cs,.int .i64 i] w fun e w'=>e=.returned (.int .i64 (Iw t.up.l i))∧Aj w w':=by
 have hW:=(Aj.refl w).alloc (.cells t.cs 75)
 have h1:=ht.mono hW
 obtain ⟨hnm,hts,hup⟩:=ht
 have htl:Hid (t.ts.l.length=t.ts.n):=hts.len
 have iE:Hid (t.up.l.length=t.up.n):=hup.len
 have hn63:=hts.n63
 have hu63:=hup.n63
 obtain ⟨nm,⟨A,n,c,ts⟩,⟨A2,n2,c2,up⟩⟩:=t
 simp only [Bg.cs,Bg.Ac] at *
 have HR:=Aa h1.ts.texts
 have HX:=Aa h1.ts.aL
 have HU:=Aa h1.up.ints
 have HUI:=Aa h1.up.all
 have HW:=Aa hW
 clear hW h1 hts hup
 obtain ⟨i0,i1⟩:=hi
 by_cases h0:i<0
 ·have HR:Hid (Iw up i=-1):=by show _=_;unfold Iw;rw [Ak h0]
  have d0:decide (i<0)=true:=by simp;omega
  go_enter func148,ntmps148
  go_wp2
  go_ret
  rw [HR.Ab]
  exact ⟨rfl,HW.Ab⟩
 ·obtain ⟨k,rfl⟩:∃ k:Nat,i=k:=⟨i.toNat,by omega⟩
  have d0:decide ((k:Int)<0)=false:=by simp
  by_cases hk:k<n2
  ·obtain ⟨ad,z,rfl,hz,hc⟩:=Rd.zT HU hk
   have HR:Hid (Iw up k=z):=by show _=_;unfold Iw;rw [Ah (by omega),Da,hz];rfl
   have d1:decide ((n2:Int)≤(k:Int))=false:=by simp;omega
   have d2:decide (n2≤k)=false:=by simp;omega
   have i2:(0:Int)≤k:=by omega
   have i3:(k:Int)<n2:=by omega
   clear hz
   go_enter func148,ntmps148
   go_wp2
   go_ret
   rw [HR.Ab]
   exact ⟨rfl,HW.Ab⟩
  ·have HR:Hid (Iw up k=-1):=by show _=_;unfold Iw;rw [Ah (by omega),Da,Gt (by have:=iE.Ab;omega)];rfl
   have d1:decide ((n2:Int)≤(k:Int))=true:=by simp;omega
   have d2:decide (n2≤k)=true:=by simp;omega
   go_enter func148,ntmps148
   go_wp2
   go_ret
   rw [HR.Ab]
   exact ⟨rfl,HW.Ab⟩
structure U9 (w:World) (s:List UInt8) (t k:Int) (nm:List UInt8) (v:Value) (ts:List (List UInt8)) (u:Value) (ups:List Int) (wr:World):Prop where
 Au:Aj w wr
 A:Br wr w.heap.size 141 (scs s t k)
 R:Br wr (w.heap.size+1) 141 (scs [] 0 0)
 Z:Br wr (w.heap.size+1+1) 75 #[.string ⟨#[]⟩,.slice none 0 0,.slice none 0 0]
 G:Br wr (w.heap.size+1+1+1) 75 #[.string ⟨nm.toArray⟩,v,u]
 ts:wr.ownsRow (w.heap.size+1+1+1+1) 9 1 v ts.length (ts.map tx)
 up:wr.ownsRow (w.heap.size+1+1+1+1) 3 1 u ups.length (ups.map (Value.int .i64))
section
variable {w w1 w2 : World} {s nm nm' : List UInt8} {t k t' k' : Int} {v v' u u' : Value} {ts ts' : List (List UInt8)} {ups : List Int}
theorem U9.more (h:U9 w s t k nm v ts u ups w1) (hb:Aj w1 w2):U9 w s t k nm v ts u ups w2:=⟨h.Au.trans hb,h.A.Au hb,h.R.Au hb,h.Z.Au hb,h.G.Au hb,FB h.ts hb,FB h.up hb⟩
theorem U9.far (h:U9 w s t k nm v ts u ups w1) {g:Nat} (hg:w1.grownBy w2 (some g)) (h1:w.heap.size+1+1+1<g) (h2:v.ownBlock≠some g) (h3:u.ownBlock≠some g):U9 w s t k nm v ts u ups w2:=
 ⟨h.Au.Lu hg (by omega),h.A.grown hg (by intro e;injection e with e;omega),h.R.grown hg (by intro e;injection e with e;omega),h.Z.grown hg (by intro e;injection e with e;omega),h.G.grown hg (by intro e;injection e with e;omega),UB h.ts hg h2,UB h.up hg h3⟩
theorem U9.app {x:Int} (h:U9 w s t k nm v ts u ups w1) (ho:w2.ownsRow (w.heap.size+1+1+1+1) 3 1 u' (ups.length+1) (ups.map (Value.int .i64)++[.int .i64 x])) (hg:w1.grownBy w2 u.ownBlock):
 U9 w s t k nm v ts u' (ups++[x]) (w2.setCell ⟨w.heap.size+1+1+1,2,none⟩ u')∧Br w2 (w.heap.size+1+1+1) 75 #[.string ⟨nm.toArray⟩,v,u]:=by
 have hu:=h.up
 have b:Aj w w2:=h.Au.grown hg (fun j e=>by have:=Gj hu e;omega)
 have bG:=h.G.grown hg (fun e=>by have:=Gj hu e.symm;omega)
 have g:=grownBy_setCell w2 (w.heap.size+1+1+1) 2 u'
 have hts:w2.ownsRow (w.heap.size+1+1+1+1) 9 1 v ts.length (ts.map tx):=Yf h.ts hg (Ud h.ts hu (fun e=>Z0 e.symm))
 refine ⟨⟨b.Lu g (by omega),?_,?_,?_,?_,hts.kept g (KC hts (by omega)),?_⟩,bG⟩
 ·exact (h.A.grown hg (fun e=>by have:=Gj hu e.symm;omega)).grown g (by intro e;injection e with e;omega)
 ·exact (h.R.grown hg (fun e=>by have:=Gj hu e.symm;omega)).grown g (by intro e;injection e with e;omega)
 ·exact (h.Z.grown hg (fun e=>by have:=Gj hu e.symm;omega)).grown g (by intro e;injection e with e;omega)
 ·have:=bG.Gr 2 u'
  simpa using this
 ·have h2:w2.ownsRow (w.heap.size+1+1+1+1) 3 1 u' (ups++[x]).length ((ups++[x]).map (Value.int .i64)):=by simpa using ho
  exact h2.kept g (KC h2 (by omega))
end
def pO (above:Int) (s l0 nm:List UInt8) (ts:List (List UInt8)) (n:Nat) (ups:List Int) (m:Nat) (t kk:Int):Prop:=
 (kk≠0∧EJ above l0=.error kk)∨(kk=0∧nm.length≤12∧(∀ x ∈ ts,x.length≤16)∧(∀ z ∈ ups,AP z)∧n≤200∧ts.length=n∧True∧∃ tn:Nat,t=tn∧tn≤s.length∧EJ above l0=Rt above nm ts (Ke ups (Rq above m (s.drop tn))))
theorem pO.good {above:Int} {s l0 nm:List UInt8} {ts:List (List UInt8)} {n m:Nat} {ups:List Int} {t kk:Int} (h:pO above s l0 nm ts n ups m t kk) (hk:kk=0):nm.length≤12∧(∀ x ∈ ts,x.length≤16)∧(∀ z ∈ ups,AP z)∧n≤200∧ts.length=n∧True∧∃ tn:Nat,t=tn∧tn≤s.length∧EJ above l0=Rt above nm ts (Ke ups (Rq above m (s.drop tn))):=by
 rcases h with ⟨h,_⟩|⟨_,h⟩
 ·exact absurd hk h
 ·exact h
theorem pO.step {above:Int} {s l0 nm:List UInt8} {ts:List (List UInt8)} {n k tn:Nat} {ups:List Int} {t kk:Int} {x:Nat} (h1:nm.length≤12) (h2:∀ x ∈ ts,x.length≤16) (h3:∀ z ∈ ups,AP z) (h4:n≤200) (h5:ts.length=n) (h0:0<above) (ha:above≤9223372036854775807) (hk:k<n)
 (hE:EJ above l0=Rt above nm ts (Ke ups (Rq above (n - k) (s.drop tn)))) (hS:Li s (Et (above - 1) (s.drop tn)) t kk x):pO above s l0 nm ts n (ups++[(x:Int)]) (if 0<above then n - (k+1) else 0) t kk:=by
 unfold Rq at hE
 rw [Ak h0,show n - k=(n - (k+1))+1 by omega] at hE
 rcases hS with ⟨x1,x2⟩|⟨x1,t2,x3,x4,x2⟩
 ·rw [WR x2] at hE
  exact .inl ⟨x1,hE⟩
 ·rw [Uf x2] at hE
  refine .inr ⟨x1,h1,h2,?_,h4,h5,trivial,t2,x3,x4,?_⟩
  ·intro z hz
   rcases DT.1 hz with hz|hz
   ·exact h3 z hz
   ·have:=Ex x2
    simp at hz
    subst hz
    unfold AP
    omega
  ·rw [Ak h0,hE]
   unfold Rq
   rw [Ak h0]
structure DC where
 nm:List UInt8
 AB:List TC
deriving DecidableEq
def BV:List TC→Int
 |[]=>0
 |t::_=>t.ts.length
def DN:List (List UInt8)→List TC→Int
 |_,[]=>0
 |seen,t::r=>if Az t (BV r)≠0 then Az t (BV r) else if t.nm ∈ seen then 11 else DN (seen++[t.nm]) r
def Ba (d:DC):Int:=if Cy d.nm then (if d.AB.length<1∨4<d.AB.length then 5 else DN [] d.AB) else 2
def Ey (d:DC):List UInt8:=Cc d.nm++CK d.AB.length++d.AB.reverse.flatMap CR
def Gn:Nat→List TC→List UInt8→PR (List TC)
 |0,acc,l=>.ok (acc,l)
 |n+1,acc,l=>
  match EJ (BV acc) l with
  |.error k=>.error k
  |.ok (t,r)=>Gn n (t::acc) r
def Rx (d:DC) (r:List UInt8):PR DC:=if Ba d=0 then .ok (d,r) else .error (Ba d)
def Gi (l:List UInt8):PR DC:=
 match Eg 12 l with
 |.error k=>.error k
 |.ok (nm,r)=>
  match Et 4 r with
  |.error k=>.error k
  |.ok (n,r)=>
   match Gn n [] r with
   |.error k=>.error k
   |.ok (AB,r)=>Rx ⟨nm,AB⟩ r
def Ic:List TC→Prop
 |[]=>True
 |t::r=>Az t (BV r)=0∧Ic r
def ZP:List TC→List TC→Prop
 |_,[]=>True
 |acc,t::rs=>Az t (BV acc)=0∧ZP (t::acc) rs
theorem Sb {ms acc:List TC} (h:Ic (ms++acc)):Ic acc:=by
 induction ms with
 |nil=>exact h
 |cons t ms ih=>exact ih h.2
theorem sW {rs:List TC}:∀ {acc:List TC},Ic (rs.reverse++acc)→ZP acc rs:=by
 induction rs with
 |nil=>intro acc h;trivial
 |cons t rs ih=>
  intro acc h
  rw [List.reverse_cons,Dk] at h
  exact ⟨(Sb h).1,ih h⟩
theorem FR {AB:List TC}:∀ {seen:List (List UInt8)},DN seen AB=0→Ic AB:=by
 induction AB with
 |nil=>intro seen h;trivial
 |cons t r ih=>
  intro seen h
  rw [DN] at h
  split at h
  ·rename_i h1;exact absurd h h1
  ·rename_i h1
   split at h
   ·cases h
   ·exact ⟨by omega,ih h⟩
theorem Ej {d:DC} (h:Ba d=0):Cy d.nm=true∧1≤d.AB.length∧d.AB.length≤4∧DN [] d.AB=0:=by
 unfold Ba at h
 split at h
 ·rename_i h1
  split at h
  ·cases h
  ·rename_i h2
   exact ⟨h1,by omega,by omega,h⟩
 ·cases h
theorem nH {AB:List TC} (h:Ic AB):BV AB≤9223372036854775807:=by
 cases AB with
 |nil=>show (0:Int)≤_;omega
 |cons t r=>
  have:=(Du h.1).2.2.1
  show ((t.ts.length:Nat):Int)≤_
  omega
theorem rY {rs:List TC}:∀ {acc:List TC} (r:List UInt8),ZP acc rs→Ic acc→Gn rs.length acc (rs.flatMap CR++r)=.ok (rs.reverse++acc,r):=by
 induction rs with
 |nil=>intro acc r h ha;rfl
 |cons t rs ih=>
  intro acc r h ha
  rw [CZ,Gn,CY,Dk,rO (nH ha) h.1]
  simp only
  rw [ih r h.2 ⟨h.1,ha⟩]
  simp
theorem yQ {d:DC} (h:Ba d=0) (r:List UInt8):Gi (Ey d++r)=.ok (d,r):=by
 obtain ⟨h1,h2,h3,h4⟩:=Ej h
 have hl:=DW h1
 have e:Ey d++r=Cc d.nm++(CK d.AB.length++(d.AB.reverse.flatMap CR++r)):=by unfold Ey;simp only [Dk]
 unfold Gi
 rw [e,Vx (by omega) (by omega)]
 simp only
 rw [Oj (by omega) (by omega)]
 simp only
 have hd:ZP [] d.AB.reverse:=sW (by simpa using FR h4)
 have:=rY r hd trivial
 rw [List.length_reverse,List.reverse_reverse,EZ] at this
 rw [this]
 simp only
 unfold Rx
 rw [Ak h]
theorem kC {n:Nat}:∀ {acc AB:List TC} {l r:List UInt8},Gn n acc l=.ok (AB,r)→∃ ms:List TC,AB=ms++acc∧ms.length=n∧l=ms.reverse.flatMap CR++r:=by
 induction n with
 |zero=>
  intro acc AB l r h
  injection h with h
  injection h with h1 h2
  subst h1
  subst h2
  exact ⟨[],rfl,rfl,rfl⟩
 |succ n ih=>
  intro acc AB l r h
  rw [Gn] at h
  split at h
  ·cases h
  ·rename_i t r1 h1
   obtain ⟨ms,e1,e2,e3⟩:=ih h
   refine ⟨ms++[t],?_,by simp [e2],?_⟩
   ·rw [e1]
    simp
   ·rw [(jW h1).2,e3]
    simp
theorem sD {l r:List UInt8} {d:DC} (h:Gi l=.ok (d,r)):Ba d=0∧l=Ey d++r:=by
 unfold Gi at h
 split at h
 ·cases h
 ·rename_i nm r1 h1
  split at h
  ·cases h
  ·rename_i n r2 h2
   split at h
   ·cases h
   ·rename_i AB r3 h3
    unfold Rx at h
    split at h
    ·rename_i h4
     injection h with h
     injection h with h5 h6
     subst h5
     subst h6
     refine ⟨h4,?_⟩
     obtain ⟨ms,e1,e2,e3⟩:=kC h3
     rw [EZ] at e1
     subst e1
     unfold Ey
     rw [IE h1,Ef h2,e3,e2]
     simp only [Dk]
    ·cases h
theorem Xr (AB:List TC):∀ seen,DN seen AB=0∨DN seen AB=2∨DN seen AB=4∨DN seen AB=5∨DN seen AB=11∨DN seen AB=14:=by
 induction AB with
 |nil=>intro seen;exact .inl rfl
 |cons t r ih=>
  intro seen
  rw [DN]
  have:=LQ t (BV r)
  split
  ·omega
  ·split
   ·omega
   ·exact ih _
theorem Zz (d:DC):Ba d=0∨Ba d=2∨Ba d=4∨Ba d=5∨Ba d=11∨Ba d=14:=by
 unfold Ba
 have:=Xr d.AB []
 split
 ·split
  ·omega
  ·exact this
 ·omega
abbrev Dm.Ac (d:Dm):DC:=⟨d.nm,d.tr.l.map Bg.Ac⟩
theorem mI (d:Dm) (k:Nat) (w:World) (hd:d.rd w) (hk:k<d.tr.n) (hn:d.tr.n≤1000000):
 Calls prog 174 #[.agg d.cs,.int .i64 k] w fun e w'=>e=.returned (.int .i64 (BV ((d.tr.l.map Bg.Ac).drop (k+1))))∧Aj w w':=by
 have hW:=(Aj.refl w).alloc (.cells d.cs 73)
 have h1:=hd.mono hW
 have hlen:Hid (d.tr.l.length=d.tr.n):=hd.tr.len
 obtain ⟨nm,⟨A,n,c,AB⟩⟩:=d
 simp only [Dm.cs] at *
 have HD:=Aa h1.tr
 have HW:=Aa hW
 have wk:IntKind.i64.wrap ((k:Int)+1)=(k:Int)+1:=Kj _ (by omega)
 clear hW h1 hd
 by_cases hlt:k+1<n
 ·obtain ⟨b,o,t,hA,hb,ht,htr,hrg⟩:=HD.JN (k:=k+1) hlt
  simp only at hA
  subst hA
  have hc:=hrg 1 _ rfl
  have HR:Hid (BV ((AB.map Bg.Ac).drop (k+1))=(t.ts.n:Int)):=by
   show _=_
   obtain ⟨hk',he⟩:=Ca.1 ht
   rw [DZ (by simpa using hk')]
   simp only [List.getElem_map,BV]
   have:=htr.ts.len
   simp only at hk' he
   rw [he]
   show ((t.ts.l.length:Nat):Int)=_
   rw [this]
  have i1:((k:Int)+1).toNat=k+1:=by omega
  have i2:(0:Int)≤(k:Int)+1:=by omega
  have i3:(k:Int)+1<n:=by omega
  have d1:decide (((k:Int)+1<(n:Int)))=true:=by simp;omega
  clear ht hrg
  go_enter func174,ntmps174
  go_wp2
  go_ret
  rw [HR.Ab]
  exact ⟨rfl,HW.Ab⟩
 ·have HR:Hid (BV ((AB.map Bg.Ac).drop (k+1))=0):=by
   show _=_
   rw [EY (by have:=hlen.Ab;simp;omega)]
   rfl
  have d1:decide (((k:Int)+1<(n:Int)))=false:=by simp;omega
  have hnn:(n:Int)≤(k:Int)+1:=by omega
  go_enter func174,ntmps174
  go_wp2
  go_ret
  rw [HR.Ab]
  exact ⟨rfl,HW.Ab⟩
theorem bP (d:Dm) (k:Nat) (w:World) (hd:d.rd w) (hk:k<d.tr.n) (hn:d.tr.n≤1000000):
 Calls prog 84 #[.agg d.cs,.int .i64 k] w fun e w'=>e=.returned (.int .i64 (BV ((d.tr.l.map Bg.Ac).drop (k+1))))∧Aj w w':=by
 have hW:=(Aj.refl w).alloc (.cells d.cs 73)
 have h1:=hd.mono hW
 have hlen:Hid (d.tr.l.length=d.tr.n):=hd.tr.len
 obtain ⟨nm,⟨A,n,c,AB⟩⟩:=d
 simp only [Dm.cs] at *
 have HD:=Aa h1.tr
 have HW:=Aa hW
 have wk:IntKind.i64.wrap ((k:Int)+1)=(k:Int)+1:=Kj _ (by omega)
 clear hW h1 hd
 by_cases hlt:k+1<n
 ·obtain ⟨b,o,t,hA,hb,ht,htr,hrg⟩:=HD.JN (k:=k+1) hlt
  simp only at hA
  subst hA
  have hc:=hrg 1 _ rfl
  have HR:Hid (BV ((AB.map Bg.Ac).drop (k+1))=(t.ts.n:Int)):=by
   show _=_
   obtain ⟨hk',he⟩:=Ca.1 ht
   rw [DZ (by simpa using hk')]
   simp only [List.getElem_map,BV]
   have:=htr.ts.len
   simp only at hk' he
   rw [he]
   show ((t.ts.l.length:Nat):Int)=_
   rw [this]
  have i1:((k:Int)+1).toNat=k+1:=by omega
  have i2:(0:Int)≤(k:Int)+1:=by omega
  have i3:(k:Int)+1<n:=by omega
  have d1:decide (((n:Int)≤(k:Int)+1))=false:=by simp;omega
  clear ht hrg
  go_enter func84,ntmps84
  go_wp2
  go_ret
  rw [HR.Ab]
  exact ⟨rfl,HW.Ab⟩
 ·have HR:Hid (BV ((AB.map Bg.Ac).drop (k+1))=0):=by
   show _=_
   rw [EY (by have:=hlen.Ab;simp;omega)]
   rfl
  have d1:decide (((n:Int)≤(k:Int)+1))=true:=by simp;omega
  have hnn:(n:Int)≤(k:Int)+1:=by omega
  go_enter func84,ntmps84
  go_wp2
  go_ret
  rw [HR.Ab]
  exact ⟨rfl,HW.Ab⟩
def Ia (xs:List (List UInt8)):List Lit:=xs.map Lit.string
theorem Yi (xs:List (List UInt8)):∀ x ∈ Ia xs,WideAt.IsKeyLit x:=by
 intro x hx
 obtain ⟨y,_,rfl⟩:=GZ.1 hx
 trivial
theorem LF (xs:List (List UInt8)) (x:List UInt8):(Maps.setOf Ko (Ia xs)).atKey (.string x) (.lit (.int .i64 0))=.lit (.int .i64 (if x ∈ xs then 1 else 0)):=by
 have key:∀ ys:List (List UInt8),(Maps.setOf Ko (Ia ys.reverse)).atKey (.string x) (.lit (.int .i64 0))=.lit (.int .i64 (if x ∈ ys then 1 else 0)):=by
  intro ys
  induction ys with
  |nil=>rfl
  |cons y ys ih=>
   have e:Ia (y::ys).reverse=Ia ys.reverse++[.string y]:=by unfold Ia;simp
   rw [e,Maps.setOf_snoc]
   by_cases h:x=y
   ·subst h
    rw [Maps.atKey_put_same (Maps.tidy_setOf _ _ (Yi _)).isMap (show WideAt.IsKeyLit (.string x) from trivial)]
    simp
   ·rw [Maps.atKey_put_other (by intro e;injection e with e;exact h e),ih]
    simp [h]
 have:=key xs.reverse
 simpa using this
theorem OQ (xs:List (List UInt8)) (x:List UInt8) (v c:Int) (h:((Maps.setOf Ko (Ia xs)).put (.string x) (.lit (.int .i64 v))).atKey (.string x) (.lit (.int .i64 0))=.lit (.int .i64 c)):c=v:=by
 rw [Maps.atKey_put_same (Maps.tidy_setOf _ _ (Yi _)).isMap (show WideAt.IsKeyLit (.string x) from trivial)] at h
 injection h with h
 injection h with _ h
 exact h.symm
theorem RQ {AB:List TC} {k:Nat} {t:TC} {seen:List (List UInt8)} (h:AB[k]?=some t):DN seen (AB.drop k)=if Az t (BV (AB.drop (k+1)))≠0 then Az t (BV (AB.drop (k+1))) else if t.nm ∈ seen then 11 else DN (seen++[t.nm]) (AB.drop (k+1)):=by
 obtain ⟨hk,rfl⟩:=Ca.1 h
 rw [DZ hk,DN]
theorem JI (w:World):(zeroValue 3).run prog w=.ok (.int .i64 0) w:=by kernel_rfl
theorem TW (d:Dm) (w:World) (hd:d.rd w) (hn:d.tr.n≤1000000) (hu:∀ t ∈ d.tr.l,t.up.n≤100000):
 Calls prog 134 #[.agg d.cs] w fun e w'=>e=.returned (.int .i64 (Ba d.Ac))∧Aj w w':=by
 have HAB:=Aa (fun k (hk:k<d.tr.n) w' (hb:Aj w w')=>mI d k w' (hd.mono hb) hk hn)
 have hW:=(Aj.refl w).alloc (.cells d.cs 73)
 have hlen:Hid (d.tr.l.length=d.tr.n):=hd.tr.len
 have hnm:=hd.nm
 have HD:=Aa hd.tr
 have HU:=Aa hu
 have hmm:=@run_makeMap prog
 obtain ⟨nm,⟨A,n,c,AB⟩⟩:=d
 simp only [Dm.cs,Dm.Ac] at *
 have HW:=Aa hW
 clear hW hd hu
 cases hN:Cy nm with
 |false=>
  have HE:Hid (Ba ⟨nm,AB.map Bg.Ac⟩=2):=by show _=_;unfold Ba;simp [hN]
  go_enter func134,ntmps134
  go_wp2_with fail
  refine (JR nm _ (by omega)).mono ?_;rintro e w1 ⟨rfl,rfl⟩
  rw [hN,show Mx false=2 from rfl]
  go_wp2
  go_ret
  rw [HE.Ab]
  exact ⟨rfl,HW.Ab⟩
 |true=>
  by_cases hl:1≤n∧n≤4
  ·obtain ⟨hl1,hl2⟩:=hl
   have d1:decide ((n:Int)<1)=false:=by simp;omega
   have d2:decide ((4:Int)<n)=false:=by simp;omega
   have Kw:Hid (Ba ⟨nm,AB.map Bg.Ac⟩=DN ((AB.map Bg.nm).take 0) ((AB.map Bg.Ac).drop 0)):=by
    show _=_
    unfold Ba
    simp only [hN,ER,Cq]
    rw [Ah (by have:=hlen.Ab;omega)]
    rfl
   have q0:=Br.new w 73 #[.string ⟨nm.toArray⟩,.slice A n c]
   go_enter func134,ntmps134
   go_wp2_with fail
   refine (JR nm _ (by omega)).mono ?_;rintro e w1 ⟨rfl,rfl⟩
   rw [hN,show Mx true=0 from rfl]
   go_wp2_with fail
   have M0:Hid (((w.alloc (.cells #[.string ⟨nm.toArray⟩,.slice A n c] 73)).alloc (.map #[] 0)).ownsMap prog 9 (plainElem (H:=Unit) prog 3) (w.heap.size+1) 0 (Maps.setOf Ko (Ia ((AB.map Bg.nm).take 0)))):=by
    have:=World.ownsMap_made (H:=Unit) (w.alloc (.cells #[.string ⟨nm.toArray⟩,.slice A n c] 73)) prog 9 (plainElem prog 3)
    rw [Kl] at this
    exact this
   have B0:=Aa (HW.alloc (.map #[] 0))
   have Q0:=Aa (q0.alloc (.map #[] 0))
   clear q0 d1 d2 HW
   go_loopg [28] n (fun gg i wr=>∃ k:Nat,gg=n - k∧k≤n∧i=.int .i64 k∧Hid (wr.ownsMap prog 9 (plainElem (H:=Unit) prog 3) (w.heap.size+1) k (Maps.setOf Ko (Ia ((AB.map Bg.nm).take k))))∧Hid (Aj w wr)∧Hid (Br wr w.heap.size 73 #[.string ⟨nm.toArray⟩,.slice A n c])∧Hid (Ba ⟨nm,AB.map Bg.Ac⟩=DN ((AB.map Bg.nm).take k) ((AB.map Bg.Ac).drop k)))
   case atStart=>exact ⟨0,rfl,by omega,rfl,M0,B0,Q0,Kw⟩
   case round=>
    clear M0 B0 Q0 Kw
    obtain ⟨k,BG,hk,rfl,hM,hB,hQ,hE⟩:=hrel
    have Cg:=Aa BG
    clear BG
    by_cases hlt:k<n
    ·obtain ⟨bb,oo,t,hA,hbb,ht,htr,hrg⟩:=(HD.mono hB.Ab).JN (k:=k) hlt
     simp only at hA
     subst hA
     have HT:=Aa ht
     have HRG:=Aa hrg
     have wH:=Aa htr
     have hup:=HU t (CE ht)
     have hnm2:=htr.nm
     have qE:Hid ((⟨t.nm.toArray⟩:ByteArray).size≤maxLen):=by show _≤_;unfold maxLen;simp [ByteArray.size];omega
     have htc:(AB.map Bg.Ac)[k]?=some t.Ac:=by rw [DD,ht];(try rfl)
     have htn:(AB.map Bg.nm)[k]?=some t.nm:=by rw [DD,ht];(try rfl)
     have HS:=Aa (RQ (seen:=(AB.map Bg.nm).take k) htc)
     have Us:Hid ((AB.map Bg.nm).take (k+1)=(AB.map Bg.nm).take k++[t.nm]):=by
      show _=_
      obtain ⟨hk',he⟩:=Ca.1 htn
      rw [Oa hk',he]
     have hab:AP (BV ((AB.map Bg.Ac).drop (k+1))):=by
      unfold AP
      cases hdr:(AB.map Bg.Ac).drop (k+1) with
      |nil=>simp [BV]
      |cons u r=>
       have hm:u ∈ (AB.map Bg.Ac):=QX (i:=k+1) (by rw [hdr];exact Dr ..)
       obtain ⟨v,hv,rfl⟩:=GZ.1 hm
       have h1:=(HD.all v hv)
       have h2:v.ts.l.length=v.ts.n:=Row.rd.len (Bg.rd.ts h1)
       have h3:=(Bg.rd.ts h1).n63
       simp only [BV]
       omega
     have z2:=Aa (Br.new wr 75 t.cs)
     have Q2:=Aa (hQ.alloc (.cells t.cs 75))
     have B2:=Aa (hB.alloc (.cells t.cs 75))
     have M2:=Aa (hM.alloc (.cells t.cs 75))
     have W9:=Aa (htr.mono ((Aj.refl wr).alloc (.cells t.cs 75)))
     have hmz:=hM.lt
     have hqz:=hQ.lt
     clear ht hrg htr htc htn hM hB hQ hbb
     go_wp2_with (first|((with_reducible refine OP 32 ?_);refine Ae rfl Es (.tmp 31) rfl bb (oo+k * 3) rfl t.cs rfl HRG.Ab ?_)|((with_reducible refine OS 6 ?_);refine Fu Es t.cs (OL t) ?_))
     generalize J9:BV ((AB.map Bg.Ac).drop (k+1))=ab at *
     have HAB1:Hid (∀ w',Aj w w'→Calls prog 174 #[.agg #[.string ⟨nm.toArray⟩,.slice (some ⟨bb,oo,none⟩) n c],.int .i64 k] w' fun e w''=>e=.returned (.int .i64 ab)∧Aj w' w''):=by
      intro w' hb
      have:=HAB k hlt w' hb
      rw [J9] at this
      exact this
     have HABE:=Aa J9
     clear J9
     refine Al ?_
     repeat (first
      |((with_reducible show wpQuiet _ _ _ _ (⟨some 33,_,_,_,_,_⟩::_) _);refine Af rfl Es (.tmp 6) rfl wr.heap.size 0 rfl t.cs rfl z2.lt z2.range ?_;simp only [Act.put,LP])
      |((with_reducible show wpQuiet _ _ _ _ (⟨some 34,_,_,_,_,_⟩::_) _);refine Af rfl Dl (.tmp 1) rfl w.heap.size 0 rfl #[.string ⟨nm.toArray⟩,.slice (some ⟨bb,oo,none⟩) n c] rfl Q2.lt Q2.range ?_;simp only [Act.put,LP])
      |go_big_quiet_step ((first|(go_at_call 174;rename_i u;exact Be (HAB1 _ (B2.trans u.Au)))|(go_at_call 173;rename_i u;exact Be (TD t ab _ (W9.mono u.Au) hup hab)))))
     refine CX ?_
     rintro _ ⟨⟨w4,hw4⟩,rfl⟩
     have Z4:=Aa (z2.Au hw4)
     have Q4:=Aa (Q2.Au hw4)
     have B4:=Aa (B2.trans hw4)
     have M4:=Aa (M2.kept (Di hw4 none) (by simp))
     have s4:=Z4.cell 0
     simp only [Ra,PM] at s4
     try dsimp only
     clear hw4 z2 Q2 B2 M2 W9
     by_cases hE0:Az t.Ac ab=0
     ·rw [hE0]
      by_cases hmem:t.nm ∈ (AB.map Bg.nm).take k
      ·have HN:Hid (Ba ⟨nm,AB.map Bg.Ac⟩=11):=by show _=_;rw [hE.Ab,HS.Ab,Ah (by omega),Ak hmem]
       have HA:Hid (∀ c:Int,(Maps.setOf Ko (Ia ((AB.map Bg.nm).take k))).atKey (.string t.nm) (.lit (.int .i64 0))=.lit (.int .i64 c)→c=1):=by
        intro c h
        rw [LF,Ak hmem] at h
        injection h with h
        injection h with _ h
        exact h.symm
       clear hE HS hE0 hmem
       go_wp2_with (first|((with_reducible refine OP 44 ?_);refine Tv _ rfl (.tmp 41) (.tmp 43) 222 rfl 9 3 .i64 (Nu underlying9) underlying222 underlying3 (JI _) (w.heap.size+1) k _ rfl M4 _ (.string t.nm) rfl (Ny underlying9 (s:=⟨t.nm.toArray⟩) qE.Ab) ?_;intro c44 eH zX;obtain rfl:=HA c44 eH;clear eH zX)|((with_reducible show wpList _ _ _ (⟨_,.mapUpdate _ _ _ _,_,_,_,_⟩::_) _ _);refine UT _ rfl (.tmp 41) (.tmp 43) _ 222 rfl 9 3 (Nu underlying9) underlying222 _ (w.heap.size+1) k _ rfl M4 (by unfold maxLen;omega) _ _ (.string t.nm) rfl rfl (Ny underlying9 (s:=⟨t.nm.toArray⟩) qE.Ab) (.lit (.int .i64 2)) [] (UG underlying3 (qI (by unfold AP;omega))) ?_;intro w5 hown5 hg5;have M5:=Aa hown5;have z5:=Aa (Z4.grown hg5 (by intro e;injection e with e;omega));have q5:=Aa (Q4.grown hg5 (by intro e;injection e with e;omega));have B5:=Aa (B4.Lu hg5 (by omega));have s5:=z5.cell 0;(simp only [Ra,PM] at s5);clear hown5 hg5)|((with_reducible refine OP 49 ?_);refine Tv _ rfl (.tmp 46) (.tmp 48) 222 rfl 9 3 .i64 (Nu underlying9) underlying222 underlying3 (JI _) (w.heap.size+1) (k+1) _ rfl M5 _ (.string t.nm) rfl (Ny underlying9 (s:=⟨t.nm.toArray⟩) qE.Ab) ?_;intro c49 eG zW;obtain rfl:=(OQ ((AB.map Bg.nm).take k) t.nm 2 c49 eG);clear eG zW))
       go_ret
       rw [HN.Ab]
       exact ⟨rfl,B5.Ab⟩
      ·have HN:Hid (Ba ⟨nm,AB.map Bg.Ac⟩=DN ((AB.map Bg.nm).take (k+1)) ((AB.map Bg.Ac).drop (k+1))):=by show _=_;rw [hE.Ab,HS.Ab,Ah (by omega),Ah hmem,Us.Ab]
       have HA:Hid (∀ c:Int,(Maps.setOf Ko (Ia ((AB.map Bg.nm).take k))).atKey (.string t.nm) (.lit (.int .i64 0))=.lit (.int .i64 c)→c=0):=by
        intro c h
        rw [LF,Ah hmem] at h
        injection h with h
        injection h with _ h
        exact h.symm
       clear hE HS hE0 hmem
       go_wp2_with (first|((with_reducible refine OP 44 ?_);refine Tv _ rfl (.tmp 41) (.tmp 43) 222 rfl 9 3 .i64 (Nu underlying9) underlying222 underlying3 (JI _) (w.heap.size+1) k _ rfl M4 _ (.string t.nm) rfl (Ny underlying9 (s:=⟨t.nm.toArray⟩) qE.Ab) ?_;intro c44 eH zX;obtain rfl:=HA c44 eH;clear eH zX)|((with_reducible show wpList _ _ _ (⟨_,.mapUpdate _ _ _ _,_,_,_,_⟩::_) _ _);refine UT _ rfl (.tmp 41) (.tmp 43) _ 222 rfl 9 3 (Nu underlying9) underlying222 _ (w.heap.size+1) k _ rfl M4 (by unfold maxLen;omega) _ _ (.string t.nm) rfl rfl (Ny underlying9 (s:=⟨t.nm.toArray⟩) qE.Ab) (.lit (.int .i64 1)) [] (UG underlying3 (qI (by unfold AP;omega))) ?_;intro w5 hown5 hg5;have M5:=Aa hown5;have z5:=Aa (Z4.grown hg5 (by intro e;injection e with e;omega));have q5:=Aa (Q4.grown hg5 (by intro e;injection e with e;omega));have B5:=Aa (B4.Lu hg5 (by omega));have s5:=z5.cell 0;(simp only [Ra,PM] at s5);clear hown5 hg5)|((with_reducible refine OP 49 ?_);refine Tv _ rfl (.tmp 46) (.tmp 48) 222 rfl 9 3 .i64 (Nu underlying9) underlying222 underlying3 (JI _) (w.heap.size+1) (k+1) _ rfl M5 _ (.string t.nm) rfl (Ny underlying9 (s:=⟨t.nm.toArray⟩) qE.Ab) ?_;intro c49 eG zW;obtain rfl:=(OQ ((AB.map Bg.nm).take k) t.nm 1 c49 eG);clear eG zW))
       go_roundg (n - (k+1))
       case rel=>exact ⟨k+1,rfl,by omega,by go_num,by show World.ownsMap _ _ _ _ _ _ _;rw [Us.Ab];unfold Ia;rw [BR];exact (by have:=M5.Ab;rw [←Maps.setOf_snoc] at this;exact this),B5,q5,HN⟩
       case measure=>rw [Cg.Ab];omega
     ·have HN:Hid (Ba ⟨nm,AB.map Bg.Ac⟩=Az t.Ac ab):=by show _=_;rw [hE.Ab,HS.Ab,Ak hE0]
      have dE:(Az t.Ac ab !=0)=true:=by simpa using hE0
      have dE2:(Az t.Ac ab==0)=false:=by simpa using hE0
      clear hE HS hE0
      go_wp2
      go_ret
      rw [HN.Ab]
      exact ⟨rfl,B4.Ab⟩
    ·have HN:Hid (Ba ⟨nm,AB.map Bg.Ac⟩=0):=by show _=_;rw [hE.Ab,EY (by have:=hlen.Ab;simp;omega)];(try rfl)
     clear hE
     go_wp2
     go_ret
     rw [HN.Ab]
     exact ⟨rfl,hB.Ab⟩
  ·have HE:Hid (Ba ⟨nm,AB.map Bg.Ac⟩=5):=by
    show _=_
    unfold Ba
    simp only [hN,ER,Cq]
    rw [Ak (by have:=hlen.Ab;omega)]
   rcases (show n<1∨(1≤n∧4<n) by omega) with h|⟨h,h'⟩
   all_goals
    first|(have d1:decide ((n:Int)<1)=true:=by simp;omega)|(have d1:decide ((n:Int)<1)=false:=by simp;omega)
    first|(have d2:decide ((4:Int)<n)=true:=by simp;omega)|(have d2:decide ((4:Int)<n)=false:=by simp;omega)
    clear hl
    go_enter func134,ntmps134
    go_wp2_with fail
    refine (JR nm _ (by omega)).mono ?_;rintro e w1 ⟨rfl,rfl⟩
    rw [hN,show Mx true=0 from rfl]
    go_wp2
    go_ret
    rw [HE.Ab]
    exact ⟨rfl,HW.Ab⟩
def Bg.D (T:Bg) (g:Nat):Prop:=T.ts.v.ownBlock=some g∨T.up.v.ownBlock=some g
abbrev Pt (T:Bg):EE:=⟨T.D,FJ 0 T⟩
theorem KE {base:Nat} {T:Bg} {w:World} (h:FJ base T w):(Pt T).holds w:=by
 have h1:=Gf h.ts
 have h2:=Gf h.up
 refine ⟨fun g hg=>hg.elim (h1.1 g) (h2.1 g),fun w' hs hk=>⟨h1.2 w' hs fun g hg=>hk g (.inl hg),h2.2 w' hs fun g hg=>hk g (.inr hg),h.nm,h.tl,h.ul,h.tn,h.un⟩⟩
theorem M8 {base:Nat} {T:Bg} {w:World} (h:FJ base T w):∀ g,T.D g→base≤g:=fun g hg=>hg.elim (Gj h.ts) (Gj h.up)
def pQ (l:List Bg) (w:World):Prop:=∀ T ∈ l,FJ 0 T w
abbrev TI (l:List Bg):EE:=⟨fun g=>∃ T,T ∈ l∧T.D g,pQ l⟩
theorem Wh (w:World):(TI []).holds w:=⟨fun g ⟨T,hT,_⟩=>(by cases hT),fun w' _ _ T hT=>by cases hT⟩
theorem Ul {T:Bg} {l:List Bg} {w:World} (h1:(Pt T).holds w) (h2:(TI l).holds w):(TI (T::l)).holds w:=by
 refine ⟨fun g ⟨U,hU,hg⟩=>?_,fun w' hs hk U hU=>?_⟩
 ·rcases En.1 hU with rfl|hU
  ·exact h1.1 g hg
  ·exact h2.1 g ⟨U,hU,hg⟩
 ·rcases En.1 hU with rfl|hU
  ·exact h1.2 w' hs fun g hg=>hk g ⟨U,Dr ..,hg⟩
  ·exact h2.2 w' hs (fun g ⟨V,hV,hg⟩=>hk g ⟨V,EO _ hV,hg⟩) U hU
theorem aQ {T:Bg} {l:List Bg}:∀ g,(TI (T::l)).D g→(TI l).D g∨(Pt T).D g:=fun g ⟨U,hU,hg⟩=>by
 rcases En.1 hU with rfl|hU
 ·exact .inr hg
 ·exact .inl ⟨U,hU,hg⟩
structure Ui (d:Dm) (w:World):Prop where
 nm:d.nm.length≤12
 tr:w.ownsRow 0 75 3 (.slice d.tr.A d.tr.n d.tr.c) d.tr.n (d.tr.l.flatMap Ar.cells)
 ts:pQ d.tr.l w
 n4:d.tr.n≤4
def Dm.D (d:Dm) (g:Nat):Prop:=d.tr.v.ownBlock=some g∨∃ T,T ∈ d.tr.l∧T.D g
abbrev Xj (d:Dm):EE:=⟨d.D,Ui d⟩
theorem Ui.rd {d:Dm} {w:World} (h:Ui d w):d.rd w:=
 ⟨by have:=h.nm;omega,Rd.Bf h.tr,fun T hT=>(h.ts T hT).rd,by have:=h.n4;omega⟩
theorem Ui.up {d:Dm} {w:World} (h:Ui d w):∀ t ∈ d.tr.l,t.up.n≤200:=fun t ht=>(h.ts t ht).un
theorem Ui.tn {d:Dm} {w:World} (h:Ui d w):∀ t ∈ d.tr.l,t.ts.n≤200:=fun t ht=>(h.ts t ht).tn
theorem eD {nm:List UInt8} {A:Option Addr} {n c:Nat} {l:List Bg} {w:World} (hn:nm.length≤12) (h4:n≤4) (h1:(Cb 75 3 (.slice A n c) n (l.flatMap Ar.cells)).holds w) (h2:(TI l).holds w):(Xj ⟨nm,⟨A,n,c,l⟩⟩).holds w:=
 ⟨fun g hg=>hg.elim (h1.1 g) (h2.1 g),fun w' hs hk=>⟨hn,h1.2 w' hs fun g hg=>hk g (.inl hg),h2.2 w' hs fun g hg=>hk g (.inr hg),h4⟩⟩
abbrev Dm.nil:Dm:=⟨[],⟨none,0,0,[]⟩⟩
abbrev DC.nil:DC:=⟨[],[]⟩
def Uq (w w':World) (r:EE):Prop:=r.holds w'∧∀ g,r.D g→w.heap.size≤g
def Ad3 (b:Nat) (s:List UInt8) (o:PR DC) (w:World) (e:Ending) (w':World):Prop:=
 match o with
 |.error k=>Tj b s k w e w'
 |.ok (d,l)=>∃ D:Dm,e=.returned (.agg D.cs)∧D.Ac=d∧w.grownBy w' (some b)∧Gb w' b s l∧Uq w w' (Xj D)
theorem Dc (w:World) (t:TypeId) (cs:Array Value) (size:Nat) (hs:cs.size=size):(w.alloc (.cells cs t)).ownsRow w.heap.size t size (.slice (some ⟨w.heap.size,0,none⟩) 1 1) 1 cs.toList:=
 ⟨by simp [hs],.inr ⟨w.heap.size,1,cs,rfl,BZ _,Qn w _,BZ _,by unfold maxLen;omega,by omega,by rw [DY (by simp [hs])]⟩⟩
theorem xH (l:List Bg):∀ u ∈ (l.flatMap Ar.cells:List Value),u.oneCell'=true:=by
 intro u hu
 obtain ⟨T,_,hT⟩:=List.mem_flatMap.1 hu
 have:=OL T
 rw [Array.all_eq_true'] at this
 exact this u (Array.mem_toList_iff.1 hT)
theorem rZ {n:Nat} {k:Int}:∀ {acc:List TC} {l:List UInt8},Gn n acc l=.error k→k≠0:=by
 induction n with
 |zero=>intro acc l h;cases h
 |succ n ih=>
  intro acc l h
  rw [Gn] at h
  split at h
  ·rename_i h1;injection h with h;subst h;exact rP h1
  ·exact ih h
theorem yR {k:Int} {l:List UInt8} (h:Gi l=.error k):k≠0:=by
 unfold Gi at h
 split at h
 ·rename_i h1;injection h with h;subst h;have:=Ol h1;omega
 ·split at h
  ·rename_i h1;injection h with h;subst h;have:=Fh h1;omega
  ·split at h
   ·rename_i h1;injection h with h;subst h;exact rZ h1
   ·unfold Rx at h
    split at h
    ·cases h
    ·rename_i h1;injection h with h;subst h;exact h1
theorem mH (b:Nat) (s l:List UInt8) (w:World) (hR:Gb w b s l):
 Calls prog 132 #[.pointer (some ⟨b,0,none⟩)] w (Ad3 b s (Gi l) w):=by
 have hbw:=hR.lt
 have H:=Aa ((SL.O3 w hR).alloc #[.string ⟨#[]⟩,.slice none 0 0] 73)
 (try simp only [LS] at H)
 clear hR
 go_enter func132,ntmps132
 go_wp2_with fail
 generalize w.heap.size=z at *
 generalize w.alloc (.cells #[.string ⟨#[]⟩,.slice none 0 0] 73)=w1 at *
 have HT:=Aa (KQ b s l 12 w1 (H.EN 0 rfl) (by omega) (by omega))
 cases hx:Eg 12 l with
 |error k=>
  have HE:Hid (Gi l=.error k):=by show _=_;unfold Gi;rw [hx]
  rw [hx] at HT
  clear hx
  refine HT.mono ?_;rintro e w2 ⟨rfl,hg,l1,hr⟩
  replace H:=Aa (H.BP 0 rfl hg hr);(try simp only [LS] at H)
  clear hg hr
  go_wp2_with fail
  refine ⟨rfl,?_⟩
  rw [HE.Ab]
  exact ⟨rfl,H.fr.grown,l1,H.EN 0 rfl⟩
 |ok q=>
  obtain ⟨nm,l1⟩:=q
  have hnm:=(MX hx).1
  have HE:Hid (Gi l=match Et 4 l1 with|.error k=>.error k|.ok (n,r)=>match Gn n [] r with|.error k=>.error k|.ok (AB,r)=>Rx ⟨nm,AB⟩ r):=by show _=_;unfold Gi;rw [hx];(try rfl)
  rw [hx] at HT
  clear hx
  refine HT.mono ?_;rintro e w2 ⟨rfl,hg,hr⟩
  replace H:=Aa (H.BP 0 rfl hg hr);(try simp only [LS] at H)
  clear hg hr HT
  go_wp2_with ((with_reducible refine OS 3 ?_);refine Fu Dl #[.string ⟨nm.toArray⟩,.slice none 0 0] (by simp [Value.oneCell']) ?_;replace H:=Aa (H.alloc #[.string ⟨nm.toArray⟩,.slice none 0 0] 73);(try simp only [LS] at H))
  generalize w2.heap.size=y at *
  generalize w2.alloc (.cells #[.string ⟨nm.toArray⟩,.slice none 0 0] 73)=w3 at *
  have HT:=Aa (Gp b s l1 4 w3 (H.EN 0 rfl) (by omega) (by omega))
  cases hx:Et 4 l1 with
  |error k=>
   rw [hx] at HT HE
   clear hx
   refine HT.mono ?_;rintro e w4 ⟨rfl,hg,l2,hr⟩
   replace H:=Aa (H.BP 0 rfl hg hr);(try simp only [LS] at H)
   clear hg hr
   go_wp2_with fail
   refine ⟨rfl,?_⟩
   rw [HE.Ab]
   exact ⟨rfl,H.fr.grown,l2,H.EN 0 rfl⟩
  |ok q=>
   obtain ⟨n,l2⟩:=q
   have hn4:=(Ex hx).2.1
   rw [hx] at HT HE
   clear hx
   refine HT.mono ?_;rintro e w4 ⟨rfl,hg,hr⟩
   replace H:=Aa (H.BP 0 rfl hg hr);(try simp only [LS] at H)
   clear hg hr HT
   replace H:=Aa (H.ES 75 3);(try simp only [LS] at H)
   replace H:=Aa (H.add (Aj.refl _) _ (Wh w4) (fun g hg=>by obtain ⟨T,hT,_⟩:=hg;cases hT));(try simp only [LS] at H)
   go_wp2_with fail
   have HP0:Hid (Gn n [] l2=Gn (n - 0) (([]:List Bg).map Bg.Ac) l2):=rfl
   go_loopg [4,12] n (fun gg s4 s12 wr=>∃ (k:Nat) (acc:List Bg) (A:Option Addr) (c:Nat) (l':List UInt8),gg=n - k∧k≤n∧s12=.int .i64 k∧s4=.int .i64 (BV (acc.map Bg.Ac))∧Hid (acc.length=k)∧Hid (SL (One b) w wr [MW b s l',Av z 73 #[.string ⟨#[]⟩,.slice none 0 0],Av y 73 #[.string ⟨nm.toArray⟩,.slice A k c],Cb 75 3 (.slice A k c) k (acc.flatMap Ar.cells),TI acc])∧Hid (Gn n [] l2=Gn (n - k) (acc.map Bg.Ac) l'))
   case atStart=>exact ⟨0,[],none,0,l2,rfl,by omega,rfl,rfl,rfl,H,HP0⟩
   case round=>
    clear H HP0
    obtain ⟨k,acc,A,c,l',BG,hk,rfl,rfl,hac,H,HP⟩:=hrel
    have Cg:=Aa BG
    have hk4:k≤4:=by omega
    clear BG
    by_cases hlt:k<n
    ·have hab:AP (BV (acc.map Bg.Ac)):=by
      unfold AP
      cases acc with
      |nil=>simp [BV]
      |cons u r=>
       have h1:=(H.at_ 4 rfl) u (Dr ..)
       have h2:=Row.rd.len (Bg.rd.ts h1.rd)
       have h3:=h1.tn
       show _≤((u.ts.l.length:Nat):Int)∧((u.ts.l.length:Nat):Int)≤_
       omega
     have HT:=Aa (iT b s l' (BV (acc.map Bg.Ac)) wr (H.EN 0 rfl) hab)
     have HN:Hid (Gn n [] l2=match EJ (BV (acc.map Bg.Ac)) l' with|.error k=>.error k|.ok (t,r)=>Gn (n - (k+1)) (t::acc.map Bg.Ac) r):=by show _=_;rw [HP.Ab,show n - k=(n - (k+1))+1 by omega,Gn];(try rfl)
     clear HP
     generalize J9:BV (acc.map Bg.Ac)=ab at *
     have HAB:=Aa J9
     clear J9
     go_wp2_with fail
     cases hx:EJ ab l' with
     |error e1=>
      rw [hx] at HT HN
      clear hx
      refine HT.mono ?_;rintro e w5 ⟨rfl,hg,l3,hr⟩
      replace H:=Aa (H.BP 0 rfl hg hr);(try simp only [LS] at H)
      clear hg hr
      go_wp2_with fail
      refine ⟨rfl,?_⟩
      rw [HE.Ab,show Gn n [] l2=.error e1 from HN.Ab]
      exact ⟨rfl,H.fr.grown,l3,H.EN 0 rfl⟩
     |ok q=>
      obtain ⟨tc,l3⟩:=q
      rw [hx] at HT HN
      clear hx
      refine HT.mono ?_;rintro e w5 ⟨T,rfl,Yp,hg,hr,hown⟩
      replace H:=Aa (H.Gc 0 rfl hg hr (Pt T) (KE hown) (fun g hg=>by have:=M8 hown g hg;omega));(try simp only [LS] at H)
      have HTc:=Aa Yp
      have hTn:=hown.tn
      clear hg hr HT Yp hown
      go_wp2_with (first|((with_reducible refine OS 5 ?_);refine Fu Es T.cs (OL T) ?_;replace H:=Aa (H.alloc T.cs 75);(try simp only [LS] at H);have c1:=(H.blk 6 rfl).Am 1)|((with_reducible refine OP 20 ?_);refine Cx Es (H.blk 6 rfl) ?_)|((with_reducible refine OP 21 ?_);refine Cr rfl NM (.tmp 20) rfl T.cs rfl rfl (by omega) ?_;replace H:=Aa (H.CJ ((Aj.refl _).alloc _) (Dc _ 75 T.cs 3 rfl));(try simp only [LS] at H);clear c1;have c0:=(H.blk 2 rfl).Am 1)|((with_reducible refine OP 24 ?_);(refine BI rfl (.tmp 21) (.tmp 23) _ rfl NM 0 (Bw _) _ 1 _ rfl (H.row 7 rfl) A k c (acc.flatMap Ar.cells) rfl (Rd.Bf (H.row 3 rfl)) (xH acc) (by unfold maxLen;omega) (by omega) ?_;intro vq wq AR Ay Bb;replace H:=Aa (H.setRow 7 rfl Ay AR Bb);(try simp only [LS] at H);clear AR Ay Bb;obtain ⟨A2,c2,rfl,_⟩:=Ao (H.row 7 rfl);clear c0;have c0:=(H.blk 2 rfl).Am 1;have f0:=(H.blk 2 rfl).frozen 1)))
      replace H:=Aa (H.setCell 2 rfl 1 (.slice A2 (1+k) c2));(try simp only [LS] at H)
      replace H:=Aa (H.both 4 5 (by omega) rfl rfl (TI (T::acc)) (Ul (H.get 5 rfl) (H.get 4 rfl)) aQ);(try simp only [LS] at H)
      replace H:=Aa (H.Gh [0,1,2,6,4] (by decide) (by simp));(try simp only [LS] at H)
      clear c0 f0
      rw [Tq 1 k] at H ⊢
      have hAb:T.ts.l.length=T.ts.n:=Row.rd.len (Bg.rd.ts ((H.at_ 4 rfl) T (Dr ..)).rd)
      have HAbv:Hid (Value.int .i64 T.ts.n=.int .i64 (BV ((T::acc).map Bg.Ac))):=by
       show _=_
       show _=Value.int .i64 ((T.ts.l.length:Nat):Int)
       rw [hAb]
      have Il:Hid (Gn n [] l2=Gn (n - (k+1)) ((T::acc).map Bg.Ac) l3):=by show _=_;rw [HN.Ab,DI,HTc.Ab]
      clear hAb HN
      go_wp2_with fail
      go_roundg (n - (k+1))
      case rel=>exact ⟨k+1,T::acc,A2,c2,l3,rfl,by omega,by go_num,HAbv,by show _=_;rw [CZ,hac.Ab],H,Il⟩
      case measure=>rw [Cg.Ab];omega
    ·have HN:Hid (Gi l=Rx ⟨nm,acc.map Bg.Ac⟩ l'):=by show _=_;rw [HE.Ab,HP.Ab,show n - k=0 by omega];(try rfl)
     clear HP HE
     replace H:=Aa (H.both 3 4 (by omega) rfl rfl (Xj ⟨nm,⟨A,k,c,acc⟩⟩) (eD (by omega) hk4 (H.get 3 rfl) (H.get 4 rfl)) (fun g hg=>hg));(try simp only [LS] at H)
     obtain ⟨D,hD⟩:∃ D:Dm,D=⟨nm,⟨A,k,c,acc⟩⟩:=⟨_,rfl⟩
     have hDs:D.cs=#[.string ⟨nm.toArray⟩,.slice A k c]:=by rw [hD]
     have Gg:D.Ac=⟨nm,acc.map Bg.Ac⟩:=by rw [hD]
     rw [←hD,←hDs] at H
     rw [←Gg] at HN
     clear hD hDs Gg
     go_wp2_with ((with_reducible refine OP 27 ?_);refine Cx Dl (H.blk 2 rfl) ?_)
     refine (TW D _ (H.at_ 3 rfl).rd (by have:=(H.at_ 3 rfl).n4;omega) (fun t ht=>by have:=(H.at_ 3 rfl).up t ht;omega)).mono ?_;rintro e w5 ⟨rfl,hb5⟩
     replace H:=Aa (H.Au hb5)
     clear hb5
     have hEr:=Zz D.Ac
     by_cases hE0:Ba D.Ac=0
     ·have Il:Hid (Gi l=.ok (D.Ac,l')):=by show _=_;rw [HN.Ab];unfold Rx;rw [Ak hE0]
      rw [hE0]
      clear hE0 hEr HN
      go_wp2_with fail
      refine (KP b s l' 0 _ (H.EN 0 rfl)).mono ?_;rintro e w6 ⟨rfl,rfl⟩
      go_wp2_with (first|((with_reducible refine OP 34 ?_);refine Cx Dl (H.blk 2 rfl) ?_)|((with_reducible refine OS 2 ?_);refine Ec Dl H 1 rfl D.cs (Zy D) ?_;clear H;intro wq H;(try simp only [LS] at H)))
      refine Ce (Aq rfl Dl rfl (H.blk 1 rfl) rfl) rfl ?_
      rw [Il.Ab]
      exact ⟨D,rfl,rfl,H.fr.grown,H.EN 0 rfl,H.get 3 rfl,H.RB 3 0 (by omega) rfl rfl rfl⟩
     ·have Il:Hid (Gi l=.error (Ba D.Ac)):=by show _=_;rw [HN.Ab];unfold Rx;rw [Ah hE0]
      have HW:Hid (GH (Ba D.Ac)=Ba D.Ac):=by show _=_;unfold GH;rw [Ah hE0]
      have dE:(Ba D.Ac==0)=false:=by simpa using hE0
      clear hE0 HN
      go_wp2_with fail
      refine (Ip b s l' (Ba D.Ac) _ (H.EN 0 rfl)).mono ?_;rintro e w6 ⟨rfl,rfl⟩
      go_wp2_with fail
      refine ⟨rfl,?_⟩
      rw [Il.Ab,HW.Ab]
      exact ⟨rfl,H.fr.grown,_,H.EN 0 rfl⟩
def Ib:List TC→Nat→Int→Int
 |_,0,i=>i
 |[],_+1,i=>i
 |t::r,m+1,i=>if i<0 then i else Ib r m (Iw t.up i)
theorem tT {l:List TC} {m:Nat} {i:Int} (h:i<0):Ib l m i=i:=by
 cases m with
 |zero=>cases l<;>rfl
 |succ m=>
  cases l with
  |nil=>rfl
  |cons t r=>rw [Ib,Ak h]
theorem VX {l:List TC} {i:Int}:Ib l 0 i=i:=by cases l<;>rfl
theorem kX {AB:List TC} {k m:Nat} {t:TC} {i:Int} (h:AB[k]?=some t) (hi:0≤i):Ib (AB.drop k) (m+1) i=Ib (AB.drop (k+1)) m (Iw t.up i):=by
 obtain ⟨hk,rfl⟩:=Ca.1 h
 rw [DZ hk,Ib,Ah (by omega)]
def Ed (AB:List TC) (k:Nat):Nat:=match AB[k]? with|some t=>t.ts.length|none=>0
def De (AB:List TC) (f t i:Int):Int:=
 if 0≤f∧f≤t∧t<AB.length∧0≤i∧i<Ed AB f.toNat then max (Ib (AB.drop f.toNat) (t - f).toNat i) (-1) else -1
theorem iU {up:List Int} {n:Nat} {above:Int} (h:CG up n above=true) (ha:0<above):
 up.length=n∧(∀ z ∈ up,0≤z∧z<above)∧∀ i:Nat,(i:Int)<above→(i:Int) ∈ up:=by
 unfold CG at h
 rw [Ah (by omega)] at h
 simp only [XD,Tx,Oe,MP,List.contains_iff_mem] at h
 exact ⟨h.1.1,h.1.2,fun i hi=>h.2 i (by omega)⟩
theorem Ic.size {t:TC} {r:List TC} (h:Ic (t::r)):1≤t.ts.length:=(Du h.1).2.1
theorem Ic.step {t u:TC} {r:List TC} (h:Ic (t::u::r)):t.up.length=t.ts.length∧(∀ z ∈ t.up,0≤z∧z<u.ts.length)∧∀ i:Nat,i<u.ts.length→(i:Int) ∈ t.up:=by
 have h1:=(Du h.1).2.2.2.2
 have h2:=Ic.size h.2
 simp only [BV] at h1
 obtain ⟨a,b,c⟩:=iU h1 (by omega)
 exact ⟨a,b,fun i hi=>c i (by omega)⟩
theorem aW (t:TC) (r:List TC) (m:Nat):Ed (t::r) (m+1)=Ed r m:=rfl
theorem dY (m:Nat):∀ {l:List TC} {i:Int},Ic l→m<l.length→0≤i→i<Ed l 0→0≤Ib l m i∧Ib l m i<Ed l m:=by
 induction m with
 |zero=>intro l i _ _ h0 h1;rw [VX];exact ⟨h0,h1⟩
 |succ m ih=>
  intro l i ha hm h0 h1
  match l,ha,hm,h1 with
  |t::u::r,ha,hm,h1=>
   rw [Ib,Ah (by omega),aW]
   obtain ⟨e,hz,_⟩:=Ic.step ha
   have hi:i.toNat<t.up.length:=by rw [e];have:i<(t.ts.length:Int):=h1;omega
   have ho:Iw t.up i=t.up[i.toNat]:=by unfold Iw;rw [Ah (by omega),Ep hi];(try rfl)
   have:=hz _ (List.getElem_mem hi)
   refine ih ha.2 (by simpa using hm) (by rw [ho];exact this.1) ?_
   rw [ho]
   exact this.2
  |[t],ha,hm,h1=>simp at hm
  |[],ha,hm,h1=>simp at hm
theorem TF (AB:List TC) (f m:Nat):Ed (AB.drop f) m=Ed AB (f+m):=by unfold Ed;rw [KN]
theorem mZ {AB:List TC} (h:Ic AB) (f:Nat):Ic (AB.drop f):=by
 have:=Ki f AB
 rw [←this] at h
 exact Sb h
theorem Ow {AB:List TC} (h:Ic AB) {f t i:Nat} (h1:f≤t) (h2:t<AB.length) (h3:i<Ed AB f):De AB f t i=Ib (AB.drop f) (t - f) i∧0≤De AB f t i∧De AB f t i<Ed AB t:=by
 have e:De AB f t i=max (Ib (AB.drop f) (t - f) i) (-1):=by
  unfold De
  rw [Ak ⟨by omega,by omega,by omega,by omega,by simpa using h3⟩]
  have:((t:Int) - f).toNat=t - f:=by omega
  rw [this];(try rfl)
 have hr:=dY (t - f) (l:=AB.drop f) (i:=i) (mZ h f) (by simp;omega) (by omega) (by rw [TF];simpa using h3)
 rw [TF,show f+(t - f)=t by omega] at hr
 rw [e]
 omega
theorem OX (d:Dm) (k:Int) (w:World) (hd:d.rd w):
 Calls prog 147 #[.agg d.cs,.int .i64 k] w fun e w'=>e=.returned (.bool (decide (0≤k∧k<d.tr.n)))∧Aj w w':=by
 have hW:=(Aj.refl w).alloc (.cells d.cs 73)
 have h63:=hd.tr.n63
 obtain ⟨nm,⟨A,n,c,AB⟩⟩:=d
 simp only [Dm.cs] at *
 have HW:=Aa hW
 clear hW hd
 by_cases h0:0≤k
 ·have d0:decide ((0:Int)≤k)=true:=by simpa using h0
  by_cases h1:k<n
  ·have d1:decide (k<(n:Int))=true:=by simpa using h1
   have dd:decide (0≤k∧k<(n:Int))=true:=by simp;omega
   go_enter func147,ntmps147
   go_wp2
   go_ret
   try rw [dd]
   exact ⟨rfl,HW.Ab⟩
  ·have d1:decide (k<(n:Int))=false:=by simp;omega
   have dd:decide (0≤k∧k<(n:Int))=false:=by simp;omega
   go_enter func147,ntmps147
   go_wp2
   go_ret
   try rw [dd]
   exact ⟨rfl,HW.Ab⟩
 ·have d0:decide ((0:Int)≤k)=false:=by simp;omega
  have dd:decide (0≤k∧k<(n:Int))=false:=by simp;omega
  go_enter func147,ntmps147
  go_wp2
  go_ret
  try rw [dd]
  exact ⟨rfl,HW.Ab⟩
theorem jG {AB:List Bg} {k:Nat} {t:Bg} (h:AB[k]?=some t):Ed (AB.map Bg.Ac) k=t.ts.l.length:=by
 unfold Ed
 rw [DD,h]
 rfl
theorem dX (d:Dm) (f t i:Int) (w:World) (hd:d.rd w) (hf:AP f) (ht:AP t) (hi:AP i) (hn:d.tr.n≤1000000):
 Calls prog 105 #[.agg d.cs,.int .i64 f,.int .i64 t,.int .i64 i] w fun e w'=>e=.returned (.int .i64 (De (d.tr.l.map Bg.Ac) f t i))∧Aj w w':=by
 have HH:=Aa (fun k w' (hb:Aj w w')=>OX d k w' (hd.mono hb))
 have hW:=(Aj.refl w).alloc (.cells d.cs 73)
 have q0:=Aa (Br.new w 73 d.cs)
 have hlen:Hid (d.tr.l.length=d.tr.n):=hd.tr.len
 have HD:=Aa (hd.mono hW).tr
 obtain ⟨nm,⟨A,n,c,AB⟩⟩:=d
 simp only [Dm.cs] at *
 have HW:=Aa hW
 have aB:(AB.map Bg.Ac).length=n:=by rw [Cq];exact hlen.Ab
 clear hW hd
 obtain ⟨f0,f1⟩:=hf
 obtain ⟨t0,t1⟩:=ht
 by_cases hF:0≤f∧f<n
 ·have dF:decide (0≤f∧f<(n:Int))=true:=by simp;omega
  by_cases hT:0≤t∧t<n
  ·have dT:decide (0≤t∧t<(n:Int))=true:=by simp;omega
   by_cases hFT:t<f
   ·have HE:Hid (De (AB.map Bg.Ac) f t i=-1):=by show _=_;unfold De;rw [Ah (by omega)]
    have d1:decide (t<f)=true:=by simpa using hFT
    clear aB
    go_enter func105,ntmps105
    go_wp2_with fail
    refine (HH f _ HW.Ab).mono ?_;rintro e w1 ⟨rfl,hb1⟩
    rw [dF]
    have b1:=q0.Au hb1
    go_wp2_with ((with_reducible refine OP 15 ?_);refine Bj (by first|rfl|go_simp) Dl (.tmp 4) (by rfl) w.heap.size (by rfl) b1 rfl ?_)
    refine (HH t _ (HW.trans hb1)).mono ?_;rintro e w2 ⟨rfl,hb2⟩
    rw [dT]
    go_wp2
    go_ret
    rw [HE.Ab]
    exact ⟨rfl,(HW.trans hb1).trans hb2⟩
   ·have d1:decide (t<f)=false:=by simp;omega
    obtain ⟨f,rfl⟩:∃ k:Nat,f=k:=⟨f.toNat,by omega⟩
    obtain ⟨t,rfl⟩:∃ k:Nat,t=k:=⟨t.toNat,by omega⟩
    have d1n:decide (t<f)=false:=by simp;omega
    have d1m:(t<f)=False:=by simp;omega
    by_cases hi0:i<0
    ·have HE:Hid (De (AB.map Bg.Ac) f t i=-1):=by show _=_;unfold De;rw [Ah (by omega)]
     have d2:decide (i<0)=true:=by simpa using hi0
     clear aB
     go_enter func105,ntmps105
     go_wp2_with fail
     refine (HH f _ HW.Ab).mono ?_;rintro e w1 ⟨rfl,hb1⟩
     rw [dF]
     have b1:=q0.Au hb1
     go_wp2_with ((with_reducible refine OP 15 ?_);refine Bj (by first|rfl|go_simp) Dl (.tmp 4) (by rfl) w.heap.size (by rfl) b1 rfl ?_)
     refine (HH t _ (HW.trans hb1)).mono ?_;rintro e w2 ⟨rfl,hb2⟩
     rw [dT]
     go_wp2
     go_ret
     rw [HE.Ab]
     exact ⟨rfl,(HW.trans hb1).trans hb2⟩
    ·have d2:decide (i<0)=false:=by simp;omega
     have hfn:f<n:=by omega
     obtain ⟨bb,oo,T,hA,hbb,hT0,hTr,hrg⟩:=HD.JN (k:=f) hfn
     simp only at hA
     subst hA
     have hsz:Ed (AB.map Bg.Ac) f=T.ts.n:=by rw [jG hT0];exact hTr.ts.len
     have hc0:=hrg 1 _ rfl
     by_cases hiN:i<T.ts.n
     ·have d3:decide ((T.ts.n:Int)≤i)=false:=by simp;omega
      have HE:Hid (De (AB.map Bg.Ac) f t i=max (Ib ((AB.map Bg.Ac).drop f) (t - f) i) (-1)):=by
       show _=_
       unfold De
       rw [Ak ⟨by omega,by omega,by omega,by omega,by rw [Da,hsz];exact hiN⟩,Da]
       rw [show ((t:Int) - f).toNat=t - f by omega]
      have HL0:Hid (Ib ((AB.map Bg.Ac).drop f) (t - f) i=Ib ((AB.map Bg.Ac).drop f) (t - f) i):=rfl
      have hft:f≤t:=by omega
      have htn:t<n:=by omega
      clear aB hsz hT0 hTr hrg
      go_enter func105,ntmps105
      go_wp2_with fail
      refine (HH f _ HW.Ab).mono ?_;rintro e w1 ⟨rfl,hb1⟩
      rw [dF]
      have b1:=q0.Au hb1
      go_wp2_with ((with_reducible refine OP 15 ?_);refine Bj (by first|rfl|go_simp) Dl (.tmp 4) (by rfl) w.heap.size (by rfl) b1 rfl ?_)
      refine (HH t _ (HW.trans hb1)).mono ?_;rintro e w2 ⟨rfl,hb2⟩
      rw [dT]
      have B2:=Aa ((HW.trans hb1).trans hb2)
      have Q2:=Aa (b1.Au hb2)
      have c2:=((hb1.trans hb2).cell hbb).trans hc0
      have D2:=Aa ((HD.mono hb1).mono hb2)
      have g2:=Q2.Am 1
      have i2:(0:Int)≤f:=by omega
      have i3:(f:Int)<n:=by omega
      go_wp2_with fail
      have L0:Hid (Ib ((AB.map Bg.Ac).drop f) (t - f) i=Ib ((AB.map Bg.Ac).drop f) (t - f) i):=rfl
      clear c2 hc0 g2 d1 d2 d3 dF dT q0 HW HD HL0
      go_loopg [3,9] (t - f) (fun gg s3 s9 wr=>∃ (k:Nat) (j:Int),gg=t - k∧f≤k∧k≤t∧s3=.int .i64 j∧s9=.int .i64 k∧AP j∧Hid (Aj w wr)∧Hid (Br wr w.heap.size 73 #[.string ⟨nm.toArray⟩,.slice (some ⟨bb,oo,none⟩) n c])∧Hid (Row.rd wr ⟨some ⟨bb,oo,none⟩,n,c,AB⟩)∧Hid (Ib ((AB.map Bg.Ac).drop f) (t - f) i=Ib ((AB.map Bg.Ac).drop k) (t - k) j))
      case atStart=>exact ⟨f,i,rfl,by omega,by omega,rfl,rfl,hi,B2,Q2,D2,L0⟩
      case round=>
       clear B2 Q2 D2 L0
       obtain ⟨k,j,BG,hk0,hk,rfl,rfl,hj,hB,hQ,hD,hL⟩:=hrel
       have Cg:=Aa BG
       clear BG
       have g2:=hQ.Am 1
       by_cases hlt:k<t
       ·have e1:decide ((k:Int)<t)=true:=by simp;omega
        by_cases hj0:0≤j
        ·have e2:decide ((0:Int)≤j)=true:=by simpa using hj0
         obtain ⟨b2,o2,U,hA2,hb2,hU,hUr,hrg⟩:=hD.JN (k:=k) (show k<n by omega)
         simp only [Option.some.injEq,Addr.mk.injEq] at hA2
         obtain ⟨rfl,rfl,_⟩:=hA2
         have hUc:(AB.map Bg.Ac)[k]?=some U.Ac:=by rw [DD,hU];(try rfl)
         have HN:Hid (Ib ((AB.map Bg.Ac).drop f) (t - f) i=Ib ((AB.map Bg.Ac).drop (k+1)) (t - (k+1)) (Iw U.up.l j)):=by
          show _=_
          rw [hL.Ab,show t - k=(t - (k+1))+1 by omega,kX hUc hj0]
         have i2:(0:Int)≤k:=by omega
         have i3:(k:Int)<n:=by omega
         have ho:AP (Iw U.up.l j):=by
          unfold Iw
          split
          ·unfold AP;omega
          ·cases hz:U.up.l[j.toNat]? with
           |none=>unfold AP;simp
           |some z=>exact hUr.up.all z (CE hz)
         have HRG:=Aa hrg
         have HO:=Aa (yZ U j wr hUr hj)
         have wk:IntKind.i64.wrap ((k:Int)+1)=(k:Int)+1:=Kj _ (by omega)
         clear hL hU hUr hrg hUc hb2
         go_wp2_with ((with_reducible refine OP 54 ?_);refine Ae rfl Es (.tmp 53) rfl bb (oo+k * 3) rfl U.cs rfl HRG.Ab ?_)
         refine HO.mono ?_;rintro e w3 ⟨rfl,hb3⟩
         go_wp2_with fail
         go_roundg (t - (k+1))
         case rel=>exact ⟨k+1,Iw U.up.l j,rfl,by omega,by omega,rfl,by go_num,ho,hB.trans hb3,hQ.Au hb3,hD.mono hb3,HN⟩
         case measure=>rw [Cg.Ab];omega
        ·have e2:decide ((0:Int)≤j)=false:=by simp;omega
         have HN:Hid (De (AB.map Bg.Ac) f t i=max j (-1)):=by show _=_;rw [HE.Ab,hL.Ab,tT (by omega)]
         clear hL HE
         go_wp2
         go_ret
         rw [HN.Ab]
         exact ⟨rfl,hB.Ab⟩
       ·have e1:decide ((k:Int)<t)=false:=by simp;omega
        have HN:Hid (De (AB.map Bg.Ac) f t i=max j (-1)):=by show _=_;rw [HE.Ab,hL.Ab,show t - k=0 by omega,VX]
        clear hL HE
        go_wp2
        go_ret
        rw [HN.Ab]
        exact ⟨rfl,hB.Ab⟩
     ·have d3:decide ((T.ts.n:Int)≤i)=true:=by simp;omega
      have HE:Hid (De (AB.map Bg.Ac) f t i=-1):=by
       show _=_
       unfold De
       rw [Ah]
       rw [Da,hsz]
       omega
      clear aB hsz hT0 hTr hrg
      go_enter func105,ntmps105
      go_wp2_with fail
      refine (HH f _ HW.Ab).mono ?_;rintro e w1 ⟨rfl,hb1⟩
      rw [dF]
      have b1:=q0.Au hb1
      go_wp2_with ((with_reducible refine OP 15 ?_);refine Bj (by first|rfl|go_simp) Dl (.tmp 4) (by rfl) w.heap.size (by rfl) b1 rfl ?_)
      refine (HH t _ (HW.trans hb1)).mono ?_;rintro e w2 ⟨rfl,hb2⟩
      rw [dT]
      have B2:=Aa ((HW.trans hb1).trans hb2)
      have Q2:=Aa (b1.Au hb2)
      have c2:=((hb1.trans hb2).cell hbb).trans hc0
      have g2:=Q2.Am 1
      have i2:(0:Int)≤f:=by omega
      have i3:(f:Int)<n:=by omega
      go_wp2
      go_ret
      rw [HE.Ab]
      exact ⟨rfl,B2.Ab⟩
  ·have dT:decide (0≤t∧t<(n:Int))=false:=by simp;omega
   have HE:Hid (De (AB.map Bg.Ac) f t i=-1):=by show _=_;unfold De;rw [Ah (by omega)]
   clear aB
   go_enter func105,ntmps105
   go_wp2_with fail
   refine (HH f _ HW.Ab).mono ?_;rintro e w1 ⟨rfl,hb1⟩
   rw [dF]
   have b1:=q0.Au hb1
   go_wp2_with ((with_reducible refine OP 15 ?_);refine Bj (by first|rfl|go_simp) Dl (.tmp 4) (by rfl) w.heap.size (by rfl) b1 rfl ?_)
   refine (HH t _ (HW.trans hb1)).mono ?_;rintro e w2 ⟨rfl,hb2⟩
   rw [dT]
   go_wp2
   go_ret
   rw [HE.Ab]
   exact ⟨rfl,(HW.trans hb1).trans hb2⟩
 ·have dF:decide (0≤f∧f<(n:Int))=false:=by simp;omega
  have HE:Hid (De (AB.map Bg.Ac) f t i=-1):=by show _=_;unfold De;rw [Ah (by omega)]
  clear aB
  go_enter func105,ntmps105
  go_wp2_with fail
  refine (HH f _ HW.Ab).mono ?_;rintro e w1 ⟨rfl,hb1⟩
  rw [dF]
  go_wp2
  go_ret
  rw [HE.Ab]
  exact ⟨rfl,HW.trans hb1⟩
theorem Ci {α:Type} {l:List α} {k:Nat} {x:α} (h:l[k]?=some x):l.take (k+1)=l.take k++[x]:=by
 obtain ⟨hk,rfl⟩:=Ca.1 h
 exact Oa hk
theorem wD {w:World} {AB:List Bg} (h:∀ t ∈ AB,t.rd w) (k:Nat):AP (BV ((AB.map Bg.Ac).drop k)):=by
 unfold AP
 cases hdr:(AB.map Bg.Ac).drop k with
 |nil=>simp [BV]
 |cons u r=>
  have hm:u ∈ (AB.map Bg.Ac):=QX (i:=k) (by rw [hdr];exact Dr ..)
  obtain ⟨v,hv,rfl⟩:=GZ.1 hm
  have h1:=h v hv
  have h2:v.ts.l.length=v.ts.n:=Row.rd.len (Bg.rd.ts h1)
  have h3:=(Bg.rd.ts h1).n63
  simp only [BV]
  omega
theorem fA (d:Dm) (w:World) (hd:d.rd w) (hn:d.tr.n≤1000000):
 Calls prog 49 #[.agg d.cs] w fun e w'=>e=.returned (.int .i64 (Ba d.Ac))∧Aj w w':=by
 have HAB:=Aa (fun k (hk:k<d.tr.n) w' (hb:Aj w w')=>bP d k w' (hd.mono hb) hk hn)
 have hW:=(Aj.refl w).alloc (.cells d.cs 73)
 have hlen:Hid (d.tr.l.length=d.tr.n):=hd.tr.len
 have hnm:=hd.nm
 have HD:=Aa hd.tr
 obtain ⟨nm,⟨A,n,c,AB⟩⟩:=d
 simp only [Dm.cs,Dm.Ac] at *
 have HW:=Aa hW
 clear hW hd
 cases hN:Cy nm with
 |false=>
  have HE:Hid (Ba ⟨nm,AB.map Bg.Ac⟩=2):=by show _=_;unfold Ba;simp [hN]
  go_enter func49,ntmps49
  go_wp2_with fail
  refine (IC nm _ (by omega)).mono ?_;rintro e w1 ⟨rfl,rfl⟩
  rw [hN]
  go_wp2
  go_ret
  rw [HE.Ab]
  exact ⟨rfl,HW.Ab⟩
 |true=>
  by_cases hl:1≤n∧n≤4
  ·obtain ⟨hl1,hl2⟩:=hl
   have d1:decide ((n:Int)<1)=false:=by simp;omega
   have d2:decide ((4:Int)<n)=false:=by simp;omega
   have Kw:Hid (Ba ⟨nm,AB.map Bg.Ac⟩=DN ((AB.map Bg.nm).take 0) ((AB.map Bg.Ac).drop 0)):=by
    show _=_
    unfold Ba
    simp only [hN,ER,Cq]
    rw [Ah (by have:=hlen.Ab;omega)]
    rfl
   have Q0:=Aa (Br.new w 73 #[.string ⟨nm.toArray⟩,.slice A n c])
   go_enter func49,ntmps49
   go_wp2_with fail
   refine (IC nm _ (by omega)).mono ?_;rintro e w1 ⟨rfl,rfl⟩
   rw [hN]
   go_wp2_with fail
   clear d1 d2
   go_loopg [23] n (fun gg i wr=>∃ k:Nat,gg=n - k∧k≤n∧i=.int .i64 k∧Hid (Aj w wr)∧Hid (Br wr w.heap.size 73 #[.string ⟨nm.toArray⟩,.slice A n c])∧Hid (Ba ⟨nm,AB.map Bg.Ac⟩=DN ((AB.map Bg.nm).take k) ((AB.map Bg.Ac).drop k)))
   case atStart=>exact ⟨0,rfl,by omega,rfl,HW,Q0,Kw⟩
   case round=>
    clear HW Q0 Kw
    obtain ⟨k,BG,hk,rfl,hB,hQ,hE⟩:=hrel
    have Cg:=Aa BG
    clear BG
    by_cases hlt:k<n
    ·obtain ⟨bb,oo,t,hA,hbb,ht,htr,hrg⟩:=(HD.mono hB.Ab).JN (k:=k) hlt
     simp only at hA
     subst hA
     have HRG:=Aa hrg
     have wH:=Aa htr
     have htc:(AB.map Bg.Ac)[k]?=some t.Ac:=by rw [DD,ht];(try rfl)
     have htn:(AB.map Bg.nm)[k]?=some t.nm:=by rw [DD,ht];(try rfl)
     have HS:=Aa (RQ (seen:=(AB.map Bg.nm).take k) htc)
     have HTN:=Aa htn
     have Us:Hid ((AB.map Bg.nm).take (k+1)=(AB.map Bg.nm).take k++[t.nm]):=by
      show _=_
      obtain ⟨hk',he⟩:=Ca.1 htn
      rw [Oa hk',he]
     have hab:=wD HD.all (k+1)
     have i0:(0:Int)≤k:=by omega
     have i1:(k:Int)<n:=by omega
     have hq1:=hQ.Am 1
     clear ht hrg htr htc htn
     go_wp2_with fail
     generalize J9:BV ((AB.map Bg.Ac).drop (k+1))=ab at *
     have HAB1:Hid (∀ w',Aj w w'→Calls prog 84 #[.agg #[.string ⟨nm.toArray⟩,.slice (some ⟨bb,oo,none⟩) n c],.int .i64 k] w' fun e w''=>e=.returned (.int .i64 ab)∧Aj w' w''):=by
      intro w' hb
      have:=HAB k hlt w' hb
      rw [J9] at this
      exact this
     have HABE:=Aa J9
     clear J9
     have f1:=fun u:Over wr=>Over.cell hq1 u
     refine Al ?_
     repeat (first
      |((with_reducible show wpQuiet _ _ _ _ (⟨some 30,_,_,_,_,_⟩::_) _);refine Af rfl Es (.tmp 29) rfl bb (oo+k * 3) rfl t.cs rfl hbb HRG.Ab ?_;simp only [Act.put,LP])
      |((with_reducible show wpQuiet _ _ _ _ (⟨some 31,_,_,_,_,_⟩::_) _);refine Af rfl Dl (.tmp 1) rfl w.heap.size 0 rfl #[.string ⟨nm.toArray⟩,.slice (some ⟨bb,oo,none⟩) n c] rfl hQ.lt hQ.range ?_;simp only [Act.put,LP])
      |go_big_quiet_step ((first|(go_at_call 84;rename_i u;exact Be (HAB1 _ (hB.trans u.Au)))|(go_at_call 83;rename_i u;exact Be (aM t ab _ (wH.mono u.Au) hab)))))
     refine CX ?_
     rintro w4 ⟨⟨_,hw4⟩,rfl⟩
     have Q4:=Aa (hQ.Au hw4)
     have B4:=Aa (hB.trans hw4)
     have HB4:=Aa hw4
     try dsimp only
     clear hw4 f1 hq1
     by_cases hE0:Az t.Ac ab=0
     ·rw [hE0]
      have HNo0:Hid (∀ i,i<0→(AB.map Bg.nm)[i]?≠some t.nm):=fun i hi=>absurd hi (by omega)
      have hw4z:=Q4.lt
      have HS2:Hid (Ba ⟨nm,AB.map Bg.Ac⟩=if t.nm ∈ (AB.map Bg.nm).take k then 11 else DN ((AB.map Bg.nm).take (k+1)) ((AB.map Bg.Ac).drop (k+1))):=by show _=_;rw [hE.Ab,HS.Ab,Ah (by omega),Us.Ab]
      have hnB:Hid (Aj w4 w4):=Aj.refl _
      clear hE HS hE0
      go_wp2_with fail
      go_loopg [5] k (fun gg i wx=>∃ j:Nat,gg=k - j∧j≤k∧i=.int .i64 j∧Hid (Aj w4 wx)∧Hid (∀ i,i<j→(AB.map Bg.nm)[i]?≠some t.nm))
      case atStart=>exact ⟨0,rfl,by omega,rfl,hnB,HNo0⟩
      case round=>
       clear HNo0 hnB
       obtain ⟨j,hgj,hj,rfl,hBj,hNo⟩:=hrel
       have Kv:=Aa hgj
       clear hgj
       by_cases hjk:j<k
       ·obtain ⟨bb',oo',t',hA',hbb',ht',htr',j4⟩:=((HD.mono B4.Ab).mono hBj.Ab).JN (k:=j) (by show j<n;omega)
        simp only at hA'
        obtain ⟨rfl,rfl⟩:bb=bb'∧oo=oo':=by injection hA' with h;injection h with h1 h2;exact ⟨h1,h2⟩
        have cj:=j4 0 _ rfl
        have ck0:=HRG.Ab 0 _ rfl
        have ck:=(hBj.cell (p:=⟨bb,oo+k * 3+0,none⟩) (by have:=HB4.size;show bb<_;omega)).trans ((HB4.cell (p:=⟨bb,oo+k * 3+0,none⟩) hbb).trans ck0)
        have hq1:=(Q4.Au hBj.Ab).Am 1
        simp only [Jk] at cj ck
        have htn':(AB.map Bg.nm)[j]?=some t'.nm:=by rw [DD,ht'];(try rfl)
        have gT:=Aa htn'
        have j0:(0:Int)≤j:=by omega
        have j1:(j:Int)<n:=by omega
        clear ht' j4 hA' htr' hbb' htn' ck0
        cases heq:(t'.nm==t.nm) with
        |true=>
         have HN:Hid (Ba ⟨nm,AB.map Bg.Ac⟩=11):=by
          show _=_
          rw [HS2.Ab,Ak]
          rw [Iz]
          exact ⟨j,by rw [Gu hjk,gT.Ab];simpa using heq⟩
         clear HS2
         go_wp2_with fail
         go_quiet (fail)
         go_wp2
         go_ret
         rw [HN.Ab]
         exact ⟨rfl,(B4.trans hBj.Ab).drewN _⟩
        |false=>
         have HN:Hid (∀ i,i<j+1→(AB.map Bg.nm)[i]?≠some t.nm):=by
          intro i hi
          rcases (show i<j∨i=j by omega) with h|h
          ·exact hNo i h
          ·rw [h,gT.Ab]
           intro e
           injection e with e
           rw [e] at heq
           simp at heq
         go_wp2_with fail
         go_quiet (fail)
         go_wp2
         go_roundg (k - (j+1))
         case rel=>exact ⟨j+1,rfl,by omega,by go_num,hBj.drewN _,HN⟩
         case measure=>rw [Kv.Ab];omega
       ·have HN:Hid (Ba ⟨nm,AB.map Bg.Ac⟩=DN ((AB.map Bg.nm).take (k+1)) ((AB.map Bg.Ac).drop (k+1))):=by
         show _=_
         rw [HS2.Ab,Ah]
         rw [Iz]
         rintro ⟨i,hi⟩
         by_cases hik:i<k
         ·rw [Gu hik] at hi
          exact hNo i (by omega) hi
         ·rw [Gt (by simp;omega)] at hi
          cases hi
        clear HS2
        go_wp2_with fail
        go_roundg (n - (k+1))
        case rel=>exact ⟨k+1,rfl,by omega,by go_num,B4.trans hBj.Ab,Q4.Au hBj.Ab,HN⟩
        case measure=>rw [Cg.Ab];omega
     ·have HN:Hid (Ba ⟨nm,AB.map Bg.Ac⟩=Az t.Ac ab):=by show _=_;rw [hE.Ab,HS.Ab,Ak hE0]
      have dE:(Az t.Ac ab !=0)=true:=by simpa using hE0
      have dE2:(Az t.Ac ab==0)=false:=by simpa using hE0
      clear hE HS hE0
      go_wp2
      go_ret
      rw [HN.Ab]
      exact ⟨rfl,B4.Ab⟩
    ·have HN:Hid (Ba ⟨nm,AB.map Bg.Ac⟩=0):=by show _=_;rw [hE.Ab,EY (by have:=hlen.Ab;simp;omega)];(try rfl)
     clear hE
     go_wp2
     go_ret
     rw [HN.Ab]
     exact ⟨rfl,hB.Ab⟩
  ·have HE:Hid (Ba ⟨nm,AB.map Bg.Ac⟩=5):=by
    show _=_
    unfold Ba
    simp only [hN,ER,Cq]
    rw [Ak (by have:=hlen.Ab;omega)]
   rcases (show n<1∨(1≤n∧4<n) by omega) with h|⟨h,h'⟩
   all_goals
    first|(have d1:decide ((n:Int)<1)=true:=by simp;omega)|(have d1:decide ((n:Int)<1)=false:=by simp;omega)
    first|(have d2:decide ((4:Int)<n)=true:=by simp;omega)|(have d2:decide ((4:Int)<n)=false:=by simp;omega)
    clear hl
    go_enter func49,ntmps49
    go_wp2_with fail
    refine (IC nm _ (by omega)).mono ?_;rintro e w1 ⟨rfl,rfl⟩
    rw [hN]
    go_wp2
    go_ret
    rw [HE.Ab]
    exact ⟨rfl,HW.Ab⟩
theorem vJ (d:Dm) (w:World) (hd:d.rd w):
 Calls prog 24 #[.agg d.cs] w fun e w'=>∃ b:Bool,e=.returned (.bool b)∧(b=true→d.tr.n≤6∧∀ t ∈ d.tr.l,t.ts.n≤220∧t.up.n≤220)∧Aj w w':=by
 have hW:=(Aj.refl w).alloc (.cells d.cs 73)
 have q0:=Br.new w 73 d.cs
 have hlen:Hid (d.tr.l.length=d.tr.n):=hd.tr.len
 have n1:=hd.tr.n63
 have hnm:=hd.nm
 have HD:=Aa hd.tr
 obtain ⟨nm,⟨A,n,c,AB⟩⟩:=d
 simp only [Dm.cs] at *
 have HW:=Aa hW
 have x1:=q0.Am 1
 have Q0:=Aa q0
 clear hd hW q0
 go_enter func24,ntmps24
 go_wp2_with fail
 generalize w.alloc (.cells #[.string ⟨nm.toArray⟩,.slice A n c] 73)=W at *
 have H0:Hid (∀ i t,i<0→AB[i]?=some t→t.ts.n≤220∧t.up.n≤220):=fun i t hi=>absurd hi (by omega)
 go_loopg [3] 8 (fun gg i wr=>∃ k:Nat,gg=8 - k∧k≤7∧k≤n∧i=.int .i64 k∧Hid (Aj W wr)∧Hid (∀ i t,i<k→AB[i]?=some t→t.ts.n≤220∧t.up.n≤220))
 case atStart=>exact ⟨0,rfl,by omega,by omega,rfl,Aj.refl _,H0⟩
 case round=>
  clear H0
  obtain ⟨k,BG,hk7,hkn,rfl,hB,hA⟩:=hrel
  have Cg:=Aa BG
  clear BG
  have x1':=(hB.cell (PN _ _ x1)).trans x1
  have Q1:=Aa (Q0.Au hB.Ab)
  have x0':=Q1.cell 0
  simp only [LG] at x0'
  have wT:=Aa (HW.trans hB.Ab)
  by_cases hlt:k<n∧k≤6
  ·obtain ⟨h1,h2⟩:=hlt
   obtain ⟨ba,oa,a,hAA,hba,hak,har,hra⟩:=(HD.mono wT.Ab).JN (k:=k) h1
   simp only at hAA
   subst hAA
   have RA:=Aa hra
   have HAk:=Aa hak
   have i0:(0:Int)≤k:=by omega
   have i1:(k:Int)<n:=by omega
   have e1:decide ((k:Int)≤6)=true:=by simp;omega
   clear hak hra
   go_wp2_with ((with_reducible refine OP 19 ?_);refine Ae rfl Es (.tmp 18) rfl ba (oa+k * 3) rfl a.cs rfl RA.Ab ?_)
   refine (qM a _ har).mono ?_;rintro e w3 ⟨b,rfl,NP,hb3⟩
   have B3:=Aa (hB.trans hb3)
   have BW3:=Aa (wT.trans hb3)
   clear hb3
   cases b with
   |false=>
    clear NP
    go_wp2
    go_ret
    exact ⟨false,rfl,(fun h=>by cases h),BW3.Ab⟩
   |true=>
    have HN:Hid (∀ i t,i<k+1→AB[i]?=some t→t.ts.n≤220∧t.up.n≤220):=by
     intro i t hi hit
     rcases (show i<k∨i=k by omega) with h|h
     ·exact hA i t h hit
     ·subst h
      rw [HAk.Ab] at hit
      injection hit with hit
      subst hit
      exact NP rfl
    clear NP
    go_wp2
    go_roundg (8 - (k+1))
    case rel=>exact ⟨k+1,rfl,by omega,by omega,by go_num,B3,HN⟩
    case measure=>rw [Cg.Ab];omega
  ·have e0:(decide ((k:Int)<n)=false∧decide (k<n)=false∧¬ k<n)∨(decide ((k:Int)<n)=true∧decide (k<n)=true∧k<n∧decide ((k:Int)≤6)=false):=by
    by_cases h:k<n
    ·right
     refine ⟨by simp;omega,by simp;omega,h,by simp;omega⟩
    ·left
     refine ⟨by simp;omega,by simp;omega,h⟩
   clear hlt
   have nQ:Hid (n≤6→k=n∨k<n→¬ k<n→∀ t ∈ AB,t.ts.n≤220∧t.up.n≤220):=by
    intro h6 _ hkn2 t ht
    obtain ⟨i,hi⟩:=Iz.1 ht
    have hil:i<AB.length:=(Ca.1 hi).1
    exact hA i t (by have:=hlen.Ab;omega) hi
   rcases e0 with ⟨e0,e0',U3⟩|⟨e0,e0',U3,e1⟩
   ·by_cases h1:n≤6
    ·have f1:decide ((n:Int)≤6)=true:=by simp;omega
     go_wp2
     go_ret
     exact ⟨_,rfl,fun _=>⟨h1,nQ h1 (by omega) U3⟩,wT.Ab⟩
    ·have f1:decide ((n:Int)≤6)=false:=by simp;omega
     go_wp2
     go_ret
     exact ⟨false,rfl,(fun h=>by cases h),wT.Ab⟩
   ·have f1:decide ((n:Int)≤6)=false:=by simp;simp at e1;omega
    go_wp2
    go_ret
    exact ⟨false,rfl,(fun h=>by cases h),wT.Ab⟩
theorem Ac1 {S:Nat→Prop} {w0 w:World} {l:List EE} (H:SL S w0 w l) (i j:Nat) {g0 g1 m:Nat} {nm tn:List UInt8} {ts:List (List UInt8)} {cs:Array Value} (h0:l[i]?=some (Av g0 9 cs)) (hcs:cs.toList=ts.map tx) (hm:ts.length=m)
 (h1:l[j]?=some (Av g1 75 #[.string ⟨tn.toArray⟩,.slice (some ⟨g0,0,none⟩) m m,.slice none 0 0])) (hn:nm.length≤100) (htn:tn.length≤100) (hts:∀ t ∈ ts,t.length≤100) (hm2:m≤100):
 (Dm.mk nm ⟨some ⟨g1,0,none⟩,1,1,[⟨tn,⟨some ⟨g0,0,none⟩,m,m,ts⟩,⟨none,0,0,[]⟩⟩]⟩).rd w:=by
 refine ⟨by show nm.length≤_;omega,⟨?_,fun T hT=>?_,by show (1:Nat)≤_;omega⟩⟩
 ·exact AQ (m:=1) (H.blk j h1) rfl
 ·rw [Dt] at hT
  subst hT
  refine ⟨by show tn.length≤_;omega,⟨?_,fun t ht=>by have:=hts t ht;show t.length≤_;omega,by show m≤_;omega⟩,Row.Ou w⟩
  have:=AQ (m:=m) (size:=1) (H.blk i h0) (by rw [←Array.length_toList,hcs,Cq,hm,Sl])
  rw [hcs] at this
  show Rd w 1 (some ⟨g0,0,none⟩) m (ts.flatMap Ar.cells)
  rw [FQ]
  exact this
theorem Li.good {α:Type} {s:List UInt8} {o:PR α} {t:Int} {x:α} (h:Li s o t 0 x):∃ tn:Nat,t=tn∧tn≤s.length∧o=.ok (x,s.drop tn):=h.elim (fun h=>absurd rfl h.1) (fun h=>h.2)
def Vy {α β:Type} (o:PR α) (f:List UInt8→PR β):PR (α × β):=match o with|.error e=>.error e|.ok (x,r)=>match f r with|.error e=>.error e|.ok (y,r2)=>.ok ((x,y),r2)
theorem Li.step {α β:Type} {s:List UInt8} {o:PR α} {f:List UInt8→PR β} {tn:Nat} {x:α} {y:β} {t k:Int} (h:o=.ok (x,s.drop tn)) (h2:Li s (f (s.drop tn)) t k y):Li s (Vy o f) t k (x,y):=by
 unfold Vy
 rw [h]
 rcases h2 with ⟨h1,h2⟩|⟨h1,m,h3,h4,h2⟩
 ·exact .inl ⟨h1,by simp only [h2]⟩
 ·exact .inr ⟨h1,m,h3,h4,by simp only [h2]⟩
theorem Li.skip {α β:Type} {s:List UInt8} {o:PR α} {f:List UInt8→PR β} {x:α} {y:β} {t k:Int} (hk:k≠0) (h:o=.error k):Li s (Vy o f) t k (x,y):=.inl ⟨hk,by unfold Vy;rw [h]⟩
def dA (nm:List UInt8) (o:PR (List TC)):PR DC:=match o with|.error k=>.error k|.ok (AB,r)=>Rx ⟨nm,AB⟩ r
theorem Ye (l:List UInt8):Gi l=match Vy (Eg 12 l) (Et 4) with|.error k=>.error k|.ok ((nm,n),r)=>dA nm (Gn n [] r):=by
 unfold Gi Vy dA
 cases Eg 12 l with
 |error k=>rfl
 |ok q=>
  obtain ⟨nm,r⟩:=q
  dsimp only
  cases Et 4 r with
  |error k=>rfl
  |ok q=>rfl
def wM (s l0 nm:List UInt8) (n k:Nat) (acc:List TC) (t kk:Int):Prop:=
 (kk≠0∧Gi l0=.error kk)∨(kk=0∧∃ tn:Nat,t=tn∧tn≤s.length∧Gi l0=dA nm (Gn (n - k) acc (s.drop tn)))
theorem wM.start {s l0 nm:List UInt8} {n:Nat} {t k:Int} (h:Li s (Vy (Eg 12 l0) (Et 4)) t k (nm,n)):wM s l0 nm n 0 [] t k:=by
 rcases h with ⟨h1,h2⟩|⟨h1,tn,h3,h4,h2⟩
 ·exact .inl ⟨h1,by rw [Ye,h2]⟩
 ·exact .inr ⟨h1,tn,h3,h4,by rw [Ye,h2];(try rfl)⟩
theorem wM.good {s l0 nm:List UInt8} {n k:Nat} {acc:List TC} {t:Int} (h:wM s l0 nm n k acc t 0):∃ tn:Nat,t=tn∧tn≤s.length∧Gi l0=dA nm (Gn (n - k) acc (s.drop tn)):=h.elim (fun h=>absurd rfl h.1) (fun h=>h.2)
theorem wM.step {s l0 nm:List UInt8} {n k tn:Nat} {acc:List TC} {tc:TC} {t kk:Int} (hk:k<n) (h:Gi l0=dA nm (Gn (n - k) acc (s.drop tn))) (h2:Li s (EJ (BV acc) (s.drop tn)) t kk tc):wM s l0 nm n (k+1) (tc::acc) t kk:=by
 rw [show n - k=(n - (k+1))+1 by omega,Gn] at h
 rcases h2 with ⟨h1,h2⟩|⟨h1,m,h3,h4,h2⟩
 ·exact .inl ⟨h1,by rw [h,h2];(try rfl)⟩
 ·exact .inr ⟨h1,m,h3,h4,by rw [h,h2]⟩
theorem qL (up:List Int):(JL up).length≤9 * up.length:=by
 unfold JL
 induction up with
 |nil=>simp
 |cons x r ih=>
  rw [CY,BQ,CZ]
  have:=Bp x.toNat
  omega
theorem TE {t:TC} {above:Int} (h:Az t above=0):(CR t).length≤10000:=by
 obtain ⟨e1,_,e3,e4,_⟩:=Du h
 have e5:=Qo h
 have e6:=DW e1
 have e7:=aP e4
 have e8:=qL t.up
 have e9:=Bp t.nm.length
 unfold CR Cc
 simp only [BQ]
 omega
theorem gF {AB:List TC}:∀ {k:Nat} {t:TC},Ic AB→AB[k]?=some t→Az t (BV (AB.drop (k+1)))=0:=by
 induction AB with
 |nil=>intro k t h ht;simp at ht
 |cons u r ih=>
  intro k t h ht
  cases k with
  |zero=>
   simp at ht
   subst ht
   exact h.1
  |succ k=>exact ih h.2 (by simpa using ht)
theorem YY {AB:List TC} {j:Nat} {t:TC} (h:AB[j]?=some t):(AB.take (j+1)).reverse.flatMap CR=CR t++(AB.take j).reverse.flatMap CR:=by
 obtain ⟨hk,rfl⟩:=Ca.1 h
 rw [Oa hk,List.reverse_append]
 show List.flatMap CR (AB[j]::(AB.take j).reverse)=_
 rw [CY]
theorem jR (d:Dm) (w:World) (hd:d.rd w) (hE:Ba d.Ac=0):
 Calls prog 32 #[.agg d.cs] w fun e w'=>e=.returned (.string ⟨(Ey d.Ac).toArray⟩)∧Aj w w':=by
 have hW:=(Aj.refl w).alloc (.cells d.cs 73)
 have hlen:Hid (d.tr.l.length=d.tr.n):=hd.tr.len
 have hnm:=hd.nm
 have HD:=Aa hd.tr
 obtain ⟨nm,⟨A,n,c,AB⟩⟩:=d
 simp only [Dm.cs,Dm.Ac] at *
 have HW:=Aa hW
 have Q1:=Aa (Br.new w 73 #[.string ⟨nm.toArray⟩,.slice A n c])
 clear hW hd
 obtain ⟨e1,e2,e3,e4⟩:=Ej hE
 simp only [Cq] at e1 e2 e3
 have JB:=Aa (FR e4)
 have e6:=DW e1
 try simp only at e6
 have hn4:n≤4:=by have:=hlen.Ab;omega
 have hn1:1≤n:=by have:=hlen.Ab;omega
 have hp:(Cc nm).length≤21:=by unfold Cc;rw [BQ];have:=Bp nm.length;omega
 have hp2:=Bp n
 have HO:Hid (Ey ⟨nm,AB.map Bg.Ac⟩=(Cc nm++CK n)++((AB.map Bg.Ac).take n).reverse.flatMap CR):=by
  show _=_
  unfold Ey
  rw [DY (by have:=hlen.Ab;simp;omega)]
  simp only [Cq,hlen.Ab]
 have c0:=Q1.cell 0
 have c1:=Q1.cell 1
 simp only [LG] at c0 c1
 clear hE e1 e2 e3 e4
 go_enter func32,ntmps32
 go_wp2_with fail
 generalize w.alloc (.cells #[.string ⟨nm.toArray⟩,.slice A n c] 73)=w1 at *
 have f0:=fun u:Over w1=>Over.cell c0 u
 have f1:=fun u:Over w1=>Over.cell c1 u
 refine Al ?_
 repeat (go_big_quiet_step (first|(go_at_call 30;exact Be (GI nm _ (by omega)))|(go_at_call 29;exact Be (BU (n:Int) _ (by omega) (by omega)))))
 refine CX ?_
 rintro w2 ⟨⟨_,hw2⟩,rfl⟩
 have Q2:=Aa (Q1.Au hw2)
 have B2:=Aa (HW.trans hw2)
 have g1:=Q2.Am 1
 try dsimp only
 clear hw2 f0 f1 c0 c1 Q1 HW
 rw [Da]
 go_wp2_with fail
 go_loopg [3,4] n (fun gg o i wr=>∃ (k:Nat) (l:List UInt8),gg=k∧k≤n∧i=.int .i64 ((k:Int) - 1)∧o=.string ⟨l.toArray⟩∧l.length≤30+10000 * (n - k)∧Hid (Aj w wr)∧Hid (Br wr w.heap.size 73 #[.string ⟨nm.toArray⟩,.slice A n c])∧Hid (Ey ⟨nm,AB.map Bg.Ac⟩=l++((AB.map Bg.Ac).take k).reverse.flatMap CR))
 case atStart=>exact ⟨n,_,rfl,by omega,rfl,by simp only [Cs],by simp only [BQ];omega,B2,Q2,HO⟩
 case round=>
  clear HO B2 Q2 g1
  obtain ⟨k,l,BG,hkn,rfl,rfl,hl,hB,hQ,hO⟩:=hrel
  have Cg:=Aa BG
  clear BG
  have g1:=hQ.Am 1
  rcases Tt k with h0|h0
  ·subst h0
   have HN:Hid (Ey ⟨nm,AB.map Bg.Ac⟩=l):=by show _=_;rw [hO.Ab];simp
   rw [show ((0:Nat):Int) - 1=-1 from rfl]
   clear hO
   go_wp2
   go_ret
   rw [HN.Ab]
   exact ⟨rfl,hB.Ab⟩
  ·obtain ⟨j,rfl⟩:∃ j,k=j+1:=⟨k - 1,by omega⟩
   rw [show ((j+1:Nat):Int) - 1=(j:Int) by omega]
   obtain ⟨bb,oo,t,hA,hbb,ht,htr,hrg⟩:=(HD.mono hB.Ab).JN (k:=j) (by show j<n;omega)
   simp only at hA
   subst hA
   have htc:(AB.map Bg.Ac)[j]?=some t.Ac:=by rw [DD,ht];(try rfl)
   have hE0:=gF JB htc
   have hlt:=TE hE0
   have Kw:=Aa hE0
   have HN:Hid (Ey ⟨nm,AB.map Bg.Ac⟩=(l++CR t.Ac)++((AB.map Bg.Ac).take j).reverse.flatMap CR):=by show _=_;rw [hO.Ab,YY htc,Dk]
   have RA:=Aa hrg
   have wH:=Aa htr
   have i0:(0:Int)≤j:=by omega
   have i1:(j:Int)<n:=by omega
   clear ht htr hrg htc hE0 hO
   go_wp2_with ((with_reducible refine OP 26 ?_);refine Ae rfl Es (.tmp 25) rfl bb (oo+j * 3) rfl t.cs rfl RA.Ab ?_)
   refine (jL t _ _ wH Kw.Ab).mono ?_;rintro e w4 ⟨rfl,hw4⟩
   have Q4:=Aa (hQ.Au hw4)
   have B4:=Aa (hB.trans hw4)
   clear hw4 g1
   go_wp2
   go_roundg j
   case rel=>exact ⟨j,l++CR t.Ac,rfl,by omega,rfl,by simp only [Cs],by simp only [BQ];omega,B4,Q4,HN⟩
   case measure=>rw [Cg.Ab];omega
theorem Lb {α:Type} {l:List α} {f:α→List UInt8} {m:Nat} (h:∀ x ∈ l,(f x).length≤m):(l.flatMap f).length≤m * l.length:=by
 induction l with
 |nil=>simp
 |cons a r ih=>
  rw [CY,BQ,CZ,Nat.mul_add]
  have h1:=h a (Dr ..)
  have h2:=ih fun x hx=>h x (EO _ hx)
  omega
theorem Pn {AB:List TC} (h:Ic AB) {t:TC} (ht:t ∈ AB):∃ above,Az t above=0:=by
 obtain ⟨k,hk⟩:=Iz.1 ht
 exact ⟨_,gF h hk⟩
theorem Wz {d:DC} (h:Ba d=0):(Ey d).length≤50000:=by
 obtain ⟨h1,h2,h3,h4⟩:=Ej h
 have h5:=DW h1
 have h6:=Bp d.nm.length
 have h7:=Bp d.AB.length
 have h8:(d.AB.reverse.flatMap CR).length≤10000 * d.AB.reverse.length:=Lb fun t ht=>by
  obtain ⟨a,ha⟩:=Pn (FR h4) (List.mem_reverse.1 ht)
  exact TE ha
 rw [List.length_reverse] at h8
 unfold Ey Cc
 simp only [BQ]
 omega
def AX {α:Type} (p:List UInt8→PR α):Nat→List α→List UInt8→PR (List α)
 |0,acc,l=>.ok (acc,l)
 |n+1,acc,l=>
  match p l with
  |.error k=>.error k
  |.ok (x,r)=>AX p n (acc++[x]) r
theorem Me {α:Type} {p:List UInt8→PR α} {put:α→List UInt8} {xs:List α}:∀ {acc:List α} (r:List UInt8),(∀ x ∈ xs,∀ r,p (put x++r)=.ok (x,r))→AX p xs.length acc (xs.flatMap put++r)=.ok (acc++xs,r):=by
 induction xs with
 |nil=>intro acc r _;simp [AX]
 |cons x xs ih=>
  intro acc r h
  rw [CZ,AX,CY,Dk,h x (Dr ..)]
  simp only
  rw [ih r fun y hy=>h y (EO _ hy)]
  simp
theorem Qy {α:Type} {p:List UInt8→PR α} {put:α→List UInt8} {n:Nat}:∀ {acc xs:List α} {l r:List UInt8},(∀ l x r,p l=.ok (x,r)→l=put x++r)→AX p n acc l=.ok (xs,r)→∃ ms:List α,xs=acc++ms∧ms.length=n∧l=ms.flatMap put++r:=by
 induction n with
 |zero=>
  intro acc xs l r _ h
  injection h with h
  injection h with h1 h2
  subst h1 h2
  exact ⟨[],by simp,rfl,rfl⟩
 |succ n ih=>
  intro acc xs l r hp h
  rw [AX] at h
  split at h
  ·cases h
  ·rename_i x r1 h1
   obtain ⟨ms,e1,e2,e3⟩:=ih hp h
   exact ⟨x::ms,by rw [e1];simp,by simp [e2],by rw [hp _ _ _ h1,e3];simp⟩
theorem Ju {α:Type} {p:List UInt8→PR α} {n:Nat} {k:Int}:∀ {acc:List α} {l:List UInt8},(∀ l k,p l=.error k→k≠0)→AX p n acc l=.error k→k≠0:=by
 induction n with
 |zero=>intro acc l _ h;cases h
 |succ n ih=>
  intro acc l hp h
  rw [AX] at h
  split at h
  ·rename_i h1;injection h with h;subst h;exact hp _ _ h1
  ·exact ih hp h
theorem Ir {α:Type} {p:List UInt8→PR α} {n k:Nat} {acc:List α} {l:List UInt8} (hk:k<n):AX p (n - k) acc l=match p l with|.error e=>.error e|.ok (x,r)=>AX p (n - (k+1)) (acc++[x]) r:=by
 rw [show n - k=(n - (k+1))+1 by omega,AX]
structure SC where
 DF:List DC
 ms:List (List UInt8)
deriving DecidableEq
def BN:List (List UInt8)→List DC→Int
 |_,[]=>0
 |seen,d::r=>if Ba d≠0 then Ba d else if d.nm ∈ seen then 11 else BN (seen++[d.nm]) r
def Fj:List (List UInt8)→List (List UInt8)→Int
 |_,[]=>0
 |seen,m::r=>if Cy m=true then (if m ∈ seen then 11 else Fj (seen++[m]) r) else 2
def EL (l:List (List UInt8)):Int:=if l.length<1∨3<l.length then 5 else Fj [] l
def Ap (s:SC):Int:=if s.DF.length<1∨16<s.DF.length then 5 else if BN [] s.DF≠0 then BN [] s.DF else EL s.ms
def Ie (s:SC):List UInt8:=CK s.DF.length++s.DF.flatMap Ey++CK s.ms.length++s.ms.flatMap Cc
def VB (s:SC) (r:List UInt8):PR SC:=if Ap s=0 then .ok (s,r) else .error (Ap s)
def bW (ds:List DC) (o:PR (List (List UInt8))):PR SC:=match o with|.error k=>.error k|.ok (ms,r)=>VB ⟨ds,ms⟩ r
def Vz (ds:List DC) (l:List UInt8):PR SC:=match Et 3 l with|.error k=>.error k|.ok (n,r)=>bW ds (AX (Eg 12) n [] r)
def bX (o:PR (List DC)):PR SC:=match o with|.error k=>.error k|.ok (ds,r)=>Vz ds r
def KW (l:List UInt8):PR SC:=match Et 16 l with|.error k=>.error k|.ok (n,r)=>bX (AX Gi n [] r)
theorem Qd {ds:List DC} {k:Nat} {d:DC} {seen:List (List UInt8)} (h:ds[k]?=some d):BN seen (ds.drop k)=if Ba d≠0 then Ba d else if d.nm ∈ seen then 11 else BN (seen++[d.nm]) (ds.drop (k+1)):=by
 obtain ⟨hk,rfl⟩:=Ca.1 h
 rw [DZ hk,BN]
theorem PY {ms:List (List UInt8)} {k:Nat} {m:List UInt8} {seen:List (List UInt8)} (h:ms[k]?=some m):Fj seen (ms.drop k)=if Cy m=true then (if m ∈ seen then 11 else Fj (seen++[m]) (ms.drop (k+1))) else 2:=by
 obtain ⟨hk,rfl⟩:=Ca.1 h
 rw [DZ hk,Fj]
theorem fB {ds:List DC}:∀ {seen:List (List UInt8)},BN seen ds=0→∀ d ∈ ds,Ba d=0:=by
 induction ds with
 |nil=>intro seen _ d hd;cases hd
 |cons a r ih=>
  intro seen h d hd
  rw [BN] at h
  split at h
  ·rename_i h1;exact absurd h h1
  ·rename_i h1
   split at h
   ·cases h
   ·rcases En.1 hd with rfl|hd
    ·omega
    ·exact ih h d hd
theorem dU {ms:List (List UInt8)}:∀ {seen:List (List UInt8)},Fj seen ms=0→∀ m ∈ ms,Cy m=true:=by
 induction ms with
 |nil=>intro seen _ d hd;cases hd
 |cons a r ih=>
  intro seen h d hd
  rw [Fj] at h
  split at h
  ·rename_i h1
   split at h
   ·cases h
   ·rcases En.1 hd with rfl|hd
    ·exact h1
    ·exact ih h d hd
  ·cases h
theorem BA {s:SC} (h:Ap s=0):1≤s.DF.length∧s.DF.length≤16∧(∀ d ∈ s.DF,Ba d=0)∧1≤s.ms.length∧s.ms.length≤3∧∀ m ∈ s.ms,Cy m=true:=by
 unfold Ap at h
 split at h
 ·cases h
 ·split at h
  ·rename_i h1;exact absurd h h1
  ·rename_i h1 h2
   unfold EL at h
   split at h
   ·cases h
   ·exact ⟨by omega,by omega,fB (seen:=[]) (by omega),by omega,by omega,dU (seen:=[]) h⟩
theorem yL {s:SC} (h:Ap s=0) (r:List UInt8):KW (Ie s++r)=.ok (s,r):=by
 obtain ⟨h1,h2,h3,h4,h5,h6⟩:=BA h
 have e:Ie s++r=CK s.DF.length++(s.DF.flatMap Ey++(CK s.ms.length++(s.ms.flatMap Cc++r))):=by unfold Ie;simp only [Dk]
 unfold KW
 rw [e,Oj (by omega) (by omega)]
 simp only
 rw [Me (put:=Ey) _ fun d hd r=>yQ (h3 d hd) r]
 simp only [bX,Vz]
 rw [Oj (by omega) (by omega)]
 simp only
 rw [Me (put:=Cc) _ fun m hm r=>Vx (by have:=DW (h6 m hm);omega) (by have:=DW (h6 m hm);omega) r]
 simp only [bW,VB,Fy]
 rw [Ak h]
theorem rQ {l r:List UInt8} {s:SC} (h:KW l=.ok (s,r)):Ap s=0∧l=Ie s++r:=by
 unfold KW at h
 split at h
 ·cases h
 ·rename_i n r1 h1
  unfold bX at h
  split at h
  ·cases h
  ·rename_i ds r2 h2
   unfold Vz at h
   split at h
   ·cases h
   ·rename_i m r3 h3
    unfold bW at h
    split at h
    ·cases h
    ·rename_i ms r4 h4
     unfold VB at h
     split at h
     ·rename_i h5
      injection h with h
      injection h with e1 e2
      subst e1 e2
      refine ⟨h5,?_⟩
      obtain ⟨xs,a1,a2,a3⟩:=Qy (put:=Ey) (fun l x r h=>(sD h).2) h2
      obtain ⟨ys,b1,b2,b3⟩:=Qy (put:=Cc) (fun l x r h=>IE h) h4
      rw [Fy] at a1 b1
      subst a1 b1
      unfold Ie
      rw [Ef h1,a3,Ef h3,b3,a2,b2]
      simp only [Dk]
     ·cases h
theorem bV {k:Int} {l:List UInt8} (h:KW l=.error k):k≠0:=by
 unfold KW at h
 split at h
 ·rename_i h1;injection h with h;subst h;have:=Fh h1;omega
 ·unfold bX at h
  split at h
  ·rename_i h1;injection h with h;subst h;exact Ju (fun l k h=>yR h) h1
  ·unfold Vz at h
   split at h
   ·rename_i h1;injection h with h;subst h;have:=Fh h1;omega
   ·unfold bW at h
    split at h
    ·rename_i h1;injection h with h;subst h;exact Ju (fun l k h=>by have:=Ol h;omega) h1
    ·unfold VB at h
     split at h
     ·cases h
     ·rename_i h1;injection h with h;subst h;exact h1
end Go.Proofs.YtijplolmkcdflaaGreat
namespace Go.Proofs.YtijplolmkcdflaaGreat
open Tryz
open Go.RowKit Go.ChangeShapes Go.WideShapes Go.Deep
structure Ev where
 dm:Row Dm
 ms:Row (List UInt8)
abbrev Ev.cs (s:Ev):Array Value:=#[.slice s.dm.A s.dm.n s.dm.c,.slice s.ms.A s.ms.n s.ms.c]
structure Ev.rd (w:World) (s:Ev):Prop where
 dm:s.dm.rd w
 ms:s.ms.rd w
theorem Ev.rd.mono {w w':World} {s:Ev} (h:s.rd w) (hb:Aj w w'):s.rd w':=⟨h.dm.mono hb,h.ms.mono hb⟩
instance Ab3:Ar Ev where
 size:=2
 bytes:=48
 cells s:=s.cs.toList
 ok w s:=s.rd w
 len _:=rfl
 pos:=by omega
 mono hb h:=h.mono hb
abbrev Ev.Ac (s:Ev):SC:=⟨s.dm.l.map Dm.Ac,s.ms.l⟩
theorem Uv (s:Ev):s.cs.all (·.oneCell')=true:=by simp [Value.oneCell']
theorem BL:DV prog 25 2:=⟨⟨_,underlying25,rfl⟩,by kernel_rfl⟩
theorem Ae8:prog.cellsOf 25=2:=by kernel_rfl
theorem sO:JW prog 25 Ev:=by
 intro H enc w base spare held fuel cs x h hz
 have hl:=Jr underlying25 h Ae8
 obtain ⟨a,ha,wa⟩:=Ei underlying25 h hz 0 _ rfl sS Af2
 obtain ⟨b,hb,wb⟩:=Ei underlying25 h hz 1 _ rfl Nc ZE
 refine ⟨⟨a,b⟩,?_,⟨Row.ok.Vw wa,Row.ok.Vw wb⟩⟩
 match cs,hl with
 |[x0,x1],_=>
  simp [Ar.cells,Row.v] at ha hb
  simp [Ar.cells,ha,hb]
theorem zF {H:Type} {enc:TypeId × Value→H} {w:World} {base b0:Nat} {spare:Nat→Bool} {held:Bool} {r:Reach} {v:Value} {d:DataW H} {p:List MemPlace}
 (hv:Value.okWide prog w r b0 25 v) (h:DataW.Trod enc prog w base spare held 25 v d p) (hz:MH prog 25 d):∃ t:Ev,v=.agg t.cs∧t.rd w:=by
 obtain ⟨cs,rfl,_⟩:=okWide_struct underlying25 hv
 obtain ⟨fuel,hf⟩:=h
 obtain ⟨a,ha,ho⟩:=sO hf hz
 refine ⟨a,?_,ho⟩
 simp only [Value.cells] at ha
 rw [Array.toList_inj.1 ha]
theorem Yt (b k:Nat) (seen:List (List UInt8)) (x:List UInt8) (w:World) (hx:x.length≤140737488351232) (hk:k≤1000000) (hM:w.ownsMap prog 9 (plainElem (H:=Unit) prog 3) b k (Maps.setOf Ko (Ia seen))) (hmem:x ∉ seen):
 Calls prog 135 #[.map (some b),.string ⟨x.toArray⟩] w fun e w'=>e=.returned (.bool true)∧w.grownBy w' (some b)∧w'.ownsMap prog 9 (plainElem (H:=Unit) prog 3) b (k+1) (Maps.setOf Ko (Ia (seen++[x]))):=by
 have HM:=Aa hM
 have qE:Hid ((⟨x.toArray⟩:ByteArray).size≤maxLen):=by show _≤_;unfold maxLen;simp [ByteArray.size];omega
 clear hM
 have HA:Hid (∀ c:Int,(Maps.setOf Ko (Ia seen)).atKey (.string x) (.lit (.int .i64 0))=.lit (.int .i64 c)→c=0):=by
  intro c h
  rw [LF,Ah hmem] at h
  injection h with h
  injection h with _ h
  exact h.symm
 clear hmem
 go_enter func135,ntmps135
 go_wp2_with (first|((with_reducible refine OP 7 ?_);refine Tv _ rfl (.tmp 5) (.tmp 6) 223 rfl 9 3 .i64 (Nu underlying9) underlying223 underlying3 (JI _) b k _ rfl HM _ (.string x) rfl (Ny underlying9 (s:=⟨x.toArray⟩) qE.Ab) ?_;intro c7 o9 hwc7;obtain rfl:=HA c7 o9;clear o9 hwc7)|((with_reducible show wpList _ _ _ (⟨_,.mapUpdate _ _ _ _,_,_,_,_⟩::_) _ _);refine UT _ rfl (.tmp 5) (.tmp 6) _ 223 rfl 9 3 (Nu underlying9) underlying223 _ b k _ rfl HM (by unfold maxLen;omega) _ _ (.string x) rfl rfl (Ny underlying9 (s:=⟨x.toArray⟩) qE.Ab) (.lit (.int .i64 1)) [] (UG underlying3 (qI (by unfold AP;omega))) ?_;intro w5 hown5 hg5;have M5:=Aa hown5;have G5:=Aa hg5;clear hown5 hg5)|((with_reducible refine OP 11 ?_);refine Tv _ rfl (.tmp 9) (.tmp 10) 223 rfl 9 3 .i64 (Nu underlying9) underlying223 underlying3 (JI _) b (k+1) _ rfl M5 _ (.string x) rfl (Ny underlying9 (s:=⟨x.toArray⟩) qE.Ab) ?_;intro c11 eO zY;obtain rfl:=(OQ seen x 1 c11 eO);clear eO zY))
 go_ret
 refine ⟨rfl,G5.Ab,?_⟩
 unfold Ia
 rw [BR]
 have:=M5.Ab
 rw [←Maps.setOf_snoc] at this
 exact this
theorem Yr (b k:Nat) (seen:List (List UInt8)) (x:List UInt8) (w:World) (hx:x.length≤140737488351232) (hk:k≤1000000) (hM:w.ownsMap prog 9 (plainElem (H:=Unit) prog 3) b k (Maps.setOf Ko (Ia seen))) (hmem:x ∈ seen):
 Calls prog 135 #[.map (some b),.string ⟨x.toArray⟩] w fun e w'=>e=.returned (.bool false)∧w.grownBy w' (some b)∧b<w'.heap.size:=by
 have HM:=Aa hM
 have qE:Hid ((⟨x.toArray⟩:ByteArray).size≤maxLen):=by show _≤_;unfold maxLen;simp [ByteArray.size];omega
 clear hM
 have HA:Hid (∀ c:Int,(Maps.setOf Ko (Ia seen)).atKey (.string x) (.lit (.int .i64 0))=.lit (.int .i64 c)→c=1):=by
  intro c h
  rw [LF,Ak hmem] at h
  injection h with h
  injection h with _ h
  exact h.symm
 clear hmem
 go_enter func135,ntmps135
 go_wp2_with (first|((with_reducible refine OP 7 ?_);refine Tv _ rfl (.tmp 5) (.tmp 6) 223 rfl 9 3 .i64 (Nu underlying9) underlying223 underlying3 (JI _) b k _ rfl HM _ (.string x) rfl (Ny underlying9 (s:=⟨x.toArray⟩) qE.Ab) ?_;intro c7 o9 hwc7;obtain rfl:=HA c7 o9;clear o9 hwc7)|((with_reducible show wpList _ _ _ (⟨_,.mapUpdate _ _ _ _,_,_,_,_⟩::_) _ _);refine UT _ rfl (.tmp 5) (.tmp 6) _ 223 rfl 9 3 (Nu underlying9) underlying223 _ b k _ rfl HM (by unfold maxLen;omega) _ _ (.string x) rfl rfl (Ny underlying9 (s:=⟨x.toArray⟩) qE.Ab) (.lit (.int .i64 2)) [] (UG underlying3 (qI (by unfold AP;omega))) ?_;intro w5 hown5 hg5;have M5:=Aa hown5;have G5:=Aa hg5;clear hown5 hg5)|((with_reducible refine OP 11 ?_);refine Tv _ rfl (.tmp 9) (.tmp 10) 223 rfl 9 3 .i64 (Nu underlying9) underlying223 underlying3 (JI _) b (k+1) _ rfl M5 _ (.string x) rfl (Ny underlying9 (s:=⟨x.toArray⟩) qE.Ab) ?_;intro c11 eO zY;obtain rfl:=(OQ seen x 2 c11 eO);clear eO zY))
 go_ret
 exact ⟨rfl,G5.Ab,M5.lt⟩
abbrev rAny (b:Nat):EE:=⟨One b,fun _=>True⟩
theorem uN {w:World} {b:Nat} (h:b<w.heap.size):(rAny b).holds w:=⟨fun _ e=>e ▸ h,fun _ _ _=>trivial⟩
theorem SL.xS {S:Nat→Prop} {w0 w w':World} {l:List EE} (h:SL S w0 w l) (i:Nat) {P:Program} {k:TypeId} {R:Value→Option (DataW Unit × List MemPlace)} {b n n':Nat} {D D':DataW Unit} (hi:l[i]?=some (bU P k R b n D)) (hg:w.grownBy w' (some b)) (hm:w'.ownsMap P k R b n' D'):SL S w0 w' (l.set i (bU P k R b n' D')):=
 h.upd i hi ⟨hg.os,hg.tape,hg.output,hg.size,fun k hk hn=>hg.block k hk (fun e=>hn (by injection e))⟩ _ (Yk hm) (fun k hk=>.inl hk)
theorem SL.oO {S:Nat→Prop} {w0 w w':World} {l:List EE} (h:SL S w0 w l) (i:Nat) {P:Program} {k:TypeId} {R:Value→Option (DataW Unit × List MemPlace)} {b n:Nat} {D:DataW Unit} (hi:l[i]?=some (bU P k R b n D)) (hg:w.grownBy w' (some b)) (hb:b<w'.heap.size):SL S w0 w' (l.set i (rAny b)):=
 h.upd i hi ⟨hg.os,hg.tape,hg.output,hg.size,fun k hk hn=>hg.block k hk (fun e=>hn (by injection e))⟩ _ (uN hb) (fun k hk=>.inl hk)
theorem SL.allocMap {S:Nat→Prop} {w0 w:World} {l:List EE} (h:SL S w0 w l) (P:Program) (k:TypeId) (R:Value→Option (DataW Unit × List MemPlace)):SL S w0 (w.alloc (.map #[] 0)) (l++[bU P k R w.heap.size 0 (Maps.setOf Ko [])]):=
 h.add ((Aj.refl w).alloc _) _ (Yk (World.ownsMap_made w P k R)) (fun g hg=>by cases hg;exact BZ _)
theorem Zj (x:Row (List UInt8)) (w:World) (hx:x.rd w) (hn:x.n≤1000000):
 Calls prog 136 #[.slice x.A x.n x.c] w fun e w'=>e=.returned (.int .i64 (EL x.l))∧Aj w w':=by
 have hlen:Hid (x.l.length=x.n):=hx.len
 have HX:=Aa hx
 have hmm:=@run_makeMap prog
 obtain ⟨A,n,c,ms⟩:=x
 simp only at *
 clear hx
 by_cases hl:1≤n∧n≤3
 ·obtain ⟨hl1,hl2⟩:=hl
  have d1:decide ((n:Int)<1)=false:=by simp<;>omega
  have d2:decide ((3:Int)<n)=false:=by simp<;>omega
  have HE:Hid (EL ms=Fj (ms.take 0) (ms.drop 0)):=by show _=_;unfold EL;rw [Ah (by have:=hlen.Ab;omega)];(try rfl)
  have H:=Aa ((SL.start No w).allocMap prog 9 (plainElem (H:=Unit) prog 3))
  (try simp only [LS] at H)
  rw [show Maps.setOf Ko []=Maps.setOf Ko (Ia (ms.take 0)) from rfl] at H
  go_enter func136,ntmps136
  go_wp2_with fail
  generalize w.heap.size=b at *
  clear d1 d2
  go_loopg [18] n (fun gg i wr=>∃ k:Nat,gg=n - k∧k≤n∧i=.int .i64 k∧Hid (SL No w wr [bU prog 9 (plainElem (H:=Unit) prog 3) b k (Maps.setOf Ko (Ia (ms.take k)))])∧Hid (EL ms=Fj (ms.take k) (ms.drop k)))
  case atStart=>exact ⟨0,rfl,by omega,rfl,H,HE⟩
  case round=>
   clear H HE
   obtain ⟨k,BG,hk,rfl,H,HE⟩:=hrel
   have Cg:=Aa BG
   clear BG
   by_cases hlt:k<n
   ·obtain ⟨bb,oo,m,hA,hm,aB,hc⟩:=(HX.mono H.to).FE (k:=k) hlt
    simp only at hA
    subst hA
    have HS:=Aa (PY (seen:=ms.take k) hm)
    have Us:=Aa (Ci hm)
    have i0:(0:Int)≤k:=by omega
    have i1:(k:Int)<n:=by omega
    clear hm
    go_wp2_with fail
    refine (JR m _ (by omega)).mono ?_;rintro e w1 ⟨rfl,rfl⟩
    clear hc
    cases hN:Cy m with
    |false=>
     have HN:Hid (EL ms=2):=by show _=_;rw [HE.Ab,HS.Ab,hN];(try rfl)
     rw [show Mx false=2 from rfl]
     clear HE HS
     go_wp2
     go_ret
     rw [HN.Ab]
     exact ⟨rfl,H.to⟩
    |true=>
     rw [show Mx true=0 from rfl]
     by_cases hmem:m ∈ ms.take k
     ·have HN:Hid (EL ms=11):=by show _=_;rw [HE.Ab,HS.Ab,Ak hN,Ak hmem]
      have HF:=Aa (Yr b k (ms.take k) m wr aB (by omega) (H.map 0 rfl) hmem)
      clear HE HS hmem
      go_wp2_with fail
      refine HF.mono ?_;rintro e w2 ⟨rfl,hg2,hb2⟩
      replace H:=Aa (H.oO 0 rfl hg2 hb2);(try simp only [LS] at H)
      clear hg2 hb2 HF
      go_wp2
      go_ret
      rw [HN.Ab]
      exact ⟨rfl,H.to⟩
     ·have HN:Hid (EL ms=Fj (ms.take (k+1)) (ms.drop (k+1))):=by show _=_;rw [HE.Ab,HS.Ab,Ak hN,Ah hmem,Us.Ab]
      have HF:=Aa (Yt b k (ms.take k) m wr aB (by omega) (H.map 0 rfl) hmem)
      clear HE HS hmem
      go_wp2_with fail
      refine HF.mono ?_;rintro e w2 ⟨rfl,hg2,hm2⟩
      replace H:=Aa (H.xS 0 rfl hg2 hm2);(try simp only [LS] at H)
      rw [←Us.Ab] at H
      clear hg2 hm2 HF
      go_wp2
      go_roundg (n - (k+1))
      case rel=>exact ⟨k+1,rfl,by omega,by go_num,H,HN⟩
      case measure=>rw [Cg.Ab];omega
   ·have HN:Hid (EL ms=0):=by show _=_;rw [HE.Ab,EY (by have:=hlen.Ab;omega)];(try rfl)
    clear HE
    go_wp2
    go_ret
    rw [HN.Ab]
    exact ⟨rfl,H.to⟩
 ·have HE:Hid (EL ms=5):=by show _=_;unfold EL;rw [Ak (by have:=hlen.Ab;omega)]
  rcases (show n<1∨(1≤n∧3<n) by omega) with h|⟨h,h'⟩
  ·have d1:decide ((n:Int)<1)=true:=by simp<;>omega
   go_enter func136,ntmps136
   go_wp2
   go_ret
   rw [HE.Ab]
   exact ⟨rfl,Aj.refl _⟩
  ·have d1:decide ((n:Int)<1)=false:=by simp<;>omega
   have d2:decide ((3:Int)<n)=true:=by simp<;>omega
   go_enter func136,ntmps136
   go_wp2
   go_ret
   rw [HE.Ab]
   exact ⟨rfl,Aj.refl _⟩
theorem FM (s:Ev) (w:World) (hs:s.rd w) (hn:s.dm.n≤1000000) (hm:s.ms.n≤1000000) (hd:∀ d ∈ s.dm.l,d.tr.n≤1000000∧∀ t ∈ d.tr.l,t.up.n≤100000):
 Calls prog 91 #[.agg s.cs] w fun e w'=>e=.returned (.int .i64 (Ap s.Ac))∧Aj w w':=by
 have hlen:Hid (s.dm.l.length=s.dm.n):=hs.dm.len
 have HD:=Aa hs.dm
 have HMs:=Aa (fun w' (hb:Aj w w')=>Zj s.ms w' (hs.ms.mono hb) hm)
 have HDD:=Aa hd
 have hmm:=@run_makeMap prog
 have H:=Aa ((SL.start No w).alloc s.cs 25)
 (try simp only [LS] at H)
 obtain ⟨⟨A,n,c,ds⟩,⟨A2,n2,c2,ms⟩⟩:=s
 simp only [Ev.cs,Ev.Ac] at *
 clear hs hd
 by_cases hl:1≤n∧n≤16
 ·obtain ⟨hl1,hl2⟩:=hl
  have d1:decide ((n:Int)<1)=false:=by simp<;>omega
  have d2:decide ((16:Int)<n)=false:=by simp<;>omega
  have Kw:Hid (Ap ⟨ds.map Dm.Ac,ms⟩=if BN [] (ds.map Dm.Ac)≠0 then BN [] (ds.map Dm.Ac) else EL ms):=by show _=_;unfold Ap;simp only [Cq];rw [Ah (by have:=hlen.Ab;omega)]
  have HE:Hid (BN [] (ds.map Dm.Ac)=BN ((ds.map Dm.nm).take 0) ((ds.map Dm.Ac).drop 0)):=rfl
  replace H:=Aa (H.allocMap prog 9 (plainElem (H:=Unit) prog 3));(try simp only [LS] at H)
  rw [show Maps.setOf Ko []=Maps.setOf Ko (Ia ((ds.map Dm.nm).take 0)) from rfl] at H
  go_enter func91,ntmps91
  have c0:=(H.blk 0 rfl).Am 0
  go_wp2_with fail
  clear c0
  generalize w.heap.size+1=b at *
  generalize w.heap.size=x at *
  clear d1 d2
  go_loopg [21] n (fun gg i wr=>∃ k:Nat,gg=n - k∧k≤n∧i=.int .i64 k∧Hid (SL No w wr [Av x 25 #[.slice A n c,.slice A2 n2 c2],bU prog 9 (plainElem (H:=Unit) prog 3) b k (Maps.setOf Ko (Ia ((ds.map Dm.nm).take k)))])∧Hid (BN [] (ds.map Dm.Ac)=BN ((ds.map Dm.nm).take k) ((ds.map Dm.Ac).drop k)))
  case atStart=>exact ⟨0,rfl,by omega,rfl,H,HE⟩
  case round=>
   clear H HE
   obtain ⟨k,BG,hk,rfl,H,HE⟩:=hrel
   have Cg:=Aa BG
   clear BG
   by_cases hlt:k<n
   ·obtain ⟨bb,oo,d,hA,hbb,hdk,hdr,hrg⟩:=(HD.mono H.to).Ta (k:=k) hlt
    simp only at hA
    subst hA
    have uP:(ds.map Dm.Ac)[k]?=some d.Ac:=by rw [DD,hdk];(try rfl)
    have hdn:(ds.map Dm.nm)[k]?=some d.nm:=by rw [DD,hdk];(try rfl)
    have Jf:=Aa (Qd (seen:=(ds.map Dm.nm).take k) uP)
    have Us:=Aa (Ci hdn)
    have aB:=hdr.nm
    obtain ⟨hu1,hu2⟩:=HDD d (CE hdk)
    have HR:=Aa hrg
    have HRd:=Aa hdr
    have i0:(0:Int)≤k:=by omega
    have i1:(k:Int)<n:=by omega
    clear hdk hdr hrg uP hdn hbb
    go_wp2_with (first|((with_reducible refine OP 24 ?_);(refine Ae rfl Dl (.tmp 23) rfl bb (oo+k * 2) rfl d.cs rfl HR.Ab ?_))|((with_reducible refine OS 5 ?_);(refine Fu Dl (d.cs) (Zy d) ?_;replace H:=Aa (H.alloc (d.cs) 73);(try simp only [LS] at H)))|((with_reducible refine OP 25 ?_);(refine Cx Dl (H.blk 2 rfl) ?_)))
    refine (TW d _ (HRd.mono ((Aj.refl _).alloc _)) hu1 hu2).mono ?_;rintro e w1 ⟨rfl,hb1⟩
    replace H:=Aa (H.Au hb1)
    clear hb1
    by_cases hE0:Ba d.Ac=0
    ·rw [hE0]
     have c1:=(H.blk 2 rfl).Am 0
     by_cases hmem:d.nm ∈ (ds.map Dm.nm).take k
     ·have HN:Hid (Ap ⟨ds.map Dm.Ac,ms⟩=11):=by
       show _=_
       have h1:BN [] (ds.map Dm.Ac)=11:=by rw [HE.Ab,Jf.Ab,Ah (by omega),Ak hmem]
       rw [Kw.Ab,h1]
       rfl
      have HF:=Aa (Yr b k ((ds.map Dm.nm).take k) d.nm w1 aB (by omega) (H.map 1 rfl) hmem)
      clear HE Kw Jf hmem hE0
      go_wp2_with fail
      refine HF.mono ?_;rintro e w2 ⟨rfl,hg2,hb2⟩
      replace H:=Aa (H.oO 1 rfl hg2 hb2);(try simp only [LS] at H)
      clear hg2 hb2 HF c1
      go_wp2
      go_ret
      rw [HN.Ab]
      exact ⟨rfl,H.to⟩
     ·have HN:Hid (BN [] (ds.map Dm.Ac)=BN ((ds.map Dm.nm).take (k+1)) ((ds.map Dm.Ac).drop (k+1))):=by show _=_;rw [HE.Ab,Jf.Ab,Ah (by omega),Ah hmem,Us.Ab]
      have HF:=Aa (Yt b k ((ds.map Dm.nm).take k) d.nm w1 aB (by omega) (H.map 1 rfl) hmem)
      clear HE Jf hmem hE0
      go_wp2_with fail
      refine HF.mono ?_;rintro e w2 ⟨rfl,hg2,hm2⟩
      replace H:=Aa (H.xS 1 rfl hg2 hm2);(try simp only [LS] at H)
      replace H:=Aa (H.Gh [0,1] (by decide) (by simp));(try simp only [LS] at H)
      rw [←Us.Ab] at H
      clear hg2 hm2 HF c1
      go_wp2
      go_roundg (n - (k+1))
      case rel=>exact ⟨k+1,rfl,by omega,by go_num,H,HN⟩
      case measure=>rw [Cg.Ab];omega
    ·have HN:Hid (Ap ⟨ds.map Dm.Ac,ms⟩=Ba d.Ac):=by
      show _=_
      have h1:BN [] (ds.map Dm.Ac)=Ba d.Ac:=by rw [HE.Ab,Jf.Ab,Ak hE0]
      rw [Kw.Ab,h1,Ak hE0]
     have dE:(Ba d.Ac !=0)=true:=by simpa using hE0
     have dE2:(Ba d.Ac==0)=false:=by simpa using hE0
     clear HE Kw Jf hE0
     go_wp2
     go_ret
     rw [HN.Ab]
     exact ⟨rfl,H.to⟩
   ·have HN:Hid (Ap ⟨ds.map Dm.Ac,ms⟩=EL ms):=by
     show _=_
     have h1:BN [] (ds.map Dm.Ac)=0:=by rw [HE.Ab,EY (by have:=hlen.Ab;simp;omega)];(try rfl)
     rw [Kw.Ab,h1]
     rfl
    have c1:=(H.blk 0 rfl).Am 1
    clear HE Kw
    go_wp2_with fail
    refine (HMs _ H.to).mono ?_;rintro e w2 ⟨rfl,hb2⟩
    clear c1
    go_wp2
    go_ret
    rw [HN.Ab]
    exact ⟨rfl,H.to.trans hb2⟩
 ·have HE:Hid (Ap ⟨ds.map Dm.Ac,ms⟩=5):=by show _=_;unfold Ap;simp only [Cq];rw [Ak (by have:=hlen.Ab;omega)]
  have c0:=(H.blk 0 rfl).Am 0
  rcases (show n<1∨(1≤n∧16<n) by omega) with h|⟨h,h'⟩
  ·have d1:decide ((n:Int)<1)=true:=by simp<;>omega
   go_enter func91,ntmps91
   go_wp2
   go_ret
   rw [HE.Ab]
   exact ⟨rfl,H.to⟩
  ·have d1:decide ((n:Int)<1)=false:=by simp<;>omega
   have d2:decide ((16:Int)<n)=true:=by simp<;>omega
   go_enter func91,ntmps91
   go_wp2
   go_ret
   rw [HE.Ab]
   exact ⟨rfl,H.to⟩
end Go.Proofs.YtijplolmkcdflaaGreat
namespace Go.Proofs.YtijplolmkcdflaaGreat
open Tryz
open Go.RowKit
def Tm (names:List (List UInt8)) (j:Nat) (x:List UInt8):Prop:=∀ i,i<j→names[i]?≠some x
theorem Tm.zero {names:List (List UInt8)} {x:List UInt8}:Tm names 0 x:=fun i hi=>absurd hi (by omega)
theorem Tm.step {names:List (List UInt8)} {j:Nat} {x y:List UInt8} (h:Tm names j x) (hy:names[j]?=some y) (hne:(y==x)=false):Tm names (j+1) x:=by
 intro i hi
 rcases (show i<j∨i=j by omega) with h'|h'
 ·exact h i h'
 ·rw [h',hy]
  intro e
  injection e with e
  rw [e] at hne
  simp at hne
theorem Tm.all {names:List (List UInt8)} {k:Nat} {x:List UInt8} (h:Tm names k x):x ∉ names.take k:=by
 rw [Iz]
 rintro ⟨i,hi⟩
 by_cases hik:i<k
 ·rw [Gu hik] at hi
  exact h i hik hi
 ·rw [Gt (by simp;omega)] at hi
  cases hi
theorem oQ {names:List (List UInt8)} {j k:Nat} {x y:List UInt8} (hjk:j<k) (hy:names[j]?=some y) (he:(y==x)=true):x ∈ names.take k:=by
 rw [Iz]
 exact ⟨j,by rw [Gu hjk,hy];simpa using he⟩
theorem Rj (s:Ev) (w:World) (hs:s.rd w) (hn:s.dm.n≤1000000) (hm:s.ms.n≤1000000) (hd:∀ d ∈ s.dm.l,d.tr.n≤1000000):
 Calls prog 25 #[.agg s.cs] w fun e w'=>e=.returned (.int .i64 (Ap s.Ac))∧Aj w w':=by
 have hlen:Hid (s.dm.l.length=s.dm.n):=hs.dm.len
 have Qa:Hid (s.ms.l.length=s.ms.n):=hs.ms.len
 have HD:=Aa hs.dm
 have HMs:=Aa hs.ms
 have HDD:=Aa hd
 have H:=Aa ((SL.start No w).alloc s.cs 25)
 (try simp only [LS] at H)
 obtain ⟨⟨A,n,c,ds⟩,⟨A2,n2,c2,ms⟩⟩:=s
 simp only [Ev.cs,Ev.Ac] at *
 clear hs hd
 by_cases hl:1≤n∧n≤16
 ·obtain ⟨hl1,hl2⟩:=hl
  have d1:decide ((n:Int)<1)=false:=by simp<;>omega
  have d2:decide ((16:Int)<n)=false:=by simp<;>omega
  have Kw:Hid (Ap ⟨ds.map Dm.Ac,ms⟩=if BN [] (ds.map Dm.Ac)≠0 then BN [] (ds.map Dm.Ac) else EL ms):=by show _=_;unfold Ap;simp only [Cq];rw [Ah (by have:=hlen.Ab;omega)]
  have HE:Hid (BN [] (ds.map Dm.Ac)=BN ((ds.map Dm.nm).take 0) ((ds.map Dm.Ac).drop 0)):=rfl
  go_enter func25,ntmps25
  have c0:=(H.blk 0 rfl).Am 0
  go_wp2_with fail
  clear c0
  generalize w.heap.size=x at *
  clear d1 d2
  go_loopg [21] n (fun gg i wr=>∃ k:Nat,gg=n - k∧k≤n∧i=.int .i64 k∧Hid (SL No w wr [Av x 25 #[.slice A n c,.slice A2 n2 c2]])∧Hid (BN [] (ds.map Dm.Ac)=BN ((ds.map Dm.nm).take k) ((ds.map Dm.Ac).drop k)))
  case atStart=>exact ⟨0,rfl,by omega,rfl,H,HE⟩
  case round=>
   clear H HE
   obtain ⟨k,BG,hk,rfl,H,HE⟩:=hrel
   have Cg:=Aa BG
   clear BG
   by_cases hlt:k<n
   ·obtain ⟨bb,oo,d,hA,hbb,hdk,hdr,hrg⟩:=(HD.mono H.to).Ta (k:=k) hlt
    simp only at hA
    subst hA
    have uP:(ds.map Dm.Ac)[k]?=some d.Ac:=by rw [DD,hdk];(try rfl)
    have hdn:(ds.map Dm.nm)[k]?=some d.nm:=by rw [DD,hdk];(try rfl)
    have Jf:=Aa (Qd (seen:=(ds.map Dm.nm).take k) uP)
    have Us:=Aa (Ci hdn)
    have hu1:=HDD d (CE hdk)
    have HR:=Aa hrg
    have HDK:=Aa hdk
    have i0:(0:Int)≤k:=by omega
    have i1:(k:Int)<n:=by omega
    have c0:=(H.blk 0 rfl).Am 0
    clear hdk hrg uP hdn hbb
    go_wp2_with ((with_reducible refine OP 28 ?_);(refine Ae rfl Dl (.tmp 27) rfl bb (oo+k * 2) rfl d.cs rfl HR.Ab ?_))
    refine (fA d _ hdr hu1).mono ?_;rintro e w1 ⟨rfl,hb1⟩
    replace H:=Aa (H.Au hb1)
    clear hb1 hdr c0 HR
    by_cases hE0:Ba d.Ac=0
    ·rw [hE0]
     have nN:Hid (Tm (ds.map Dm.nm) 0 d.nm):=Tm.zero
     have HS2:Hid (BN [] (ds.map Dm.Ac)=if d.nm ∈ (ds.map Dm.nm).take k then 11 else BN ((ds.map Dm.nm).take (k+1)) ((ds.map Dm.Ac).drop (k+1))):=by show _=_;rw [HE.Ab,Jf.Ab,Ah (by omega),Us.Ab]
     clear HE Jf hE0
     go_wp2_with fail
     go_loopg [5] k (fun gg i wx=>∃ j:Nat,gg=k - j∧j≤k∧i=.int .i64 j∧Hid (SL No w wx [Av x 25 #[.slice (some ⟨bb,oo,none⟩) n c,.slice A2 n2 c2]])∧Hid (Tm (ds.map Dm.nm) j d.nm))
     case atStart=>exact ⟨0,rfl,by omega,rfl,H,nN⟩
     case round=>
      clear nN H
      obtain ⟨j,hgj,hj,rfl,H,nN⟩:=hrel
      have Kv:=Aa hgj
      clear hgj
      by_cases hjk:j<k
      ·obtain ⟨bb',oo',d',hA',hbb',hd',hdr',j4⟩:=(HD.mono H.to).Ta (k:=j) (by show j<n;omega)
       injection hA' with hA'
       injection hA' with hA1 hA2
       subst hA1 hA2
       have cj:=j4 0 _ rfl
       obtain ⟨bb',oo',d2,hA',hbb2,hd2,hdr2,hrg2⟩:=(HD.mono H.to).Ta (k:=k) hlt
       injection hA' with hA'
       injection hA' with hA1 hA2
       subst hA1 hA2
       rw [HDK.Ab] at hd2
       injection hd2 with hd2
       subst hd2
       have ck:=hrg2 0 _ rfl
       have c0:=(H.blk 0 rfl).Am 0
       simp only [Jk] at cj ck
       have gT:Hid ((ds.map Dm.nm)[j]?=some d'.nm):=by show _=_;rw [DD,hd'];(try rfl)
       have j0:(0:Int)≤j:=by omega
       have j1:(j:Int)<n:=by omega
       clear hd' j4 hdr' hbb' hbb2 hdr2 hrg2
       cases heq:(d'.nm==d.nm) with
       |true=>
        have HN:Hid (Ap ⟨ds.map Dm.Ac,ms⟩=11):=by
         show _=_
         have h1:BN [] (ds.map Dm.Ac)=11:=by rw [HS2.Ab,Ak (oQ hjk gT heq)]
         rw [Kw.Ab,h1]
         rfl
        clear HS2 Kw
        go_wp2_with fail
        go_quiet (fail)
        go_wp2
        go_ret
        rw [HN.Ab]
        exact ⟨rfl,(H.drewN _).to⟩
       |false=>
        have HN:=Aa (nN.step gT heq)
        go_wp2_with fail
        go_quiet (fail)
        go_wp2
        go_roundg (k - (j+1))
        case rel=>exact ⟨j+1,rfl,by omega,by go_num,H.drewN _,HN⟩
        case measure=>rw [Kv.Ab];omega
      ·have HN:Hid (BN [] (ds.map Dm.Ac)=BN ((ds.map Dm.nm).take (k+1)) ((ds.map Dm.Ac).drop (k+1))):=by
        show _=_
        obtain rfl:j=k:=by omega
        rw [HS2.Ab,Ah nN.all]
       clear HS2
       go_wp2_with fail
       go_roundg (n - (k+1))
       case rel=>exact ⟨k+1,rfl,by omega,by go_num,H,HN⟩
       case measure=>rw [Cg.Ab];omega
    ·have HN:Hid (Ap ⟨ds.map Dm.Ac,ms⟩=Ba d.Ac):=by
      show _=_
      have h1:BN [] (ds.map Dm.Ac)=Ba d.Ac:=by rw [HE.Ab,Jf.Ab,Ak hE0]
      rw [Kw.Ab,h1,Ak hE0]
     have dE:(Ba d.Ac !=0)=true:=by simpa using hE0
     have dE2:(Ba d.Ac==0)=false:=by simpa using hE0
     clear HE Kw Jf hE0
     go_wp2
     go_ret
     rw [HN.Ab]
     exact ⟨rfl,H.to⟩
   ·have Xb:Hid (Ap ⟨ds.map Dm.Ac,ms⟩=EL ms):=by
     show _=_
     have h1:BN [] (ds.map Dm.Ac)=0:=by rw [HE.Ab,EY (by have:=hlen.Ab;simp;omega)];(try rfl)
     rw [Kw.Ab,h1]
     rfl
    clear HE Kw
    have c1:=(H.blk 0 rfl).Am 1
    by_cases hl:1≤n2∧n2≤3
    ·obtain ⟨hl3,hl4⟩:=hl
     have d1:decide ((n2:Int)<1)=false:=by simp<;>omega
     have d2:decide ((3:Int)<n2)=false:=by simp<;>omega
     have HM:Hid (Ap ⟨ds.map Dm.Ac,ms⟩=Fj (ms.take 0) (ms.drop 0)):=by show _=_;rw [Xb.Ab];unfold EL;rw [Ah (by have:=Qa.Ab;omega)];(try rfl)
     clear Xb
     go_wp2_with fail
     clear c1 d1 d2
     go_loopg [65] n2 (fun gg i wr=>∃ k:Nat,gg=n2 - k∧k≤n2∧i=.int .i64 k∧Hid (SL No w wr [Av x 25 #[.slice A n c,.slice A2 n2 c2]])∧Hid (Ap ⟨ds.map Dm.Ac,ms⟩=Fj (ms.take k) (ms.drop k)))
     case atStart=>exact ⟨0,rfl,by omega,rfl,H,HM⟩
     case round=>
      clear H HM
      obtain ⟨k2,BG,hk2,rfl,H,HM⟩:=hrel
      have Cg:=Aa BG
      clear BG
      by_cases hlt2:k2<n2
      ·obtain ⟨bb,oo,m,hA,hmk,aB,hc⟩:=(HMs.mono H.to).FE (k:=k2) hlt2
       simp only at hA
       subst hA
       have Jf:=Aa (PY (seen:=ms.take k2) hmk)
       have Us:=Aa (Ci hmk)
       have HMK:=Aa hmk
       have i0:(0:Int)≤k2:=by omega
       have i1:(k2:Int)<n2:=by omega
       have c1:=(H.blk 0 rfl).Am 1
       clear hmk
       go_wp2_with fail
       refine (IC m _ (by omega)).mono ?_;rintro e w1 ⟨rfl,rfl⟩
       clear c1 hc
       cases hN:Cy m with
       |false=>
        have HN:Hid (Ap ⟨ds.map Dm.Ac,ms⟩=2):=by show _=_;rw [HM.Ab,Jf.Ab,hN];(try rfl)
        clear HM Jf
        go_wp2
        go_ret
        rw [HN.Ab]
        exact ⟨rfl,H.to⟩
       |true=>
        have nN:Hid (Tm ms 0 m):=Tm.zero
        have HS2:Hid (Ap ⟨ds.map Dm.Ac,ms⟩=if m ∈ ms.take k2 then 11 else Fj (ms.take (k2+1)) (ms.drop (k2+1))):=by show _=_;rw [HM.Ab,Jf.Ab,Ak hN,Us.Ab]
        clear HM Jf hN
        go_wp2_with fail
        go_loopg [7] k2 (fun gg i wx=>∃ j:Nat,gg=k2 - j∧j≤k2∧i=.int .i64 j∧Hid (SL No w wx [Av x 25 #[.slice A n c,.slice (some ⟨bb,oo,none⟩) n2 c2]])∧Hid (Tm ms j m))
        case atStart=>exact ⟨0,rfl,by omega,rfl,H,nN⟩
        case round=>
         clear nN H
         obtain ⟨j,hgj,hj,rfl,H,nN⟩:=hrel
         have Kv:=Aa hgj
         clear hgj
         by_cases hjk:j<k2
         ·obtain ⟨bb',oo',m',hA',hmj,hml',cj⟩:=(HMs.mono H.to).FE (k:=j) (by show j<n2;omega)
          injection hA' with hA'
          injection hA' with hA1 hA2
          subst hA1 hA2
          obtain ⟨bb',oo',m2,hA',hmk,hml2,ck⟩:=(HMs.mono H.to).FE (k:=k2) hlt2
          injection hA' with hA'
          injection hA' with hA1 hA2
          subst hA1 hA2
          rw [HMK.Ab] at hmk
          injection hmk with hmk
          subst hmk
          have c1:=(H.blk 0 rfl).Am 1
          have gT:=Aa hmj
          have j0:(0:Int)≤j:=by omega
          have j1:(j:Int)<n2:=by omega
          clear hmj
          cases heq:(m'==m) with
          |true=>
           have HN:Hid (Ap ⟨ds.map Dm.Ac,ms⟩=11):=by show _=_;rw [HS2.Ab,Ak (oQ hjk gT heq)]
           clear HS2
           go_wp2_with fail
           go_quiet (fail)
           go_wp2
           go_ret
           rw [HN.Ab]
           exact ⟨rfl,(H.drewN _).to⟩
          |false=>
           have HN:=Aa (nN.step gT heq)
           go_wp2_with fail
           go_quiet (fail)
           go_wp2
           go_roundg (k2 - (j+1))
           case rel=>exact ⟨j+1,rfl,by omega,by go_num,H.drewN _,HN⟩
           case measure=>rw [Kv.Ab];omega
         ·have HN:Hid (Ap ⟨ds.map Dm.Ac,ms⟩=Fj (ms.take (k2+1)) (ms.drop (k2+1))):=by
           show _=_
           obtain rfl:j=k2:=by omega
           rw [HS2.Ab,Ah nN.all]
          clear HS2
          go_wp2_with fail
          go_roundg (n2 - (k2+1))
          case rel=>exact ⟨k2+1,rfl,by omega,by go_num,H,HN⟩
          case measure=>rw [Cg.Ab];omega
      ·have HN:Hid (Ap ⟨ds.map Dm.Ac,ms⟩=0):=by show _=_;rw [HM.Ab,EY (by have:=Qa.Ab;omega)];(try rfl)
       clear HM
       go_wp2
       go_ret
       rw [HN.Ab]
       exact ⟨rfl,H.to⟩
    ·have HE:Hid (Ap ⟨ds.map Dm.Ac,ms⟩=5):=by show _=_;rw [Xb.Ab];unfold EL;rw [Ak (by have:=Qa.Ab;omega)]
     clear Xb
     rcases (show n2<1∨(1≤n2∧3<n2) by omega) with h|⟨h,h'⟩
     ·have d1:decide ((n2:Int)<1)=true:=by simp<;>omega
      go_wp2
      go_ret
      rw [HE.Ab]
      exact ⟨rfl,H.to⟩
     ·have d1:decide ((n2:Int)<1)=false:=by simp<;>omega
      have d2:decide ((3:Int)<n2)=true:=by simp<;>omega
      go_wp2
      go_ret
      rw [HE.Ab]
      exact ⟨rfl,H.to⟩
 ·have HE:Hid (Ap ⟨ds.map Dm.Ac,ms⟩=5):=by show _=_;unfold Ap;simp only [Cq];rw [Ak (by have:=hlen.Ab;omega)]
  have c0:=(H.blk 0 rfl).Am 0
  rcases (show n<1∨(1≤n∧16<n) by omega) with h|⟨h,h'⟩
  ·have d1:decide ((n:Int)<1)=true:=by simp<;>omega
   go_enter func25,ntmps25
   go_wp2
   go_ret
   rw [HE.Ab]
   exact ⟨rfl,H.to⟩
  ·have d1:decide ((n:Int)<1)=false:=by simp<;>omega
   have d2:decide ((16:Int)<n)=true:=by simp<;>omega
   go_enter func25,ntmps25
   go_wp2
   go_ret
   rw [HE.Ab]
   exact ⟨rfl,H.to⟩
abbrev BK {α:Type} (r:α→EE) (l:List α):EE:=⟨fun g=>∃ a,a ∈ l∧(r a).D g,fun w=>∀ a ∈ l,(r a).p w⟩
theorem Df {α:Type} (r:α→EE) (w:World):(BK r []).holds w:=⟨fun g ⟨a,ha,_⟩=>(by cases ha),fun w' _ _ a ha=>by cases ha⟩
theorem Bq {α:Type} {r:α→EE} {l:List α} {a:α} {w:World} (h1:(BK r l).holds w) (h2:(r a).holds w):(BK r (l++[a])).holds w:=by
 refine ⟨fun g ⟨u,hu,hg⟩=>?_,fun w' hs hk u hu=>?_⟩
 ·rcases DT.1 hu with hu|hu
  ·exact h1.1 g ⟨u,hu,hg⟩
  ·rw [Dt] at hu;subst hu;exact h2.1 g hg
 ·rcases DT.1 hu with hu'|hu'
  ·exact h1.2 w' hs (fun g ⟨v,hv,hg⟩=>hk g ⟨v,List.mem_append_left _ hv,hg⟩) u hu'
  ·rw [Dt] at hu';subst hu';exact h2.2 w' hs fun g hg=>hk g ⟨u,hu,hg⟩
theorem Co {α:Type} {r:α→EE} {l:List α} {a:α}:∀ g,(BK r (l++[a])).D g→(BK r l).D g∨(r a).D g:=fun g ⟨u,hu,hg⟩=>by
 rcases DT.1 hu with hu|hu
 ·exact .inl ⟨u,hu,hg⟩
 ·rw [Dt] at hu;subst hu;exact .inr hg
theorem Iy {α:Type} {r:α→EE} {P:Nat→Prop}:∀ g,(BK r []).D g→P g:=fun g ⟨a,ha,_⟩=>by cases ha
structure QU (s:Ev) (w:World):Prop where
 dm:w.ownsRow 0 73 2 (.slice s.dm.A s.dm.n s.dm.c) s.dm.n (s.dm.l.flatMap Ar.cells)
 ds:∀ d ∈ s.dm.l,Ui d w
 ms:w.ownsRow 0 9 1 (.slice s.ms.A s.ms.n s.ms.c) s.ms.n (s.ms.l.map tx)
 ml:∀ m ∈ s.ms.l,m.length≤12
 dn:s.dm.n≤16
 mn:s.ms.n≤3
def Ev.D (s:Ev) (g:Nat):Prop:=s.dm.v.ownBlock=some g∨(∃ d,d ∈ s.dm.l∧d.D g)∨s.ms.v.ownBlock=some g
abbrev KU (s:Ev):EE:=⟨s.D,QU s⟩
theorem QU.rd {s:Ev} {w:World} (h:QU s w):s.rd w:=
 ⟨⟨Rd.Bf h.dm,fun d hd=>(h.ds d hd).rd,by have:=h.dn;omega⟩,⟨by have:=Rd.Bf h.ms;rw [FQ];exact this,fun t ht=>by have:=h.ml t ht;show t.length≤_;omega,by have:=h.mn;omega⟩⟩
theorem QU.small {s:Ev} {w:World} (h:QU s w):∀ d ∈ s.dm.l,d.tr.n≤1000000∧∀ t ∈ d.tr.l,t.up.n≤100000:=fun d hd=>⟨by have:=(h.ds d hd).n4;omega,fun t ht=>by have:=(h.ds d hd).up t ht;omega⟩
theorem SV {A B:Option Addr} {n c m d:Nat} {ds:List Dm} {ms:List (List UInt8)} {w:World} (h1:(Cb 73 2 (.slice A n c) n (ds.flatMap Ar.cells)).holds w) (h2:(BK Xj ds).holds w) (h3:(Cb 9 1 (.slice B m d) m (ms.map tx)).holds w) (h4:∀ x ∈ ms,x.length≤12) (h5:n≤16) (h6:m≤3):(KU ⟨⟨A,n,c,ds⟩,⟨B,m,d,ms⟩⟩).holds w:=by
 refine ⟨?_,fun w' hs hk=>⟨h1.2 w' hs fun g hg=>hk g (.inl hg),h2.2 w' hs fun g hg=>hk g (.inr (.inl hg)),h3.2 w' hs fun g hg=>hk g (.inr (.inr hg)),h4,h5,h6⟩⟩
 rintro g (hg|hg|hg)
 ·exact h1.1 g hg
 ·exact h2.1 g hg
 ·exact h3.1 g hg
abbrev Ev.nil:Ev:=⟨⟨none,0,0,[]⟩,⟨none,0,0,[]⟩⟩
abbrev SC.nil:SC:=⟨[],[]⟩
theorem jJ (w:World):Ev.nil.rd w:=⟨Row.Ou w,Row.Ou w⟩
theorem JF (w:World):(KU Ev.nil).holds w:=SV (Gf (QW w 0 _ _)) (Df _ w) (Gf (QW w 0 _ _)) (by intro x hx;cases hx) (by omega) (by omega)
theorem Lm {m:Nat}:∀ g,(KU Ev.nil).D g→m≤g:=by
 rintro g (h|⟨T,hT,_⟩|h)
 ·simp [Row.v,Value.ownBlock] at h
 ·cases hT
 ·simp [Row.v,Value.ownBlock] at h
theorem UD (D:Dm):∀ u ∈ ([.string ⟨D.nm.toArray⟩,.slice D.tr.A D.tr.n D.tr.c]:List Value),u.oneCell'=true:=by simp [Value.oneCell']
abbrev rX (acc:List Dm) (A:Option Addr) (k c:Nat):EE:=⟨fun g=>(Cb 73 2 (.slice A k c) k (acc.flatMap Ar.cells)).D g∨(BK Xj acc).D g,fun w=>(Cb 73 2 (.slice A k c) k (acc.flatMap Ar.cells)).holds w∧(BK Xj acc).holds w⟩
theorem oV {acc:List Dm} {A:Option Addr} {k c:Nat} {w:World} (h1:(Cb 73 2 (.slice A k c) k (acc.flatMap Ar.cells)).holds w) (h2:(BK Xj acc).holds w):(rX acc A k c).holds w:=
 ⟨fun g hg=>hg.elim (h1.1 g) (h2.1 g),fun w' hs hk=>⟨h1.keep hs fun g hg=>hk g (.inl hg),h2.keep hs fun g hg=>hk g (.inr hg)⟩⟩
theorem P8 {acc:List Dm} {A:Option Addr} {k c:Nat} {w:World} (h:(rX acc A k c).holds w):(Cb 73 2 (.slice A k c) k (acc.flatMap Ar.cells)).holds w∧(BK Xj acc).holds w:=h.now
def V4 (b:Nat) (s:List UInt8) (o:PR SC) (w:World) (e:Ending) (w':World):Prop:=
 match o with
 |.error k=>Tj b s k w e w'
 |.ok (d,l)=>∃ D:Ev,e=.returned (.agg D.cs)∧D.Ac=d∧w.grownBy w' (some b)∧Gb w' b s l∧Uq w w' (KU D)
theorem bB (b:Nat) (s l:List UInt8) (w:World) (hR:Gb w b s l):
 Calls prog 90 #[.pointer (some ⟨b,0,none⟩)] w (V4 b s (KW l) w):=by
 have hbw:=hR.lt
 have H:=Aa (((SL.O3 w hR).alloc #[.slice none 0 0,.slice none 0 0] 25).alloc #[.slice none 0 0,.slice none 0 0] 25)
 (try simp only [LS] at H)
 clear hR
 go_enter func90,ntmps90
 go_wp2_with fail
 generalize w.heap.size+1=y at *
 generalize w.heap.size=z at *
 generalize World.alloc (World.alloc _ _) _=w1 at *
 have HT:=Aa (Gp b s l 16 w1 (H.EN 0 rfl) (by omega) (by omega))
 cases hx:Et 16 l with
 |error k=>
  have HE:Hid (KW l=.error k):=by show _=_;unfold KW;rw [hx]
  rw [hx] at HT
  clear hx
  refine HT.mono ?_;rintro e w2 ⟨rfl,hg,l1,hr⟩
  replace H:=Aa (H.BP 0 rfl hg hr);(try simp only [LS] at H)
  clear hg hr
  go_wp2_with fail
  refine ⟨rfl,?_⟩
  rw [HE.Ab]
  exact ⟨rfl,H.fr.grown,l1,H.EN 0 rfl⟩
 |ok q=>
  obtain ⟨n,l1⟩:=q
  have hn16:=(Ex hx).2.1
  have HE:Hid (KW l=bX (AX Gi n [] l1)):=by show _=_;unfold KW;rw [hx]
  rw [hx] at HT
  clear hx
  refine HT.mono ?_;rintro e w2 ⟨rfl,hg,hr⟩
  replace H:=Aa (H.BP 0 rfl hg hr);(try simp only [LS] at H)
  clear hg hr HT
  replace H:=Aa (H.ES 73 2);(try simp only [LS] at H)
  replace H:=Aa (H.add (Aj.refl _) (BK Xj []) (Df _ _) Iy);(try simp only [LS] at H)
  go_wp2_with fail
  have HP:Hid (AX Gi n [] l1=AX Gi (n - 0) (([]:List Dm).map Dm.Ac) l1):=rfl
  go_loopg [7] n (fun gg s7 wr=>∃ (k:Nat) (acc:List Dm) (A:Option Addr) (c:Nat) (l':List UInt8),gg=n - k∧k≤n∧s7=.int .i64 k∧Hid (acc.length=k)∧Hid (SL (One b) w wr [MW b s l',Av z 25 #[.slice none 0 0,.slice none 0 0],Av y 25 #[.slice A k c,.slice none 0 0],Cb 73 2 (.slice A k c) k (acc.flatMap Ar.cells),BK Xj acc])∧Hid (AX Gi n [] l1=AX Gi (n - k) (acc.map Dm.Ac) l'))
  case atStart=>exact ⟨0,[],none,0,l1,rfl,by omega,rfl,rfl,H,HP⟩
  case round=>
   clear H HP
   obtain ⟨k,acc,A,c,l',BG,hk,rfl,hac,H,HP⟩:=hrel
   have Cg:=Aa BG
   have hk16:k≤16:=by omega
   clear BG
   by_cases hlt:k<n
   ·have HN:=Aa (HP.trans (Ir hlt))
    have HA:=Aa (fun w (hr:Gb w b s l')=>mH b s l' w hr)
    clear HP
    go_upto_region 4 with fail
    cases hx:Gi l' with
    |error e1=>
     rw [hx] at HA HN
     clear hx
     refine EG (S:=fun _=>True) (by kernel_rfl) trivial fun hHeld=>?_
     replace H:=Aa (H.drew)
     refine BJ NG ?_
     refine BJ NW ?_
     refine NV KG KF (fun KK Ad=>?_) fun KK Ad=>?_
     ·have c1:=(H.blk 2 rfl).Am 0
      go_simp
      clear c1
      refine Ai Ad trivial fun hHeld=>?_
      clear Ad KK
      refine BD KF fun KK Ad=>?_
      go_simp
      refine (HA _ (H.EN 0 rfl)).mono ?_;rintro e' w3 ⟨rfl,hg3,l3,hr3⟩
      replace H:=Aa (H.BP 0 rfl hg3 hr3);(try simp only [LS] at H)
      refine ⟨rfl,?_⟩
      rw [HE.Ab,show AX Gi n [] l1=.error e1 from HN.Ab]
      exact ⟨rfl,H.fr.grown,l3,H.EN 0 rfl⟩
     ·go_simp
      refine (HA _ (H.EN 0 rfl)).mono ?_;rintro e' w3 ⟨rfl,hg3,l3,hr3⟩
      replace H:=Aa (H.BP 0 rfl hg3 hr3);(try simp only [LS] at H)
      refine ⟨rfl,?_⟩
      rw [HE.Ab,show AX Gi n [] l1=.error e1 from HN.Ab]
      exact ⟨rfl,H.fr.grown,l3,H.EN 0 rfl⟩
    |ok q=>
     obtain ⟨dc,l3⟩:=q
     rw [hx] at HA HN
     have HN:Hid (AX Gi n [] l1=AX Gi (n - (k+1)) (acc.map Dm.Ac++[dc]) l3):=HN.Ab
     clear hx
     refine EG (S:=fun _=>True) (by kernel_rfl) trivial fun hHeld=>?_
     replace H:=Aa (H.drew)
     refine BJ NG ?_
     refine BJ NW ?_
     refine NV KG KF (fun KK Ad=>?_) fun KK Ad=>?_
     ·have c1:=(H.blk 2 rfl).Am 0
      go_simp
      clear c1
      refine Ai Ad trivial fun hHeld=>?_
      clear Ad KK
      refine BD KF fun KK Ad=>?_
      go_simp
      refine (HA _ (H.EN 0 rfl)).mono ?_;rintro e' w3 ⟨D,rfl,Gg,hg3,hr3,hnew⟩
      replace H:=Aa (H.Gc 0 rfl hg3 hr3 (Xj D) hnew.1 hnew.2);(try simp only [LS] at H)
      have NY:=Aa Gg
      clear hg3 hr3 hnew Gg
      refine Ai Ad trivial fun hHeld=>?_
      clear Ad KK
      refine BD Mr fun KK Ad=>?_
      refine Bc rfl iB (.tmp 12) rfl (D.cs) rfl rfl (by omega) ?_
      replace H:=Aa (H.CJ ((Aj.refl _).alloc _) (Dc _ 73 (D.cs) _ rfl));(try simp only [LS] at H)
      refine Ai Ad trivial fun hHeld=>?_
      clear Ad KK
      refine BD Lv fun KK Ad=>?_
      refine Aw rfl (.tmp 10) (.tmp 13) _ rfl iB 0 (Bw _) _ k _ rfl (H.row 3 rfl) _ 1 1 _ rfl (Rd.Bf (H.row 6 rfl)) (UD D) (by unfold maxLen;omega) (by omega) ?_
      intro vq wq AR Ay Bb
      replace H:=Aa (H.setRow 3 rfl Ay AR Bb);(try simp only [LS] at H)
      clear AR Ay Bb
      obtain ⟨A2,c2,rfl,_⟩:=Ao (H.row 3 rfl)
      refine Ai Ad trivial fun hHeld=>?_
      clear Ad KK
      refine BD Mq fun KK Ad=>?_
      go_simp
      refine Ai Ad trivial fun hHeld=>?_
      clear Ad KK
      refine BD LX fun KK Ad=>?_
      have c1:=(H.blk 2 rfl).Am 0;have f1:=(H.blk 2 rfl).frozen 0
      go_simp
      replace H:=Aa (H.setCell 2 rfl 0 (.slice A2 (k+1) c2));(try simp only [LS] at H)
      clear c1 f1
      refine Ai Ad trivial fun hHeld=>?_
      clear Ad KK
      refine BX ?_
      clear hHeld
      replace H:=Aa (H.both 4 5 (by omega) rfl rfl (BK Xj (acc++[D])) (Bq (H.get 4 rfl) (H.get 5 rfl)) Co);(try simp only [LS] at H)
      replace H:=Aa (H.Gh [0,1,2,3,4] (by decide) (by simp));(try simp only [LS] at H)
      have Il:Hid (AX Gi n [] l1=AX Gi (n - (k+1)) ((acc++[D]).map Dm.Ac) l3):=by show _=_;rw [HN.Ab,BR,DI,EF,NY.Ab]
      go_wp2_with fail
      go_roundg (n - (k+1))
      case rel=>exact ⟨k+1,acc++[D],A2,c2,l3,rfl,by omega,by go_num,by show _=_;rw [BQ,hac.Ab];(try rfl),by rw [FD,CY,IM,EZ];exact H,Il⟩
      case measure=>rw [Cg.Ab];omega
     ·go_simp
      refine (HA _ (H.EN 0 rfl)).mono ?_;rintro e' w3 ⟨D,rfl,Gg,hg3,hr3,hnew⟩
      replace H:=Aa (H.Gc 0 rfl hg3 hr3 (Xj D) hnew.1 hnew.2);(try simp only [LS] at H)
      have NY:=Aa Gg
      clear hg3 hr3 hnew Gg
      refine Ai Ad trivial fun hHeld=>?_
      clear Ad KK
      refine NV KG Mr (fun KK Ad=>?_) fun KK Ad=>?_
      ·have c1:=(H.blk 2 rfl).Am 0
       go_simp
       clear c1
       refine Ai Ad trivial fun hHeld=>?_
       clear Ad KK
       refine BD Mr fun KK Ad=>?_
       refine Bc rfl iB (.tmp 12) rfl (D.cs) rfl rfl (by omega) ?_
       replace H:=Aa (H.CJ ((Aj.refl _).alloc _) (Dc _ 73 (D.cs) _ rfl));(try simp only [LS] at H)
       refine Ai Ad trivial fun hHeld=>?_
       clear Ad KK
       refine BD Lv fun KK Ad=>?_
       refine Aw rfl (.tmp 10) (.tmp 13) _ rfl iB 0 (Bw _) _ k _ rfl (H.row 3 rfl) _ 1 1 _ rfl (Rd.Bf (H.row 6 rfl)) (UD D) (by unfold maxLen;omega) (by omega) ?_
       intro vq wq AR Ay Bb
       replace H:=Aa (H.setRow 3 rfl Ay AR Bb);(try simp only [LS] at H)
       clear AR Ay Bb
       obtain ⟨A2,c2,rfl,_⟩:=Ao (H.row 3 rfl)
       refine Ai Ad trivial fun hHeld=>?_
       clear Ad KK
       refine BD Mq fun KK Ad=>?_
       go_simp
       refine Ai Ad trivial fun hHeld=>?_
       clear Ad KK
       refine BD LX fun KK Ad=>?_
       have c1:=(H.blk 2 rfl).Am 0;have f1:=(H.blk 2 rfl).frozen 0
       go_simp
       replace H:=Aa (H.setCell 2 rfl 0 (.slice A2 (k+1) c2));(try simp only [LS] at H)
       clear c1 f1
       refine Ai Ad trivial fun hHeld=>?_
       clear Ad KK
       refine BX ?_
       clear hHeld
       replace H:=Aa (H.both 4 5 (by omega) rfl rfl (BK Xj (acc++[D])) (Bq (H.get 4 rfl) (H.get 5 rfl)) Co);(try simp only [LS] at H)
       replace H:=Aa (H.Gh [0,1,2,3,4] (by decide) (by simp));(try simp only [LS] at H)
       have Il:Hid (AX Gi n [] l1=AX Gi (n - (k+1)) ((acc++[D]).map Dm.Ac) l3):=by show _=_;rw [HN.Ab,BR,DI,EF,NY.Ab]
       go_wp2_with fail
       go_roundg (n - (k+1))
       case rel=>exact ⟨k+1,acc++[D],A2,c2,l3,rfl,by omega,by go_num,by show _=_;rw [BQ,hac.Ab];(try rfl),by rw [FD,CY,IM,EZ];exact H,Il⟩
       case measure=>rw [Cg.Ab];omega
      ·refine Bc rfl iB (.tmp 12) rfl (D.cs) rfl rfl (by omega) ?_
       replace H:=Aa (H.CJ ((Aj.refl _).alloc _) (Dc _ 73 (D.cs) _ rfl));(try simp only [LS] at H)
       refine Ai Ad trivial fun hHeld=>?_
       clear Ad KK
       refine BD KG fun KK Ad=>?_
       have c1:=(H.blk 2 rfl).Am 0
       go_simp
       clear c1
       refine Ai Ad trivial fun hHeld=>?_
       clear Ad KK
       refine BD Lv fun KK Ad=>?_
       refine Aw rfl (.tmp 10) (.tmp 13) _ rfl iB 0 (Bw _) _ k _ rfl (H.row 3 rfl) _ 1 1 _ rfl (Rd.Bf (H.row 6 rfl)) (UD D) (by unfold maxLen;omega) (by omega) ?_
       intro vq wq AR Ay Bb
       replace H:=Aa (H.setRow 3 rfl Ay AR Bb);(try simp only [LS] at H)
       clear AR Ay Bb
       obtain ⟨A2,c2,rfl,_⟩:=Ao (H.row 3 rfl)
       refine Ai Ad trivial fun hHeld=>?_
       clear Ad KK
       refine BD Mq fun KK Ad=>?_
       go_simp
       refine Ai Ad trivial fun hHeld=>?_
       clear Ad KK
       refine BD LX fun KK Ad=>?_
       have c1:=(H.blk 2 rfl).Am 0;have f1:=(H.blk 2 rfl).frozen 0
       go_simp
       replace H:=Aa (H.setCell 2 rfl 0 (.slice A2 (k+1) c2));(try simp only [LS] at H)
       clear c1 f1
       refine Ai Ad trivial fun hHeld=>?_
       clear Ad KK
       refine BX ?_
       clear hHeld
       replace H:=Aa (H.both 4 5 (by omega) rfl rfl (BK Xj (acc++[D])) (Bq (H.get 4 rfl) (H.get 5 rfl)) Co);(try simp only [LS] at H)
       replace H:=Aa (H.Gh [0,1,2,3,4] (by decide) (by simp));(try simp only [LS] at H)
       have Il:Hid (AX Gi n [] l1=AX Gi (n - (k+1)) ((acc++[D]).map Dm.Ac) l3):=by show _=_;rw [HN.Ab,BR,DI,EF,NY.Ab]
       go_wp2_with fail
       go_roundg (n - (k+1))
       case rel=>exact ⟨k+1,acc++[D],A2,c2,l3,rfl,by omega,by go_num,by show _=_;rw [BQ,hac.Ab];(try rfl),by rw [FD,CY,IM,EZ];exact H,Il⟩
       case measure=>rw [Cg.Ab];omega
   ·have Xb:Hid (KW l=Vz (acc.map Dm.Ac) l'):=by show _=_;rw [HE.Ab,HP.Ab,show n - k=0 by omega];(try rfl)
    clear HP HE
    have HT:=Aa (fun w (hr:Gb w b s l')=>Gp b s l' 3 w hr (by omega) (by omega))
    go_wp2_with fail
    cases hx:Et 3 l' with
    |error e1=>
     have HE:Hid (KW l=.error e1):=by show _=_;rw [Xb.Ab];unfold Vz;rw [hx]
     rw [hx] at HT
     clear hx Xb
     refine (HT _ (H.EN 0 rfl)).mono ?_;rintro e w2 ⟨rfl,hg,l3,hr⟩
     replace H:=Aa (H.BP 0 rfl hg hr);(try simp only [LS] at H)
     clear hg hr
     go_wp2_with fail
     refine ⟨rfl,?_⟩
     rw [HE.Ab]
     exact ⟨rfl,H.fr.grown,l3,H.EN 0 rfl⟩
    |ok q=>
     obtain ⟨m,l2⟩:=q
     have hm3:=(Ex hx).2.1
     have HE:Hid (KW l=bW (acc.map Dm.Ac) (AX (Eg 12) m [] l2)):=by show _=_;rw [Xb.Ab];unfold Vz;rw [hx]
     rw [hx] at HT
     clear hx Xb
     refine (HT _ (H.EN 0 rfl)).mono ?_;rintro e w2 ⟨rfl,hg,hr⟩
     replace H:=Aa (H.BP 0 rfl hg hr);(try simp only [LS] at H)
     clear hg hr HT
     replace H:=Aa (H.ES 9 1);(try simp only [LS] at H)
     go_wp2_with fail
     have HP:Hid (AX (Eg 12) m [] l2=AX (Eg 12) (m - 0) [] l2):=rfl
     have qD:Hid (∀ x ∈ ([]:List (List UInt8)),x.length≤12):=by show ∀ x ∈ ([]:List (List UInt8)),_;intro x hx;cases hx
     go_loopg [19] m (fun gg s19 wr=>∃ (j:Nat) (ms:List (List UInt8)) (B:Option Addr) (d:Nat) (l':List UInt8),gg=m - j∧j≤m∧s19=.int .i64 j∧Hid (ms.length=j)∧Hid (∀ x ∈ ms,x.length≤12)∧Hid (SL (One b) w wr [MW b s l',Av z 25 #[.slice none 0 0,.slice none 0 0],Av y 25 #[.slice A k c,.slice B j d],Cb 73 2 (.slice A k c) k (acc.flatMap Ar.cells),BK Xj acc,Cb 9 1 (.slice B j d) j (ms.map tx)])∧Hid (AX (Eg 12) m [] l2=AX (Eg 12) (m - j) ms l'))
     case atStart=>exact ⟨0,[],none,0,l2,rfl,by omega,rfl,rfl,qD,H,HP⟩
     case round=>
      clear H HP qD
      obtain ⟨j,ms,B,d,l',hgj,hj,rfl,hmc,qD,H,HP⟩:=hrel
      have Kv:=Aa hgj
      have hj3:j≤3:=by omega
      clear hgj
      by_cases hlt2:j<m
      ·have HN:=Aa (HP.trans (Ir hlt2))
       have HA:=Aa (fun w (hr:Gb w b s l')=>KQ b s l' 12 w hr (by omega) (by omega))
       clear HP
       go_upto_region 8 with fail
       cases hx:Eg 12 l' with
       |error e1=>
        rw [hx] at HA HN
        clear hx
        refine EG (S:=fun _=>True) (by kernel_rfl) trivial fun hHeld=>?_
        replace H:=Aa (H.drew)
        refine BJ NG ?_
        refine BJ NW ?_
        refine NV KG KF (fun KK Ad=>?_) fun KK Ad=>?_
        ·have c1:=(H.blk 2 rfl).Am 1
         go_simp
         clear c1
         refine Ai Ad trivial fun hHeld=>?_
         clear Ad KK
         refine BD KF fun KK Ad=>?_
         go_simp
         refine (HA _ (H.EN 0 rfl)).mono ?_;rintro e' w3 ⟨rfl,hg3,l3,hr3⟩
         replace H:=Aa (H.BP 0 rfl hg3 hr3);(try simp only [LS] at H)
         refine ⟨rfl,?_⟩
         rw [HE.Ab,show AX (Eg 12) m [] l2=.error e1 from HN.Ab]
         exact ⟨rfl,H.fr.grown,l3,H.EN 0 rfl⟩
        ·go_simp
         refine (HA _ (H.EN 0 rfl)).mono ?_;rintro e' w3 ⟨rfl,hg3,l3,hr3⟩
         replace H:=Aa (H.BP 0 rfl hg3 hr3);(try simp only [LS] at H)
         refine ⟨rfl,?_⟩
         rw [HE.Ab,show AX (Eg 12) m [] l2=.error e1 from HN.Ab]
         exact ⟨rfl,H.fr.grown,l3,H.EN 0 rfl⟩
       |ok q=>
        obtain ⟨x,l3⟩:=q
        have hx12:=(MX hx).1
        have HML2:Hid (∀ y ∈ ms++[x],y.length≤12):=by
         intro y hy
         rcases DT.1 hy with hy|hy
         ·exact qD y hy
         ·rw [Dt] at hy;subst hy;omega
        rw [hx] at HA HN
        have HN:Hid (AX (Eg 12) m [] l2=AX (Eg 12) (m - (j+1)) (ms++[x]) l3):=HN.Ab
        clear hx
        refine EG (S:=fun _=>True) (by kernel_rfl) trivial fun hHeld=>?_
        replace H:=Aa (H.drew)
        refine BJ NG ?_
        refine BJ NW ?_
        refine NV KG KF (fun KK Ad=>?_) fun KK Ad=>?_
        ·have c1:=(H.blk 2 rfl).Am 1
         go_simp
         clear c1
         refine Ai Ad trivial fun hHeld=>?_
         clear Ad KK
         refine BD KF fun KK Ad=>?_
         go_simp
         refine (HA _ (H.EN 0 rfl)).mono ?_;rintro e' w3 ⟨rfl,hg3,hr3⟩
         replace H:=Aa (H.BP 0 rfl hg3 hr3);(try simp only [LS] at H)
         clear hg3 hr3
         refine Ai Ad trivial fun hHeld=>?_
         clear Ad KK
         refine BD Mr fun KK Ad=>?_
         refine Bu rfl JC (.tmp 24) rfl (.string ⟨x.toArray⟩) rfl #[.string ⟨x.toArray⟩] rfl rfl (by omega) ?_
         replace H:=Aa (H.alloc #[.string ⟨x.toArray⟩] 9);(try simp only [LS] at H)
         refine Ai Ad trivial fun hHeld=>?_
         clear Ad KK
         refine BD Lv fun KK Ad=>?_
         refine Aw rfl (.tmp 22) (.tmp 25) _ rfl JC 0 (Bw _) _ j _ rfl (H.row 5 rfl) _ 1 1 _ rfl (AQ (H.blk 6 rfl) rfl) (by simp [Value.oneCell']) (by unfold maxLen;omega) (by omega) ?_
         intro vq wq AR Ay Bb
         replace H:=Aa (H.setRow 5 rfl Ay AR Bb);(try simp only [LS] at H)
         clear AR Ay Bb
         obtain ⟨B2,d2,rfl,_⟩:=Ao (H.row 5 rfl)
         refine Ai Ad trivial fun hHeld=>?_
         clear Ad KK
         refine BD Mq fun KK Ad=>?_
         go_simp
         refine Ai Ad trivial fun hHeld=>?_
         clear Ad KK
         refine BD LX fun KK Ad=>?_
         have c1:=(H.blk 2 rfl).Am 1;have f1:=(H.blk 2 rfl).frozen 1
         go_simp
         replace H:=Aa (H.setCell 2 rfl 1 (.slice B2 (j+1) d2));(try simp only [LS] at H)
         clear c1 f1
         refine Ai Ad trivial fun hHeld=>?_
         clear Ad KK
         refine BX ?_
         clear hHeld
         replace H:=Aa (H.Gh [0,1,2,3,4,5] (by decide) (by simp));(try simp only [LS] at H)
         go_wp2_with fail
         go_roundg (m - (j+1))
         case rel=>exact ⟨j+1,ms++[x],B2,d2,l3,rfl,by omega,by go_num,by show _=_;rw [BQ,hmc.Ab];(try rfl),HML2,by rw [BR];exact H,HN⟩
         case measure=>rw [Kv.Ab];omega
        ·go_simp
         refine (HA _ (H.EN 0 rfl)).mono ?_;rintro e' w3 ⟨rfl,hg3,hr3⟩
         replace H:=Aa (H.BP 0 rfl hg3 hr3);(try simp only [LS] at H)
         clear hg3 hr3
         refine Ai Ad trivial fun hHeld=>?_
         clear Ad KK
         refine NV KG Mr (fun KK Ad=>?_) fun KK Ad=>?_
         ·have c1:=(H.blk 2 rfl).Am 1
          go_simp
          clear c1
          refine Ai Ad trivial fun hHeld=>?_
          clear Ad KK
          refine BD Mr fun KK Ad=>?_
          refine Bu rfl JC (.tmp 24) rfl (.string ⟨x.toArray⟩) rfl #[.string ⟨x.toArray⟩] rfl rfl (by omega) ?_
          replace H:=Aa (H.alloc #[.string ⟨x.toArray⟩] 9);(try simp only [LS] at H)
          refine Ai Ad trivial fun hHeld=>?_
          clear Ad KK
          refine BD Lv fun KK Ad=>?_
          refine Aw rfl (.tmp 22) (.tmp 25) _ rfl JC 0 (Bw _) _ j _ rfl (H.row 5 rfl) _ 1 1 _ rfl (AQ (H.blk 6 rfl) rfl) (by simp [Value.oneCell']) (by unfold maxLen;omega) (by omega) ?_
          intro vq wq AR Ay Bb
          replace H:=Aa (H.setRow 5 rfl Ay AR Bb);(try simp only [LS] at H)
          clear AR Ay Bb
          obtain ⟨B2,d2,rfl,_⟩:=Ao (H.row 5 rfl)
          refine Ai Ad trivial fun hHeld=>?_
          clear Ad KK
          refine BD Mq fun KK Ad=>?_
          go_simp
          refine Ai Ad trivial fun hHeld=>?_
          clear Ad KK
          refine BD LX fun KK Ad=>?_
          have c1:=(H.blk 2 rfl).Am 1;have f1:=(H.blk 2 rfl).frozen 1
          go_simp
          replace H:=Aa (H.setCell 2 rfl 1 (.slice B2 (j+1) d2));(try simp only [LS] at H)
          clear c1 f1
          refine Ai Ad trivial fun hHeld=>?_
          clear Ad KK
          refine BX ?_
          clear hHeld
          replace H:=Aa (H.Gh [0,1,2,3,4,5] (by decide) (by simp));(try simp only [LS] at H)
          go_wp2_with fail
          go_roundg (m - (j+1))
          case rel=>exact ⟨j+1,ms++[x],B2,d2,l3,rfl,by omega,by go_num,by show _=_;rw [BQ,hmc.Ab];(try rfl),HML2,by rw [BR];exact H,HN⟩
          case measure=>rw [Kv.Ab];omega
         ·refine Bu rfl JC (.tmp 24) rfl (.string ⟨x.toArray⟩) rfl #[.string ⟨x.toArray⟩] rfl rfl (by omega) ?_
          replace H:=Aa (H.alloc #[.string ⟨x.toArray⟩] 9);(try simp only [LS] at H)
          refine Ai Ad trivial fun hHeld=>?_
          clear Ad KK
          refine BD KG fun KK Ad=>?_
          have c1:=(H.blk 2 rfl).Am 1
          go_simp
          clear c1
          refine Ai Ad trivial fun hHeld=>?_
          clear Ad KK
          refine BD Lv fun KK Ad=>?_
          refine Aw rfl (.tmp 22) (.tmp 25) _ rfl JC 0 (Bw _) _ j _ rfl (H.row 5 rfl) _ 1 1 _ rfl (AQ (H.blk 6 rfl) rfl) (by simp [Value.oneCell']) (by unfold maxLen;omega) (by omega) ?_
          intro vq wq AR Ay Bb
          replace H:=Aa (H.setRow 5 rfl Ay AR Bb);(try simp only [LS] at H)
          clear AR Ay Bb
          obtain ⟨B2,d2,rfl,_⟩:=Ao (H.row 5 rfl)
          refine Ai Ad trivial fun hHeld=>?_
          clear Ad KK
          refine BD Mq fun KK Ad=>?_
          go_simp
          refine Ai Ad trivial fun hHeld=>?_
          clear Ad KK
          refine BD LX fun KK Ad=>?_
          have c1:=(H.blk 2 rfl).Am 1;have f1:=(H.blk 2 rfl).frozen 1
          go_simp
          replace H:=Aa (H.setCell 2 rfl 1 (.slice B2 (j+1) d2));(try simp only [LS] at H)
          clear c1 f1
          refine Ai Ad trivial fun hHeld=>?_
          clear Ad KK
          refine BX ?_
          clear hHeld
          replace H:=Aa (H.Gh [0,1,2,3,4,5] (by decide) (by simp));(try simp only [LS] at H)
          go_wp2_with fail
          go_roundg (m - (j+1))
          case rel=>exact ⟨j+1,ms++[x],B2,d2,l3,rfl,by omega,by go_num,by show _=_;rw [BQ,hmc.Ab];(try rfl),HML2,by rw [BR];exact H,HN⟩
          case measure=>rw [Kv.Ab];omega
      ·have HN:Hid (KW l=VB ⟨acc.map Dm.Ac,ms⟩ l'):=by show _=_;rw [HE.Ab,HP.Ab,show m - j=0 by omega];(try rfl)
       clear HP HE
       replace H:=Aa (H.both 3 4 (by omega) rfl rfl (rX acc A k c) (oV (H.get 3 rfl) (H.get 4 rfl)) (fun g hg=>hg));(try simp only [LS] at H)
       replace H:=Aa (H.both 3 4 (by omega) rfl rfl (KU ⟨⟨A,k,c,acc⟩,⟨B,j,d,ms⟩⟩) (SV (P8 (H.get 3 rfl)).1 (P8 (H.get 3 rfl)).2 (H.get 4 rfl) qD hk16 hj3) (fun g hg=>hg.elim (fun h=>.inl (.inl h)) (fun h=>h.elim (fun h=>.inl (.inr h)) .inr)));(try simp only [LS] at H)
       obtain ⟨D,hD⟩:∃ D:Ev,D=⟨⟨A,k,c,acc⟩,⟨B,j,d,ms⟩⟩:=⟨_,rfl⟩
       have hDs:D.cs=#[.slice A k c,.slice B j d]:=by rw [hD]
       have Gg:D.Ac=⟨acc.map Dm.Ac,ms⟩:=by rw [hD]
       rw [←hD,←hDs] at H
       rw [←Gg] at HN
       clear hD hDs Gg
       go_wp2_with ((with_reducible refine OP 29 ?_);(refine Cx BL (H.blk 2 rfl) ?_))
       refine (FM D _ (H.at_ 3 rfl).rd (by have:=(H.at_ 3 rfl).dn;omega) (by have:=(H.at_ 3 rfl).mn;omega) (H.at_ 3 rfl).small).mono ?_;rintro e w5 ⟨rfl,hb5⟩
       replace H:=Aa (H.Au hb5)
       clear hb5
       by_cases hE0:Ap D.Ac=0
       ·have Il:Hid (KW l=.ok (D.Ac,l')):=by show _=_;rw [HN.Ab];unfold VB;rw [Ak hE0]
        rw [hE0]
        clear hE0 HN
        go_wp2_with fail
        refine (KP b s l' 0 _ (H.EN 0 rfl)).mono ?_;rintro e w6 ⟨rfl,rfl⟩
        go_wp2_with (first|((with_reducible refine OP 36 ?_);(refine Cx BL (H.blk 2 rfl) ?_))|((with_reducible refine OS 2 ?_);(refine Ec BL H 1 rfl (D.cs) (Uv D) ?_;clear H;intro wq H;(try simp only [LS] at H))))
        refine Ce (Aq rfl BL rfl (H.blk 1 rfl) rfl) rfl ?_
        rw [Il.Ab]
        exact ⟨D,rfl,rfl,H.fr.grown,H.EN 0 rfl,H.get 3 rfl,H.RB 3 0 (by omega) rfl rfl rfl⟩
       ·have Il:Hid (KW l=.error (Ap D.Ac)):=by show _=_;rw [HN.Ab];unfold VB;rw [Ah hE0]
        have HW:Hid (GH (Ap D.Ac)=Ap D.Ac):=by show _=_;unfold GH;rw [Ah hE0]
        have dE:(Ap D.Ac==0)=false:=by simpa using hE0
        clear hE0 HN
        go_wp2_with fail
        refine (Ip b s l' (Ap D.Ac) _ (H.EN 0 rfl)).mono ?_;rintro e w6 ⟨rfl,rfl⟩
        go_wp2_with fail
        refine ⟨rfl,?_⟩
        rw [Il.Ab,HW.Ab]
        exact ⟨rfl,H.fr.grown,_,H.EN 0 rfl⟩
def Rsch (w0:World) (s:List UInt8) (B g:Nat) (l:List EE) (o:PR SC) (K:PR SC→Int) (k:Int) (w':World):Prop:=
 k=K o∧∃ (D:Ev) (q:List UInt8),SL No w0 w' (IZ B s q (Av g 25 D.cs::(l++[KU D])))∧∀ d r,o=.ok (d,r)→D.Ac=d
theorem YW (w0:World) (B g:Nat) (s:List UInt8) (w:World) (l:List EE) (h:SL No w0 w (IZ B s s (Av g 25 Ev.nil.cs::l))):
 Calls prog 89 #[.pointer (some ⟨B+1,0,none⟩),.pointer (some ⟨g,0,none⟩)] w (LH B s (Rsch w0 s B g l (KW s) Zx)):=by
 have HT:=Aa (bB (B+1) s s w (h.EN 0 rfl))
 have H:=Aa h
 clear h
 go_enter func89,ntmps89
 go_wp2_with fail
 cases ho:KW s with
 |error k=>
  have Ho:=Aa ho
  rw [ho] at HT
  refine HT.mono ?_;rintro e w1 ⟨rfl,hg,l1,hr⟩
  have H1:SL No w0 w1 (IZ B s l1 (Av g 25 Ev.nil.cs::(l++[KU Ev.nil]))):=(H.readAll hg hr).add (Aj.refl _) _ (JF w1) Lm
  clear ho hg hr H
  go_wp2_with fail
  refine ⟨rfl,?_⟩
  exact SL.err H1 ⟨rfl,Ev.nil,l1,H1,fun _ _ h=>by cases h⟩
 |ok q=>
  obtain ⟨d,l1⟩:=q
  have Ho:=Aa ho
  rw [ho] at HT
  refine HT.mono ?_;rintro e w1 ⟨D,rfl,Gg,hg,hr,hnew⟩
  have NY:=Aa Gg
  have H1:SL No w0 w1 (IZ B s l1 (Av g 25 Ev.nil.cs::(l++[KU D]))):=H.jQ hg hr (KU D) hnew.1 hnew.2
  clear ho hg hr H Gg hnew HT
  go_wp2_with ((with_reducible refine OS 1 ?_);refine AA rfl BL (.tmp 1) (.tmp 4) rfl g rfl (H1.blk 3 rfl) rfl D.cs rfl rfl (Uv D) ?_;intro w2 b2 hg2)
  go_end0
  have H2:SL No w0 w2 (IZ B s l1 (Av g 25 D.cs::(l++[KU D]))):=H1.AY 3 rfl hg2 b2
  exact SL.ok H2 ⟨by rw [Ho.Ab];(try rfl),D,l1,H2,fun d' r' h=>by rw [Ho.Ab] at h;injection h with h;injection h with h _;exact NY.trans h⟩
def Ff (s:List UInt8):SC × Int:=
 match KW s with
 |.error k=>(SC.nil,k)
 |.ok (t,l)=>if l=[] then (t,0) else (SC.nil,3)
def Af3 (r:SC × Int) (w:World) (e:Ending) (w':World):Prop:=∃ D:Ev,e=.returned (.tuple #[.agg D.cs,.int .i64 r.2])∧D.Ac=r.1∧Aj w w'∧Uq w w' (KU D)
theorem bA (s:List UInt8) (w:World) (hs:s.length≤140737488351232):
 Calls prog 56 #[.string ⟨s.toArray⟩] w (Af3 (Ff s) w):=by
 have hmf:∀ (fn:Fn) (first cap:Array Value) (w:World),(Instr.makeFunc fn first cap).run prog w=.ok (.func fn first cap) w:=fun _ _ _ _=>rfl
 have H:=Aa (((SL.start No w).alloc #[.slice none 0 0,.slice none 0 0] 25).alloc #[.slice none 0 0,.slice none 0 0] 25)
 (try simp only [LS] at H)
 go_enter func56,ntmps56
 go_wp2_with fail
 replace H:=Aa (H.Gh [1,0] (by decide) (by simp));(try simp only [LS] at H)
 generalize hzg:w.heap.size+1=g at *
 clear hzg
 generalize w.heap.size=z at *
 generalize (w.alloc (.cells #[.slice none 0 0,.slice none 0 0] 25)).alloc (.cells #[.slice none 0 0,.slice none 0 0] 25)=W at *
 refine (ZL 89 #[.pointer (some ⟨g,0,none⟩)] s W hs (Rsch w s W.heap.size g [Av z 25 #[.slice none 0 0,.slice none 0 0]] (KW s) Zx) (mR func89 (by kernel_rfl) (by kernel_rfl)) (fun w4 h1 h2 h3 h4 h5=>YW w W.heap.size g s w4 _ (H.begin h1 h3 h4 h5))).mono ?_
 rintro e w5 ⟨k,w4,rfl,⟨hk,D,q,hS,hD⟩,eF,_⟩
 replace H:=Aa (hS.ended eF);(try simp only [LS] at H)
 clear hS eF
 generalize W.heap.size=B at *
 cases hT:KW s with
 |error k'=>
  have HT:Hid (Ff s=(SC.nil,k')):=by show _=_;unfold Ff;rw [hT]
  have hk':=bV hT
  rw [hT] at hk
  have hk2:k=k':=hk
  subst hk2
  have dk:(k==0)=false:=by simpa using hk'
  have dk2:(k !=0)=true:=by simpa using hk'
  clear hT hk hk' hD
  go_wp2_with ((with_reducible refine OS 2 ?_);(refine Ec BL H 1 rfl (#[.slice none 0 0,.slice none 0 0]) (by simp [Value.oneCell']) ?_;clear H;intro wq H;(try simp only [LS] at H)))
  refine Ce (AJ rfl BL rfl (H.blk 1 rfl) rfl) rfl ?_
  rw [HT.Ab]
  exact ⟨Ev.nil,rfl,rfl,H.to,JF _,Lm⟩
 |ok q=>
  obtain ⟨t,l⟩:=q
  rw [hT] at hk
  obtain rfl:=hD _ _ hT
  by_cases hl:l=[]
  ·have HT:Hid (Ff s=(D.Ac,0)):=by show _=_;unfold Ff;rw [hT];simp [hl]
   have hk2:k=0:=by rw [hk];show (if l=[] then (0:Int) else 3)=0;rw [Ak hl]
   subst hk2
   clear hT hk hl hD
   go_wp2_with (first|((with_reducible refine OP 13 ?_);(refine Cx BL (H.blk 0 rfl) ?_))|((with_reducible refine OS 2 ?_);(refine Ec BL H 1 rfl (D.cs) (Uv D) ?_;clear H;intro wq H;(try simp only [LS] at H))))
   refine Ce (AJ rfl BL rfl (H.blk 1 rfl) rfl) rfl ?_
   rw [HT.Ab]
   exact ⟨D,rfl,rfl,H.to,H.get 2 rfl,H.new 2 rfl⟩
  ·have HT:Hid (Ff s=(SC.nil,3)):=by show _=_;unfold Ff;rw [hT];simp [hl]
   have hk2:k=3:=by rw [hk];show (if l=[] then (0:Int) else 3)=3;rw [Ah hl]
   subst hk2
   clear hT hk hl hD
   go_wp2_with ((with_reducible refine OS 2 ?_);(refine Ec BL H 1 rfl (#[.slice none 0 0,.slice none 0 0]) (by simp [Value.oneCell']) ?_;clear H;intro wq H;(try simp only [LS] at H)))
   refine Ce (AJ rfl BL rfl (H.blk 1 rfl) rfl) rfl ?_
   rw [HT.Ab]
   exact ⟨Ev.nil,rfl,rfl,H.to,JF _,Lm⟩
section
variable {P : Program} {w : World}
theorem JD {ops:Array Oper} {o:Oper} {a:Act} {K:Act→World→Prop} {Q:Exit→Act→World→Prop} {X:Prop} (hgd:o.guard=none) {ty:TypeId} {n:Nat} (R:DV P ty n) (x:Operand) (ho:o.op=.load ty x)
 (g:Nat) (hx:a.eval x=.pointer (some ⟨g,0,none⟩)) {t:TypeId} {cs:Array Value} (hb:Br w g t cs) (hn:cs.size=n)
 (h:K (a.put o.dst (.agg cs)) w):if Region.wanted o (yielded ops a.tmps)=true then Oper.wp P o a w K Q else X:=by
 have hw:Region.wanted o (yielded ops a.tmps)=true:=by simp [Region.wanted,hgd]
 rw [Ak hw]
 obtain ⟨d,hu,hd⟩:=R.hu
 exact wp_load_mid ty x ho g 0 hx cs.toList d hb.range hu hd (by rw [R.hi];simp [hn]) (by simpa using h)
end
theorem Ac0 {S:Nat→Prop} {w0 w:World} {l:List EE} (H:SL S w0 w l) (i j k m:Nat) {g0 g1 g2 g3:Nat} (h0:l[i]?=some (Av g0 9 #[.string ⟨#[97]⟩]))
 (h1:l[j]?=some (Av g1 75 #[.string ⟨#[116]⟩,.slice (some ⟨g0,0,none⟩) 1 1,.slice none 0 0])) (h2:l[k]?=some (Av g2 73 #[.string ⟨#[100]⟩,.slice (some ⟨g1,0,none⟩) 1 1])) (h3:l[m]?=some (Av g3 9 #[.string ⟨#[109]⟩])):
 (Ev.mk ⟨some ⟨g2,0,none⟩,1,1,[⟨[100],⟨some ⟨g1,0,none⟩,1,1,[⟨[116],⟨some ⟨g0,0,none⟩,1,1,[[97]]⟩,⟨none,0,0,[]⟩⟩]⟩⟩]⟩ ⟨some ⟨g3,0,none⟩,1,1,[[109]]⟩).rd w:=by
 refine ⟨⟨AQ (m:=1) (H.blk k h2) rfl,fun D hD=>?_,by show (1:Nat)≤_;omega⟩,⟨?_,fun t ht=>?_,by show (1:Nat)≤_;omega⟩⟩
 ·rw [Dt] at hD
  subst hD
  exact Ac1 H i j (m:=1) (nm:=[100]) (tn:=[116]) (ts:=[[97]]) h0 rfl rfl h1 (by simp) (by simp) (by intro t ht;simp at ht;subst ht;simp) (by omega)
 ·have:=AQ (m:=1) (size:=1) (H.blk m h3) rfl
  rw [FQ]
  exact this
 ·simp at ht
  subst ht
  show ([109]:List UInt8).length≤_
  simp
abbrev exDC:DC:=⟨[100],[⟨[116],[[97]],[]⟩]⟩
theorem F4:Ap ⟨[exDC],[[109]]⟩=0:=by decide+kernel
def OH (s:Ev):Prop:=s.dm.n≤20∧s.ms.n≤5∧∀ d ∈ s.dm.l,d.tr.n≤6∧∀ t ∈ d.tr.l,t.ts.n≤220∧t.up.n≤220
theorem jI (s:Ev) (w:World) (hs:s.rd w):
 Calls prog 5 #[.agg s.cs] w (ZY (OH s) w):=by
 have hl1:Hid (s.dm.l.length=s.dm.n):=hs.dm.len
 have hl2:Hid (s.ms.l.length=s.ms.n):=hs.ms.len
 have HD:=Aa hs.dm
 have HM:=Aa hs.ms
 have n63:=hs.dm.n63
 have m63:=hs.ms.n63
 have H:=Aa ((SL.start No w).alloc s.cs 25)
 (try simp only [LS] at H)
 obtain ⟨⟨A,n,c,ds⟩,⟨A2,n2,c2,ms⟩⟩:=s
 simp only [Ev.cs] at *
 clear hs
 go_enter func5,ntmps5
 go_wp2_with fail
 generalize w.heap.size=x at *
 generalize w.alloc (.cells #[.slice A n c,.slice A2 n2 c2] 25)=w1 at *
 have HA:Hid (∀ i d,i<0→ds[i]?=some d→d.tr.n≤6∧∀ t ∈ d.tr.l,t.ts.n≤220∧t.up.n≤220):=fun i t hi=>absurd hi (by omega)
 go_loopg [3,4] 22 (fun gg s3 s4 wr=>∃ (k sm:Nat),gg=22 - k∧k≤21∧k≤n∧s4=.int .i64 k∧s3=.int .i64 sm∧sm≤1320 * k∧Hid (SL No w wr [Av x 25 #[.slice A n c,.slice A2 n2 c2]])∧Hid (∀ i d,i<k→ds[i]?=some d→d.tr.n≤6∧∀ t ∈ d.tr.l,t.ts.n≤220∧t.up.n≤220))
 case atStart=>exact ⟨0,0,rfl,by omega,by omega,rfl,rfl,by omega,H,HA⟩
 case round=>
  clear H HA
  obtain ⟨k,sm,BG,hk21,hkn,rfl,rfl,hsm,H,HA⟩:=hrel
  have Cg:=Aa BG
  clear BG
  have Ga:=(H.blk 0 rfl).Am 0
  by_cases hlt:k<n∧k≤20
  ·obtain ⟨h1,h2⟩:=hlt
   have e1:decide ((k:Int)≤20)=true:=by simp<;>omega
   obtain ⟨bb,oo,d,hA,hbb,hdk,hdr,hrg⟩:=(HD.mono H.to).Ta (k:=k) h1
   simp only at hA
   subst hA
   have HR:=Aa hrg
   have HDK:=Aa hdk
   have HDR:=Aa hdr
   have i0:(0:Int)≤k:=by omega
   have i1:(k:Int)<n:=by omega
   clear hdk hrg hdr
   go_wp2_with ((with_reducible refine OP 24 ?_);(refine Ae rfl Dl (.tmp 23) rfl bb (oo+k * 2) rfl d.cs rfl HR.Ab ?_))
   refine (vJ d _ HDR.Ab).mono ?_;rintro e w3 ⟨b,rfl,NP,hb3⟩
   replace H:=Aa (H.Au hb3)
   have HDR3:=Aa (HDR.mono hb3)
   have q1:=(hb3.cell hbb).trans (HR.Ab 1 _ rfl)
   clear hb3 Ga HR HDR
   cases b with
   |false=>
    clear NP
    go_wp2
    go_ret
    exact ⟨false,rfl,(fun h=>by cases h),H.to⟩
   |true=>
    obtain ⟨f6,f220⟩:=NP rfl
    have HF:=Aa f220
    have HN:Hid (∀ i d,i<k+1→ds[i]?=some d→d.tr.n≤6∧∀ t ∈ d.tr.l,t.ts.n≤220∧t.up.n≤220):=by
     intro i d' hi hid
     rcases (show i<k∨i=k by omega) with h|h
     ·exact HA i d' h hid
     ·subst h
      rw [HDK.Ab] at hid
      injection hid with hid
      subst hid
      exact ⟨f6,f220⟩
    clear NP f220 HA
    have Ga:=(H.blk 0 rfl).Am 0
    have hdl:Hid (d.tr.l.length=d.tr.n):=HDR3.tr.len
    have wH:=Aa HDR3.tr
    obtain ⟨dnm,⟨D,dn,dc,AB⟩⟩:=d
    simp only [Dm.cs] at *
    go_wp2_with fail
    clear Ga q1
    go_loopg [3,34] dn (fun gg s3 s34 wx=>∃ (j s2:Nat),gg=dn - j∧j≤dn∧s34=.int .i64 j∧s3=.int .i64 s2∧s2≤1320 * k+220 * j∧Hid (SL No w wx [Av x 25 #[.slice (some ⟨bb,oo,none⟩) n c,.slice A2 n2 c2]])∧Hid (Aj w3 wx))
    case atStart=>exact ⟨0,sm,rfl,by omega,rfl,rfl,by omega,H,Aj.refl _⟩
    case round=>
     clear H
     obtain ⟨j,s2,hgj,hj,rfl,rfl,hs2,H,HB⟩:=hrel
     have Kv:=Aa hgj
     clear hgj
     by_cases hjlt:j<dn
     ·obtain ⟨b4,o4,t,Zq,hbb4,htk,htr,j3⟩:=(wH.mono HB.Ab).JN (k:=j) hjlt
      simp only at Zq
      subst Zq
      have ht220:=(HF t (CE htk)).1
      have HR4:=Aa j3
      have hnm4:=htr.nm
      have j0:(0:Int)≤j:=by omega
      have j1:(j:Int)<dn:=by omega
      clear htk htr j3 hbb4
      go_wp2_with (first|((with_reducible refine OP 37 ?_);(refine Ae rfl Es (.tmp 36) rfl b4 (o4+j * 3) rfl t.cs rfl HR4.Ab ?_))|((with_reducible refine OS 6 ?_);(refine Fu Es (t.cs) (OL t) ?_;replace H:=Aa (H.alloc (t.cs) 75);(try simp only [LS] at H);replace HB:=Aa (HB.alloc (.cells t.cs 75));have RU:=(H.blk 1 rfl).Am 1)))
      replace H:=Aa (H.Gh [0] (by decide) (by simp));(try simp only [LS] at H)
      clear RU
      go_roundg (dn - (j+1))
      case rel=>exact ⟨j+1,s2+t.ts.n,rfl,by omega,by go_num,by go_num,by omega,H,HB⟩
      case measure=>rw [Kv.Ab];omega
     ·go_wp2_with fail
      go_roundg (22 - (k+1))
      case rel=>exact ⟨k+1,s2,rfl,by omega,by omega,by go_num,rfl,by omega,H,HN⟩
      case measure=>rw [Cg.Ab];omega
  ·have e0:(decide ((k:Int)<n)=false∧decide (k<n)=false∧¬ k<n)∨(decide ((k:Int)<n)=true∧decide (k<n)=true∧k<n∧decide ((k:Int)≤20)=false):=by
    by_cases h:k<n
    ·right
     refine ⟨by simp<;>omega,by simp<;>omega,h,by simp<;>omega⟩
    ·left
     refine ⟨by simp<;>omega,by simp<;>omega,h⟩
   clear hlt
   have nQ:Hid (n≤20→∀ d ∈ ds,d.tr.n≤6∧∀ t ∈ d.tr.l,t.ts.n≤220∧t.up.n≤220):=by
    intro h20 d hd
    obtain ⟨i,hi⟩:=Iz.1 hd
    have hil:i<ds.length:=(Ca.1 hi).1
    refine HA i d ?_ hi
    have:=hl1.Ab
    rcases e0 with ⟨_,_,h⟩|⟨_,_,h,h'⟩
    ·omega
    ·simp at h';omega
   clear HA
   rcases e0 with ⟨e1,e2,e3⟩|⟨e1,e2,e3,e4⟩
   all_goals
    go_wp2_with fail
    clear Ga
    go_loopg [7,8] 7 (fun gg s7 s8 wr=>∃ (j s2:Nat),gg=7 - j∧j≤6∧j≤n2∧s8=.int .i64 j∧s7=.int .i64 s2∧s2≤1000 * j∧Hid (SL No w wr [Av x 25 #[.slice A n c,.slice A2 n2 c2]]))
    case atStart=>exact ⟨0,0,rfl,by omega,by omega,rfl,rfl,by omega,H⟩
    case round=>
     clear H
     obtain ⟨j,s2,hgj,hj6,hjn,rfl,rfl,hs2,H⟩:=hrel
     have Kv:=Aa hgj
     clear hgj
     have RU:=(H.blk 0 rfl).Am 1
     have Ga:=(H.blk 0 rfl).Am 0
     by_cases hjl:j<n2∧j≤5
     ·obtain ⟨g1,g2⟩:=hjl
      have y1:decide ((j:Int)≤5)=true:=by simp<;>omega
      obtain ⟨bb,oo,m,hA,hmk,aB,hc⟩:=(HM.mono H.to).FE (k:=j) g1
      simp only at hA
      subst hA
      have i0:(0:Int)≤j:=by omega
      have i1:(j:Int)<n2:=by omega
      have hmin:∃ q:Nat,(min (m.length:Int) 1000)=q∧q≤1000:=⟨min m.length 1000,by omega,by omega⟩
      obtain ⟨q,hq,hq2⟩:=hmin
      have HQ:=Aa hq
      clear hmk hq
      go_wp2
      rw [HQ.Ab]
      go_roundg (7 - (j+1))
      case rel=>exact ⟨j+1,s2+q,rfl,by omega,by omega,by go_num,by go_num,by omega,H⟩
      case measure=>rw [Kv.Ab];omega
     ·have y0:(decide ((j:Int)<n2)=false∧decide (j<n2)=false∧¬ j<n2)∨(decide ((j:Int)<n2)=true∧decide (j<n2)=true∧j<n2∧decide ((j:Int)≤5)=false):=by
       by_cases h:j<n2
       ·right
        refine ⟨by simp<;>omega,by simp<;>omega,h,by simp<;>omega⟩
       ·left
        refine ⟨by simp<;>omega,by simp<;>omega,h⟩
      clear hjl
      rcases y0 with ⟨y1,y2,y3⟩|⟨y1,y2,y3,y4⟩
      all_goals
       by_cases z1:n≤20
       ·by_cases z2:n2≤5
        ·have z3:decide ((n:Int)≤20)=true:=by simp<;>omega
         have z4:decide ((n2:Int)≤5)=true:=by simp<;>omega
         go_wp2
         all_goals
          go_ret
          exact ⟨_,rfl,fun _=>⟨z1,z2,nQ z1⟩,H.to⟩
        ·have z3:decide ((n:Int)≤20)=true:=by simp<;>omega
         have z4:decide ((n2:Int)≤5)=false:=by simp<;>omega
         go_wp2
         go_ret
         exact ⟨false,rfl,(fun h=>by cases h),H.to⟩
       ·have z3:decide ((n:Int)≤20)=false:=by simp<;>omega
        go_wp2
        go_ret
        exact ⟨false,rfl,(fun h=>by cases h),H.to⟩
theorem TH (s:Ev) (w:World) (hs:s.rd w) (hE:Ap s.Ac=0):
 Calls prog 13 #[.agg s.cs] w fun e w'=>e=.returned (.string ⟨(Ie s.Ac).toArray⟩)∧Aj w w':=by
 have hlen:Hid (s.dm.l.length=s.dm.n):=hs.dm.len
 have Qa:Hid (s.ms.l.length=s.ms.n):=hs.ms.len
 have HD:=Aa hs.dm
 have HMs:=Aa hs.ms
 have H:=Aa ((SL.start No w).alloc s.cs 25)
 (try simp only [LS] at H)
 obtain ⟨⟨A,n,c,ds⟩,⟨A2,n2,c2,ms⟩⟩:=s
 simp only [Ev.cs,Ev.Ac] at *
 clear hs
 obtain ⟨h1,h2,h3,h4,h5,h6⟩:=BA hE
 simp only [Cq] at h1 h2 h3 h4 h5 h6
 have JB:=Aa h3
 have HNM:=Aa h6
 have hn16:n≤16:=by have:=hlen.Ab;omega
 have hn3:n2≤3:=by have:=Qa.Ab;omega
 have hpn:=Bp n
 have hpn2:=Bp n2
 clear h1 h2 h3 h4 h5 h6 hE
 go_enter func13,ntmps13
 have c0:=(H.blk 0 rfl).Am 0
 go_wp2_with fail
 refine (BU (n:Int) _ (by omega) (by omega)).mono ?_;rintro e w3 ⟨rfl,hb3⟩
 replace H:=Aa (H.Au hb3)
 rw [Da]
 clear hb3 c0
 have c0:=(H.blk 0 rfl).Am 0
 generalize w.heap.size=x at *
 go_wp2_with fail
 clear c0
 have HL:Hid (CK n=CK n++((ds.map Dm.Ac).take 0).flatMap Ey):=by show _=_;simp
 go_loopg [3,15] n (fun gg o i wr=>∃ (k:Nat) (l:List UInt8),gg=n - k∧k≤n∧i=.int .i64 k∧o=.string ⟨l.toArray⟩∧l.length≤10+50000 * k∧Hid (SL No w wr [Av x 25 #[.slice A n c,.slice A2 n2 c2]])∧Hid (l=CK n++((ds.map Dm.Ac).take k).flatMap Ey))
 case atStart=>exact ⟨0,_,rfl,by omega,rfl,rfl,by omega,H,HL⟩
 case round=>
  clear H HL
  obtain ⟨k,l,BG,hk,rfl,rfl,hll,H,HL⟩:=hrel
  have Cg:=Aa BG
  clear BG
  by_cases hlt:k<n
  ·obtain ⟨bb,oo,d,hA,hbb,hdk,hdr,hrg⟩:=(HD.mono H.to).Ta (k:=k) hlt
   simp only at hA
   subst hA
   have uP:(ds.map Dm.Ac)[k]?=some d.Ac:=by rw [DD,hdk];(try rfl)
   have hE0:Ba d.Ac=0:=JB d.Ac (CE uP)
   have hlen3:=Wz hE0
   have HN:Hid (l++Ey d.Ac=CK n++((ds.map Dm.Ac).take (k+1)).flatMap Ey):=by show _=_;rw [Ci uP,FD,←Dk,←HL.Ab];simp
   have HR:=Aa hrg
   have HRd:=Aa hdr
   have Kw:=Aa hE0
   clear hdk hdr hrg uP hbb HL hE0
   go_wp2_with (first|((with_reducible refine OP 18 ?_);(refine Ae rfl Dl (.tmp 17) rfl bb (oo+k * 2) rfl d.cs rfl HR.Ab ?_))|((with_reducible refine OS 5 ?_);(refine Fu Dl (d.cs) (Zy d) ?_;replace H:=Aa (H.alloc (d.cs) 73);(try simp only [LS] at H)))|((with_reducible refine OP 20 ?_);(refine Cx Dl (H.blk 1 rfl) ?_)))
   refine (jR d _ (HRd.mono ((Aj.refl _).alloc _)) Kw.Ab).mono ?_;rintro e w5 ⟨rfl,hb5⟩
   replace H:=Aa (H.Au hb5)
   replace H:=Aa (H.Gh [0] (by decide) (by simp));(try simp only [LS] at H)
   clear hb5
   go_wp2
   go_roundg (n - (k+1))
   case rel=>exact ⟨k+1,l++Ey d.Ac,rfl,by omega,by go_num,by simp only [Cs],by simp only [BQ];omega,H,HN⟩
   case measure=>rw [Cg.Ab];omega
  ·have X6:Hid (l=CK n++(ds.map Dm.Ac).flatMap Ey):=by show _=_;rw [HL.Ab,DY (by have:=hlen.Ab;simp;omega)]
   have c0:=(H.blk 0 rfl).Am 1
   clear HL
   go_wp2_with fail
   refine (BU (n2:Int) _ (by omega) (by omega)).mono ?_;rintro e w3 ⟨rfl,hb3⟩
   replace H:=Aa (H.Au hb3)
   rw [Da]
   clear hb3 c0
   have c0:=(H.blk 0 rfl).Am 1
   have HL2:Hid (l++CK n2=l++CK n2++(ms.take 0).flatMap Cc):=by show _=_;simp
   go_wp2_with fail
   simp only [Cs]
   clear c0
   go_loopg [3,33] n2 (fun gg o i wr=>∃ (j:Nat) (l':List UInt8),gg=n2 - j∧j≤n2∧i=.int .i64 j∧o=.string ⟨l'.toArray⟩∧l'.length≤900000+30 * j∧Hid (SL No w wr [Av x 25 #[.slice A n c,.slice A2 n2 c2]])∧Hid (l'=l++CK n2++(ms.take j).flatMap Cc))
   case atStart=>exact ⟨0,_,rfl,by omega,rfl,rfl,by simp only [BQ];omega,H,HL2⟩
   case round=>
    clear H HL2
    obtain ⟨j,l',BG,hj,rfl,rfl,hll2,H,HL⟩:=hrel
    have Cg:=Aa BG
    clear BG
    by_cases hlt2:j<n2
    ·obtain ⟨bb,oo,m,hA,hmk,aB,hc⟩:=(HMs.mono H.to).FE (k:=j) hlt2
     simp only at hA
     subst hA
     have hm12:=DW (HNM m (CE hmk))
     have hpt:(Cc m).length≤30:=by unfold Cc;rw [BQ];have:=Bp m.length;omega
     have HN:Hid (l'++Cc m=l++CK n2++(ms.take (j+1)).flatMap Cc):=by show _=_;rw [Ci hmk,FD,←Dk,←HL.Ab];simp
     clear hmk HL
     go_wp2_with fail
     refine (GI m _ (by omega)).mono ?_;rintro e w4 ⟨rfl,hb4⟩
     replace H:=Aa (H.Au hb4)
     clear hb4 hc
     go_wp2
     go_roundg (n2 - (j+1))
     case rel=>exact ⟨j+1,l'++Cc m,rfl,by omega,by go_num,by simp only [Cs],by simp only [BQ];omega,H,HN⟩
     case measure=>rw [Cg.Ab];omega
    ·have HN:Hid (Ie ⟨ds.map Dm.Ac,ms⟩=l'):=by
      show _=_
      rw [HL.Ab,DY (by have:=Qa.Ab;omega),X6.Ab]
      unfold Ie
      simp only [Cq,hlen.Ab,Qa.Ab,Dk]
     clear HL
     go_wp2
     go_ret
     rw [HN.Ab]
     exact ⟨rfl,H.to⟩
theorem OH.hn {s:Ev} (h:OH s):s.dm.n≤1000000:=by have:=h.1;omega
theorem OH.hm {s:Ev} (h:OH s):s.ms.n≤1000000:=by have:=h.2.1;omega
theorem OH.hd {s:Ev} (h:OH s):∀ d ∈ s.dm.l,d.tr.n≤1000000∧∀ t ∈ d.tr.l,t.up.n≤100000:=fun d hd=>⟨by have:=(h.2.2 d hd).1;omega,fun t ht=>by have:=((h.2.2 d hd).2 t ht).2;omega⟩
theorem Vq {d:SC} (h:Ap d=0):(Ie d).length≤900000:=by
 obtain ⟨h1,h2,h3,h4,h5,h6⟩:=BA h
 have h7:=Bp d.DF.length
 have h8:=Bp d.ms.length
 have h9:(d.DF.flatMap Ey).length≤50000 * d.DF.length:=Lb fun x hx=>Wz (h3 x hx)
 have h10:(d.ms.flatMap Cc).length≤30 * d.ms.length:=Lb fun x hx=>by
  have:=DW (h6 x hx)
  have:=Bp x.length
  unfold Cc
  rw [BQ]
  omega
 unfold Ie
 simp only [BQ]
 omega
def Ur {α:Type} (s:List UInt8) (o:PR (List α)) (p:List UInt8→PR α) (n k:Nat) (acc:List α) (t kk:Int):Prop:=
 (kk≠0∧o=.error kk)∨(kk=0∧∃ tn:Nat,t=tn∧tn≤s.length∧o=AX p (n - k) acc (s.drop tn))
section
variable {α : Type} {s : List UInt8} {o : PR (List α)} {p : List UInt8 → PR α} {n k : Nat} {acc : List α} {t kk : Int}
theorem Ur.good (h:Ur s o p n k acc t 0):∃ tn:Nat,t=tn∧tn≤s.length∧o=AX p (n - k) acc (s.drop tn):=h.elim (fun h=>absurd rfl h.1) (fun h=>h.2)
theorem Ur.step {tn:Nat} {x:α} (hk:k<n) (h:o=AX p (n - k) acc (s.drop tn)) (h2:Li s (p (s.drop tn)) t kk x):Ur s o p n (k+1) (acc++[x]) t kk:=by
 rw [Ir hk] at h
 rcases h2 with ⟨h1,h2⟩|⟨h1,m,h3,h4,h2⟩
 ·exact .inl ⟨h1,by rw [h,h2]⟩
 ·exact .inr ⟨h1,m,h3,h4,by rw [h,h2]⟩
theorem Ur.done (h:Ur s o p n k acc t kk) (hk:kk≠0∨n≤k):Li s o t kk acc:=by
 rcases h with ⟨h1,h2⟩|⟨h1,tn,h3,h4,h2⟩
 ·exact .inl ⟨h1,h2⟩
 ·rcases hk with hk|hk
  ·exact absurd h1 hk
  ·exact .inr ⟨h1,tn,h3,h4,by rw [h2,show n - k=0 by omega];(try rfl)⟩
end
end Go.Proofs.YtijplolmkcdflaaGreat
