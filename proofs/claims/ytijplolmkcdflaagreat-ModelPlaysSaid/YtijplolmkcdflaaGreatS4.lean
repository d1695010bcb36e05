/- What follows was written short by a program: the walks that lead to YtijplolmkcdflaaGreatModelPlays. -/
import Derived.Test.YtijplolmkcdflaaGreatS3
set_option maxHeartbeats 8000000
set_option maxRecDepth 100000
set_option linter.unusedVariables false
set_option linter.unusedSimpArgs false
namespace Go.Proofs.YtijplolmkcdflaaGreat
open Tryz
open Go.RowKit
theorem Fa {n:Nat} {k:Int} (h:k≠0):Xh n (CC.nil,k)=(CC.nil,k):=by unfold Xh;rw [Ak h]
theorem Row.rd.Ad4 {w:World} {x:Row (Row Int)} (h:x.rd w) {k:Nat} (hk:k<x.n):∃ b o y,x.A=some ⟨b,o,none⟩∧x.l[k]?=some y∧y.ok w∧w.cell? ⟨b,o+k,none⟩=some (.slice y.A y.n y.c):=by
 obtain ⟨b,o,y,e,hy,hc⟩:=Oz rfl h.r hk;exact ⟨b,o,y,e,hy,h.all y (CU hy),hc _ rfl⟩
theorem Zb8 {p:Prop} (h:p:=by rw [HU.Ab]):p:=h
theorem Ze5 {p:Prop} (h:p:=by show _=_;refine (Yk (CC.nil,12) (KX.trans ?_)).symm.trans (Fa Za1);rw [Bp Yj.Ab];refine Ew Vg.Ab ?_;rw [Ic.Ab,Bp Tn.Ab];exact Fs Zb8):p:=h
theorem Zt1 {p:Prop} (h:p:=by
 show _=_;refine (Yk (⟨⟨ds.map Dm.Ac,ms⟩,fa,P0,Q0,P1,Q1,P2,Q2⟩,0) (HRR.trans ?_)).symm.trans ?_
 ·rw [EN (by rw [CQ,hrl.Ab];omega)]
  rfl
 ·rfl
):p:=h
theorem Zu9 {p:Prop} (h:p:=by show _=_;refine (Yk (CC.nil,2) (HRR.trans ?_)).symm.trans (Fa Za1);rw [Bp Yj.Ab];exact PG (by have:=Vg.Ab;omega)):p:=h
theorem Zh8 {p:Prop} (h:p:=by
 go_wp2_with fail;have Yk:Hid (∀ o,EG mn ⟨⟨ds.map Dm.Ac,ms⟩,fa,p0,q0,p1,q1,p2,q2⟩ (rs.map (·.l))=o→Xh rn o=O):=fun o ho=>by rw [HO4.Ab,ho]
 have HRR:Hid (EG mn ⟨⟨ds.map Dm.Ac,ms⟩,fa,p0,q0,p1,q1,p2,q2⟩ (rs.map (·.l))=EG mn ⟨⟨ds.map Dm.Ac,ms⟩,fa,p0,q0,p1,q1,p2,q2⟩ ((rs.map (·.l)).drop 0)):=rfl;clear HO4;go_loopg [8,36] rn (fun gg s8 i wr=>∃ (k:Nat) (P0 Q0 P1 Q1 P2 Q2:Int) (ob:Bool),gg=rn - k∧k≤rn∧s8=.bool ob∧i=.int .i64 k∧Hid (SL No w wr [Aw x 63 #[.slice A n c,.slice MA mn mc,.int .i64 fa,.int .i64 p0,.int .i64 q0,.int .i64 p1,.int .i64 q1,.int .i64 p2,.int .i64 q2],Aw y 63 #[.slice none 0 0,.slice none 0 0,.int .i64 0,.int .i64 0,.int .i64 0,.int .i64 0,.int .i64 0,.int .i64 0,.int .i64 0],Aw z 63 #[.slice B m d,.slice MB mm md,.int .i64 fa,.int .i64 P0,.int .i64 Q0,.int .i64 P1,.int .i64 Q1,.int .i64 P2,.int .i64 Q2],Kj ⟨⟨B,m,d,es⟩,⟨MB,mm,md,mt⟩⟩])∧Hid (EG mn ⟨⟨ds.map Dm.Ac,ms⟩,fa,p0,q0,p1,q1,p2,q2⟩ (rs.map (·.l))=EG mn ⟨⟨ds.map Dm.Ac,ms⟩,fa,P0,Q0,P1,Q1,P2,Q2⟩ ((rs.map (·.l)).drop k))∧Hid (AZ P0∧AZ Q0∧AZ P1∧AZ Q1∧AZ P2∧AZ Q2));case atStart=>exact ⟨0,p0,q0,p1,q1,p2,q2,true,rfl,Xl,rfl,rfl,H,HRR,HI0⟩
 case round=>
  clear H HRR HI0;obtain ⟨k,P0,Q0,P1,Q1,P2,Q2,ob,BR,hk,rfl,rfl,H,HRR,hI⟩:=hrel;have Cs:=Aa BR;clear BR;by_cases hlt:k<rn
  ·obtain ⟨bb,oo,yr,hA,hyk,Pw,q1'⟩:=(HRW.mono H.to).Ad4 (k:=k) hlt;simp only at hA;subst hA;have Yj:Hid ((rs.map (·.l))[k]?=some yr.l):=by show _=_;rw [Ed,hyk];(try rfl)
   have HYR:=Aa (fun w' (hb:Ai w w')=>(vF yr (CU hyk) w' hb));have Vg:Hid (yr.l.length=yr.n):=Pw.zS.len;have y63:=Pw.zS.n63;have i0:(0:Int)≤k:=by omega
   have i1:(k:Int)<rn:=by omega
   clear hyk Pw;obtain ⟨YA,yn,yc,ys⟩:=yr;simp only at *;have cm0:=(H.blk 0 rfl).Ap 1;by_cases hyn:yn=mn
   ·obtain rfl:mn=yn:=hyn.symm;have e1:(((mn:Nat):Int) !=mn)=false:=by simp
    have e2:decide ((3:Int)<mn)=false:=by simp<;>omega
    go_wp2_with fail;clear cm0 e1 e2 q1';have Ic:Hid (DZ ⟨⟨ds.map Dm.Ac,ms⟩,fa,P0,Q0,P1,Q1,P2,Q2⟩ 0 ys=DZ ⟨⟨ds.map Dm.Ac,ms⟩,fa,P0,Q0,P1,Q1,P2,Q2⟩ 0 (ys.drop 0)):=rfl;have hI0:=hI;have KX:=HRR;clear hI HRR;generalize hC1:(⟨⟨ds.map Dm.Ac,ms⟩,fa,P0,Q0,P1,Q1,P2,Q2⟩:CC)=C1 at KX Ic;have MW:=Aa hC1;clear hC1;replace Ic:Hid (DZ C1 0 ys=DZ ⟨⟨ds.map Dm.Ac,ms⟩,fa,P0,Q0,P1,Q1,P2,Q2⟩ 0 (ys.drop 0)):=by show _=_;rw [MW.Ab];exact Ic.Ab
    go_loopg [8,55] mn (fun gg s8 i wr=>∃ (j:Nat) (P0 Q0 P1 Q1 P2 Q2:Int) (ob:Bool),gg=mn - j∧j≤mn∧s8=.bool ob∧i=.int .i64 j∧Hid (SL No w wr [Aw x 63 #[.slice A n c,.slice MA mn mc,.int .i64 fa,.int .i64 p0,.int .i64 q0,.int .i64 p1,.int .i64 q1,.int .i64 p2,.int .i64 q2],Aw y 63 #[.slice none 0 0,.slice none 0 0,.int .i64 0,.int .i64 0,.int .i64 0,.int .i64 0,.int .i64 0,.int .i64 0,.int .i64 0],Aw z 63 #[.slice B m d,.slice MB mm md,.int .i64 fa,.int .i64 P0,.int .i64 Q0,.int .i64 P1,.int .i64 Q1,.int .i64 P2,.int .i64 Q2],Kj ⟨⟨B,m,d,es⟩,⟨MB,mm,md,mt⟩⟩])∧Hid (DZ C1 0 ys=DZ ⟨⟨ds.map Dm.Ac,ms⟩,fa,P0,Q0,P1,Q1,P2,Q2⟩ j (ys.drop j))∧Hid (AZ P0∧AZ Q0∧AZ P1∧AZ Q1∧AZ P2∧AZ Q2));case atStart=>exact ⟨0,P0,Q0,P1,Q1,P2,Q2,ob,rfl,Xl,rfl,rfl,H,Ic,hI0⟩
    case round=>
     clear H Ic hI0 MW;obtain ⟨j,P0,Q0,P1,Q1,P2,Q2,ob,hgj,hj,rfl,rfl,H,Ic,hI⟩:=hrel;have Lt:=Aa hgj;clear hgj;by_cases hjlt:j<mn
     ·obtain ⟨b2,o2,v,hA,hyv,hv,q2'⟩:=(HYR _ H.to).Pv (k:=j) hjlt;simp only at hA;subst hA;have Tn:=Aa hyv;have HV:=Aa hv;clear hyv hv;have j0:(0:Int)≤j:=by omega
      have j1:(j:Int)<mn:=by omega
      go_upto_region 16 with fail;clear q2';obtain rfl|rfl|rfl:j=0∨j=1∨j=2:=by omega
      ·rw [show ((0:Nat):Int)=0 from rfl];have hu:=JH (v:=v) (hI.1) (hI.2.1);have HG:=Aa (fun w=>JI P0 Q0 v w (hI.1) (hI.2.1) HV.Ab);have HU:Hid (Lm ⟨⟨ds.map Dm.Ac,ms⟩,fa,P0,Q0,P1,Q1,P2,Q2⟩ 0 v=(⟨⟨ds.map Dm.Ac,ms⟩,fa,(BO P0 Q0 v).1.1,(BO P0 Q0 v).1.2,P1,Q1,P2,Q2⟩,(BO P0 Q0 v).2)):=rfl;generalize BO P0 Q0 v=G at *;obtain ⟨⟨u1,u2⟩,ok⟩:=G;simp only at HG HU hu;go_wp2_with ((with_reducible refine OP 65 ?_);(refine Af rfl CO (.tmp 64) rfl z (3) rfl #[.int .i64 P0,.int .i64 Q0] rfl ((H.blk 2 rfl).part 3 _ rfl) ?_));refine (HG _).mono ?_;rintro e w6 ⟨rfl,hb6⟩;replace H:=Aa (H.Av hb6);clear hb6 HG;cases ok with
       |true=>
        have HR2:Hid (DZ C1 0 ys=DZ ⟨⟨ds.map Dm.Ac,ms⟩,fa,u1,u2,P1,Q1,P2,Q2⟩ (0+1) (ys.drop (0+1))):=by
         show _=_;rw [Ic.Ab,Bp Tn.Ab,Fq Zb8,HU.Ab]
        have hI2:Hid (AZ u1∧AZ u2∧AZ P1∧AZ Q1∧AZ P2∧AZ Q2):=⟨hu.1,hu.2,hI.2.2.1,hI.2.2.2.1,hI.2.2.2.2.1,hI.2.2.2.2.2⟩;clear Ic HU;go_wp2_with ((with_reducible refine OS 71 ?_);refine Bq rfl CO (.tmp 71) (.tmp 68) rfl z 3 rfl (H.blk 2 rfl) #[.int .i64 u1,.int .i64 u2] rfl uH rfl Za2 ?_;intro wq bq Aq;replace bq:Bh wq z 63 #[.slice B m d,.slice MB mm md,.int .i64 fa,.int .i64 u1,.int .i64 u2,.int .i64 P1,.int .i64 Q1,.int .i64 P2,.int .i64 Q2]:=bq;replace H:=Aa (H.AA 2 rfl Aq bq);(try simp only [LS] at H);clear Aq bq);go_roundg (mn - (0+1));case rel=>exact ⟨0+1,u1,u2,P1,Q1,P2,Q2,true,rfl,Xl,rfl,rfl,H,HR2,hI2⟩
        case measure=>rw [Lt.Ab];omega
       |false=>
        have Om:Hid (O=(CC.nil,12)):=by
         exact Ze5
        go_wp2_with (first|((with_reducible refine OS 71 ?_);refine Bq rfl CO (.tmp 71) (.tmp 68) rfl z 3 rfl (H.blk 2 rfl) #[.int .i64 u1,.int .i64 u2] rfl uH rfl Za2 ?_;intro wq bq Aq;replace bq:Bh wq z 63 #[.slice B m d,.slice MB mm md,.int .i64 fa,.int .i64 u1,.int .i64 u2,.int .i64 P1,.int .i64 Q1,.int .i64 P2,.int .i64 Q2]:=bq;replace H:=Aa (H.AA 2 rfl Aq bq);(try simp only [LS] at H);clear Aq bq)|((with_reducible refine OS 4 ?_);(refine Cj BI H 1 rfl (#[.slice none 0 0,.slice none 0 0,.int .i64 0,.int .i64 0,.int .i64 0,.int .i64 0,.int .i64 0,.int .i64 0,.int .i64 0]) Za2 ?_;clear H;intro wq H;(try simp only [LS] at H))));refine Bc (Au rfl BI rfl (H.blk 1 rfl) rfl) rfl ?_;rw [Om.Ab];exact Da H.to
      ·rw [show ((1:Nat):Int)=1 from rfl];have hu:=JH (v:=v) (hI.2.2.1) (hI.2.2.2.1);have HG:=Aa (fun w=>JI P1 Q1 v w (hI.2.2.1) (hI.2.2.2.1) HV.Ab);have HU:Hid (Lm ⟨⟨ds.map Dm.Ac,ms⟩,fa,P0,Q0,P1,Q1,P2,Q2⟩ 1 v=(⟨⟨ds.map Dm.Ac,ms⟩,fa,P0,Q0,(BO P1 Q1 v).1.1,(BO P1 Q1 v).1.2,P2,Q2⟩,(BO P1 Q1 v).2)):=rfl;generalize BO P1 Q1 v=G at *;obtain ⟨⟨u1,u2⟩,ok⟩:=G;simp only at HG HU hu;go_wp2_with ((with_reducible refine OP 65 ?_);(refine Af rfl CO (.tmp 64) rfl z (5) rfl #[.int .i64 P1,.int .i64 Q1] rfl ((H.blk 2 rfl).part 5 _ rfl) ?_));refine (HG _).mono ?_;rintro e w6 ⟨rfl,hb6⟩;replace H:=Aa (H.Av hb6);clear hb6 HG;cases ok with
       |true=>
        have HR2:Hid (DZ C1 0 ys=DZ ⟨⟨ds.map Dm.Ac,ms⟩,fa,P0,Q0,u1,u2,P2,Q2⟩ (1+1) (ys.drop (1+1))):=by
         show _=_;rw [Ic.Ab,Bp Tn.Ab,Fq Zb8,HU.Ab]
        have hI2:Hid (AZ P0∧AZ Q0∧AZ u1∧AZ u2∧AZ P2∧AZ Q2):=⟨hI.1,hI.2.1,hu.1,hu.2,hI.2.2.2.2.1,hI.2.2.2.2.2⟩;clear Ic HU;go_wp2_with ((with_reducible refine OS 71 ?_);refine Bq rfl CO (.tmp 71) (.tmp 68) rfl z 5 rfl (H.blk 2 rfl) #[.int .i64 u1,.int .i64 u2] rfl uH rfl Za2 ?_;intro wq bq Aq;replace bq:Bh wq z 63 #[.slice B m d,.slice MB mm md,.int .i64 fa,.int .i64 P0,.int .i64 Q0,.int .i64 u1,.int .i64 u2,.int .i64 P2,.int .i64 Q2]:=bq;replace H:=Aa (H.AA 2 rfl Aq bq);(try simp only [LS] at H);clear Aq bq);go_roundg (mn - (1+1));case rel=>exact ⟨1+1,P0,Q0,u1,u2,P2,Q2,true,rfl,Xl,rfl,rfl,H,HR2,hI2⟩
        case measure=>rw [Lt.Ab];omega
       |false=>
        have Om:Hid (O=(CC.nil,12)):=by
         exact Ze5
        go_wp2_with (first|((with_reducible refine OS 71 ?_);refine Bq rfl CO (.tmp 71) (.tmp 68) rfl z 5 rfl (H.blk 2 rfl) #[.int .i64 u1,.int .i64 u2] rfl uH rfl Za2 ?_;intro wq bq Aq;replace bq:Bh wq z 63 #[.slice B m d,.slice MB mm md,.int .i64 fa,.int .i64 P0,.int .i64 Q0,.int .i64 u1,.int .i64 u2,.int .i64 P2,.int .i64 Q2]:=bq;replace H:=Aa (H.AA 2 rfl Aq bq);(try simp only [LS] at H);clear Aq bq)|((with_reducible refine OS 4 ?_);(refine Cj BI H 1 rfl (#[.slice none 0 0,.slice none 0 0,.int .i64 0,.int .i64 0,.int .i64 0,.int .i64 0,.int .i64 0,.int .i64 0,.int .i64 0]) Za2 ?_;clear H;intro wq H;(try simp only [LS] at H))));refine Bc (Au rfl BI rfl (H.blk 1 rfl) rfl) rfl ?_;rw [Om.Ab];exact Da H.to
      ·rw [show ((2:Nat):Int)=2 from rfl];have hu:=JH (v:=v) (hI.2.2.2.2.1) (hI.2.2.2.2.2);have HG:=Aa (fun w=>JI P2 Q2 v w (hI.2.2.2.2.1) (hI.2.2.2.2.2) HV.Ab);have HU:Hid (Lm ⟨⟨ds.map Dm.Ac,ms⟩,fa,P0,Q0,P1,Q1,P2,Q2⟩ 2 v=(⟨⟨ds.map Dm.Ac,ms⟩,fa,P0,Q0,P1,Q1,(BO P2 Q2 v).1.1,(BO P2 Q2 v).1.2⟩,(BO P2 Q2 v).2)):=rfl;generalize BO P2 Q2 v=G at *;obtain ⟨⟨u1,u2⟩,ok⟩:=G;simp only at HG HU hu;go_wp2_with ((with_reducible refine OP 65 ?_);(refine Af rfl CO (.tmp 64) rfl z (7) rfl #[.int .i64 P2,.int .i64 Q2] rfl ((H.blk 2 rfl).part 7 _ rfl) ?_));refine (HG _).mono ?_;rintro e w6 ⟨rfl,hb6⟩;replace H:=Aa (H.Av hb6);clear hb6 HG;cases ok with
       |true=>
        have HR2:Hid (DZ C1 0 ys=DZ ⟨⟨ds.map Dm.Ac,ms⟩,fa,P0,Q0,P1,Q1,u1,u2⟩ (2+1) (ys.drop (2+1))):=by
         show _=_;rw [Ic.Ab,Bp Tn.Ab,Fq Zb8,HU.Ab]
        have hI2:Hid (AZ P0∧AZ Q0∧AZ P1∧AZ Q1∧AZ u1∧AZ u2):=⟨hI.1,hI.2.1,hI.2.2.1,hI.2.2.2.1,hu.1,hu.2⟩;clear Ic HU;go_wp2_with ((with_reducible refine OS 71 ?_);refine Bq rfl CO (.tmp 71) (.tmp 68) rfl z 7 rfl (H.blk 2 rfl) #[.int .i64 u1,.int .i64 u2] rfl uH rfl Za2 ?_;intro wq bq Aq;replace bq:Bh wq z 63 #[.slice B m d,.slice MB mm md,.int .i64 fa,.int .i64 P0,.int .i64 Q0,.int .i64 P1,.int .i64 Q1,.int .i64 u1,.int .i64 u2]:=bq;replace H:=Aa (H.AA 2 rfl Aq bq);(try simp only [LS] at H);clear Aq bq);go_roundg (mn - (2+1));case rel=>exact ⟨2+1,P0,Q0,P1,Q1,u1,u2,true,rfl,Xl,rfl,rfl,H,HR2,hI2⟩
        case measure=>rw [Lt.Ab];omega
       |false=>
        have Om:Hid (O=(CC.nil,12)):=by
         exact Ze5
        go_wp2_with (first|((with_reducible refine OS 71 ?_);refine Bq rfl CO (.tmp 71) (.tmp 68) rfl z 7 rfl (H.blk 2 rfl) #[.int .i64 u1,.int .i64 u2] rfl uH rfl Za2 ?_;intro wq bq Aq;replace bq:Bh wq z 63 #[.slice B m d,.slice MB mm md,.int .i64 fa,.int .i64 P0,.int .i64 Q0,.int .i64 P1,.int .i64 Q1,.int .i64 u1,.int .i64 u2]:=bq;replace H:=Aa (H.AA 2 rfl Aq bq);(try simp only [LS] at H);clear Aq bq)|((with_reducible refine OS 4 ?_);(refine Cj BI H 1 rfl (#[.slice none 0 0,.slice none 0 0,.int .i64 0,.int .i64 0,.int .i64 0,.int .i64 0,.int .i64 0,.int .i64 0,.int .i64 0]) Za2 ?_;clear H;intro wq H;(try simp only [LS] at H))));refine Bc (Au rfl BI rfl (H.blk 1 rfl) rfl) rfl ?_;rw [Om.Ab];exact Da H.to
     ·obtain rfl:j=mn:=by omega
      have zJ:Hid (EG j ⟨⟨ds.map Dm.Ac,ms⟩,fa,p0,q0,p1,q1,p2,q2⟩ (rs.map (·.l))=EG j ⟨⟨ds.map Dm.Ac,ms⟩,fa,P0,Q0,P1,Q1,P2,Q2⟩ ((rs.map (·.l)).drop (k+1))):=by
       show _=_;rw [KX.Ab,Bp Yj.Ab];refine Sg (Vg.Ab) ?_;rw [Ic.Ab,EN (by have:=Vg.Ab;omega)]
       rfl
      clear KX Ic;go_wp2_with fail;go_roundg (rn - (k+1));case rel=>exact ⟨k+1,P0,Q0,P1,Q1,P2,Q2,ob,rfl,Xl,rfl,by go_num,H,zJ,hI⟩
      case measure=>rw [Cs.Ab];omega
   ·have e1:(((yn:Nat):Int) !=mn)=true:=by simp;omega
    have Om:Hid (O=(CC.nil,2)):=by
     exact Zu9
    clear hyn;go_wp2_with ((with_reducible refine OS 4 ?_);(refine Cj BI H 1 rfl (#[.slice none 0 0,.slice none 0 0,.int .i64 0,.int .i64 0,.int .i64 0,.int .i64 0,.int .i64 0,.int .i64 0,.int .i64 0]) Za2 ?_;clear H;intro wq H;(try simp only [LS] at H)));refine Bc (Au rfl BI rfl (H.blk 1 rfl) rfl) rfl ?_;rw [Om.Ab];exact Da H.to
  ·obtain rfl:k=rn:=by omega
   have Om:Hid (O=(⟨⟨ds.map Dm.Ac,ms⟩,fa+k,P0,Q0,P1,Q1,P2,Q2⟩,0)):=by
    exact Zt1
   clear HRR;have cz2:=(H.blk 2 rfl).Ap 2;have fz2:=(H.blk 2 rfl).frozen 2;go_wp2_with (first|((with_reducible refine OP 83 ?_);replace H:=Aa (H.setCell 2 rfl 2 (.int .i64 (fa+k)));(try simp only [LS] at H);clear cz2 fz2;refine Bf BI (H.blk 2 rfl) ?_)|((with_reducible refine OS 4 ?_);(refine Cj BI H 1 rfl (#[.slice B m d,.slice MB mm md,.int .i64 (fa+k),.int .i64 P0,.int .i64 Q0,.int .i64 P1,.int .i64 Q1,.int .i64 P2,.int .i64 Q2]) Za2 ?_;clear H;intro wq H;(try simp only [LS] at H))));refine Bc (Au rfl BI rfl (H.blk 1 rfl) rfl) rfl ?_;rw [Om.Ab];exact ⟨⟨⟨⟨B,m,d,es⟩,⟨MB,mm,md,mt⟩⟩,fa+k,P0,Q0,P1,Q1,P2,Q2⟩,rfl,CW (fun s=>(⟨s,fa+k,P0,Q0,P1,Q1,P2,Q2⟩:CC)) HDC.Ab,⟨(H.at_ 3 rfl).rd,by show _≤fa+(k:Int)∧fa+(k:Int)≤_;omega,hI.1,hI.2.1,hI.2.2.1,hI.2.2.2.1,hI.2.2.2.2.1,hI.2.2.2.2.2⟩,GH (H.at_ 3 rfl),H.to,H.get 3 rfl,H.new 3 rfl⟩
):p:=h
theorem Zb5 {p:Prop} (h:p:=by exact ⟨(H.blk 0 rfl).cell 0,(H.blk 0 rfl).cell 1,(H.blk 0 rfl).cell 2,(H.blk 0 rfl).cell 3,(H.blk 0 rfl).cell 4,(H.blk 0 rfl).cell 5,(H.blk 0 rfl).cell 6,(H.blk 0 rfl).cell 7,(H.blk 0 rfl).cell 8⟩):p:=h
theorem Zk9 {p:Prop} (h:p:=by refine Aj Ad Zb5 fun hHeld=>?_;clear Ad KK;refine BG MH fun KK Ad=>?_;generalize w3.heap.size=z at *;generalize World.alloc w3 _=w4 at *;refine Jp rfl BI (.tmp 7) (.tmp 33) rfl _ rfl (H.blk 3 rfl) rfl (#[.slice B m d,.slice MB mm md,.int .i64 fa,.int .i64 p0,.int .i64 q0,.int .i64 p1,.int .i64 q1,.int .i64 p2,.int .i64 q2]) rfl rfl Za2 ?_;intro wq bq Aq;replace H:=Aa (H.AA 3 rfl Aq bq);(try simp only [LS] at H);clear Aq bq;refine Aj Ad Zb5 fun hHeld=>?_;clear Ad KK;refine BZ ?_;clear hHeld;replace H:=Aa (H.Fg [0,1,3,2] Za1 uH);(try simp only [LS] at H);exact Zh8):p:=h
theorem Zn4 {p:Prop} (h:p:=by go_wp2_with ((with_reducible refine OS 4 ?_);(refine Cj BI H 1 rfl (#[.slice none 0 0,.slice none 0 0,.int .i64 0,.int .i64 0,.int .i64 0,.int .i64 0,.int .i64 0,.int .i64 0,.int .i64 0]) Za2 ?_;clear H;intro wq H;(try simp only [LS] at H)));refine Bc (Au rfl BI rfl (H.blk 1 rfl) rfl) rfl ?_;rw [dY.Ab];exact Da H.to):p:=h
theorem Zf2 {p:Prop} (h:p:=by rw [CQ,hrl.Ab];exact h4):p:=h
theorem Qv (s:Ct) (r:Row (Row Int)) (w:World) (hs:s.rd w) (hm:C9 s.sc) (hr:r.rd w) (hrn:r.n≤1000000):
 Calls prog 59 #[.agg s.cs,.slice r.A r.n r.c] w (Wo (Fx s.Ac (r.l.map (·.l))) w):=by
 have HC:=Aa (fun w' (hb:Ai w w')=>Qw s w' (hs.mono hb) hm);have HK:=Aa (fun hE w' (hb:Ai w w')=>VY s.sc w' (hs.sc.mono hb) hE);have HRW:=Aa hr;have vF:Hid (∀ y ∈ r.l,∀ w',Ai w w'→y.rd w'):=fun y hy w' hb=>(hr.all y hy).zS.mono hb
 have hrl:Hid (r.l.length=r.n):=hr.len;have WZ:Hid (s.sc.ms.l.length=s.sc.ms.n):=hs.sc.ms.len;have H:=Aa (((SL.start No w).alloc s.cs 63).alloc #[.slice none 0 0,.slice none 0 0,.int .i64 0,.int .i64 0,.int .i64 0,.int .i64 0,.int .i64 0,.int .i64 0,.int .i64 0] 63);(try simp only [LS] at H);have hfa:=hs.fa;unfold AZ at hfa;have HI0:Hid (AZ s.p0∧AZ s.q0∧AZ s.p1∧AZ s.q1∧AZ s.p2∧AZ s.q2):=⟨hs.p0,hs.q0,hs.p1,hs.q1,hs.p2,hs.q2⟩;generalize hO:Fx s.Ac (r.l.map (·.l))=O;have HO:=Aa hO;clear hO;obtain ⟨⟨⟨A,n,c,ds⟩,⟨MA,mn,mc,ms⟩⟩,fa,p0,q0,p1,q1,p2,q2⟩:=s;obtain ⟨RA,rn,rc,rs⟩:=r;simp only [Ct.cs,Ej.cs,Ct.Ac,Ej.Ac] at *;obtain ⟨f1,f2⟩:=hfa;clear hs hm hr;go_enter func59,ntmps59;go_upto_region 1 with fail;generalize w.heap.size+1=y at *;generalize w.heap.size=x at *;generalize World.alloc (World.alloc _ _) _=w1 at *;go_wp2_with ((with_reducible refine OP 13 ?_);(refine Bf BI (H.blk 0 rfl) ?_));refine (HC _ H.to).mono ?_;rintro e w2 ⟨rfl,hb2⟩;replace H:=Aa (H.Av hb2);clear hb2 HC;by_cases hE:Bu ⟨⟨ds.map Dm.Ac,ms⟩,fa,p0,q0,p1,q1,p2,q2⟩=0
 ·obtain ⟨g1,g2,g3⟩:=MM hE;have Y0:mn≤3:=by have h:ms.length≤3:=(BH g1).2.2.2.2.1;have:=WZ.Ab;omega
  replace HK:=Aa (HK g1);simp only at g2 g3;by_cases h4:4000<fa+rn
  ·have dY:Hid (O=(CC.nil,6)):=by have h:=HO.Ab;unfold Fx at h;rw [Ak Zb9,Al Zf2] at h;exact h.symm
   have e1:decide (4000 - fa<(rn:Int))=true:=PS Xl;rw [hE];have c2:=(H.blk 0 rfl).Ap 2;clear hE g1 HK HO;exact Zn4
  ·have HO4:Hid (O=Xh rn (EG mn ⟨⟨ds.map Dm.Ac,ms⟩,fa,p0,q0,p1,q1,p2,q2⟩ (rs.map (·.l)))):=by have h:=HO.Ab;unfold Fx at h;rw [Ak Zb9,Ak Zf2] at h;rw [←h,CQ,hrl.Ab];show Xh rn (EG ms.length _ _)=_;rw [WZ.Ab]
   have e1:decide (4000 - fa<(rn:Int))=false:=WB Xl;rw [hE];have c2:=(H.blk 0 rfl).Ap 2;clear hE g1 HO;go_upto_region 6 with fail;clear c2 e1;refine Eo (S:=fun w=>w.cell? ⟨x,0,none⟩=some (.slice A n c)∧w.cell? ⟨x,1,none⟩=some (.slice MA mn mc)∧w.cell? ⟨x,2,none⟩=some (.int .i64 fa)∧w.cell? ⟨x,3,none⟩=some (.int .i64 p0)∧w.cell? ⟨x,4,none⟩=some (.int .i64 q0)∧w.cell? ⟨x,5,none⟩=some (.int .i64 p1)∧w.cell? ⟨x,6,none⟩=some (.int .i64 q1)∧w.cell? ⟨x,7,none⟩=some (.int .i64 p2)∧w.cell? ⟨x,8,none⟩=some (.int .i64 q2)) Za0 Zb5 fun hHeld=>?_;replace H:=Aa (H.drew);refine Bd Ml ?_;refine Bd KF ?_;refine Bd Ky ?_;refine Bd LJ ?_;refine Bd KW ?_;refine Bd MI ?_;refine Oh MN Mk (fun KK Ad=>?_) fun KK Ad=>?_
   ·go_simp;refine (HK _ H.to).mono ?_;rintro e w3 ⟨D,rfl,hD,hb3,hN⟩;replace H:=Aa (H.add hb3 _ hN.1 hN.2);(try simp only [LS] at H);have HDC:=Aa hD;clear hN hD hb3;obtain ⟨⟨B,m,d,es⟩,⟨MB,mm,md,mt⟩⟩:=D;simp only [Ej.cs,Ej.Ac] at *;have hbd:∀ w:World,(Instr.build 63 #[(0,.agg #[.slice B m d,.slice MB mm md]),(1,.int .i64 fa),(2,.agg #[.int .i64 p0,.int .i64 q0,.int .i64 p1,.int .i64 q1,.int .i64 p2,.int .i64 q2])]).run prog w=.ok (.agg #[.slice B m d,.slice MB mm md,.int .i64 fa,.int .i64 p0,.int .i64 q0,.int .i64 p1,.int .i64 q1,.int .i64 p2,.int .i64 q2]) w:=fun _=>by kernel_rfl
    refine Aj Ad Zb5 fun hHeld=>?_;clear Ad KK;refine Oh Lj Mk (fun KK Ad=>?_) fun KK Ad=>?_
    ·go_simp;refine Aj Ad Zb5 fun hHeld=>?_;clear Ad KK;refine BG Mk fun KK Ad=>?_;go_simp;replace H:=Aa (H.alloc #[.slice none 0 0,.slice none 0 0,.int .i64 0,.int .i64 0,.int .i64 0,.int .i64 0,.int .i64 0,.int .i64 0,.int .i64 0] 63);(try simp only [LS] at H);exact Zk9
    ·go_simp;replace H:=Aa (H.alloc #[.slice none 0 0,.slice none 0 0,.int .i64 0,.int .i64 0,.int .i64 0,.int .i64 0,.int .i64 0,.int .i64 0,.int .i64 0] 63);(try simp only [LS] at H);refine Aj Ad Zb5 fun hHeld=>?_;clear Ad KK;refine BG Lj fun KK Ad=>?_;go_simp;exact Zk9
   ·go_simp;replace H:=Aa (H.alloc #[.slice none 0 0,.slice none 0 0,.int .i64 0,.int .i64 0,.int .i64 0,.int .i64 0,.int .i64 0,.int .i64 0,.int .i64 0] 63);(try simp only [LS] at H);refine Aj Ad Zb5 fun hHeld=>?_;clear Ad KK;refine BG MN fun KK Ad=>?_;go_simp;refine (HK _ H.to).mono ?_;rintro e w3 ⟨D,rfl,hD,hb3,hN⟩;replace H:=Aa (H.add hb3 _ hN.1 hN.2);(try simp only [LS] at H);have HDC:=Aa hD;clear hN hD hb3;obtain ⟨⟨B,m,d,es⟩,⟨MB,mm,md,mt⟩⟩:=D;simp only [Ej.cs,Ej.Ac] at *;have hbd:∀ w:World,(Instr.build 63 #[(0,.agg #[.slice B m d,.slice MB mm md]),(1,.int .i64 fa),(2,.agg #[.int .i64 p0,.int .i64 q0,.int .i64 p1,.int .i64 q1,.int .i64 p2,.int .i64 q2])]).run prog w=.ok (.agg #[.slice B m d,.slice MB mm md,.int .i64 fa,.int .i64 p0,.int .i64 q0,.int .i64 p1,.int .i64 q1,.int .i64 p2,.int .i64 q2]) w:=fun _=>by kernel_rfl
    refine Aj Ad Zb5 fun hHeld=>?_;clear Ad KK;refine BG Lj fun KK Ad=>?_;go_simp;refine Aj Ad Zb5 fun hHeld=>?_;clear Ad KK;refine BG MH fun KK Ad=>?_;have hdz:w2.drew.heap.size=w2.heap.size:=rfl;rw [hdz] at H;clear hdz;generalize w2.heap.size=z at *;refine Jp rfl BI (.tmp 7) (.tmp 33) rfl _ rfl (H.blk 2 rfl) rfl (#[.slice B m d,.slice MB mm md,.int .i64 fa,.int .i64 p0,.int .i64 q0,.int .i64 p1,.int .i64 q1,.int .i64 p2,.int .i64 q2]) rfl rfl Za2 ?_;intro wq bq Aq;replace H:=Aa (H.AA 2 rfl Aq bq);(try simp only [LS] at H);clear Aq bq;refine Aj Ad Zb5 fun hHeld=>?_;clear Ad KK;refine BZ ?_;clear hHeld;skip;exact Zh8
 ·have dY:Hid (O=(CC.nil,Bu ⟨⟨ds.map Dm.Ac,ms⟩,fa,p0,q0,p1,q1,p2,q2⟩)):=by have h:=HO.Ab;unfold Fx at h;rw [Al hE] at h;exact h.symm
  have dE:(Bu ⟨⟨ds.map Dm.Ac,ms⟩,fa,p0,q0,p1,q1,p2,q2⟩==0)=false:=by simpa using hE
  generalize Bu ⟨⟨ds.map Dm.Ac,ms⟩,fa,p0,q0,p1,q1,p2,q2⟩=E at *;clear hE HO HK;exact Zn4
def Ct.ints (s:Ct):Prop:=AZ s.fa∧AZ s.p0∧AZ s.q0∧AZ s.p1∧AZ s.q1∧AZ s.p2∧AZ s.q2
theorem Ct.rd.ints {s:Ct} {w:World} (h:s.rd w):s.ints:=⟨h.fa,h.p0,h.q0,h.p1,h.q1,h.p2,h.q2⟩
theorem Ct.ints.rd {s:Ct} {w:World} (h:s.ints) (ho:UX s.sc w):s.rd w:=⟨ho.rd,h.1,h.2.1,h.2.2.1,h.2.2.2.1,h.2.2.2.2.1,h.2.2.2.2.2.1,h.2.2.2.2.2.2⟩
def Rcat (w0:World) (s:List UInt8) (B g z:Nat) (o:PR CC) (k:Int) (w':World):Prop:=
 k=cZ o∧∃ (D:Ct) (q:List UInt8),SL No w0 w' (Kl B s q [Aw g 63 D.cs,Aw z 63 #[.slice none 0 0,.slice none 0 0,.int .i64 0,.int .i64 0,.int .i64 0,.int .i64 0,.int .i64 0,.int .i64 0,.int .i64 0],Kj D.sc])∧(∀ d r,o=.ok (d,r)→D.Ac=d)∧D.ints
theorem Af9 {k:Int} {l:List UInt8} (h:NT l=.error k):k≠0:=by
 unfold NT at h;split at h
 ·rename_i h1;injection h with h;subst h;exact ZY h1
 ·rename_i s l1 h1;unfold zY at h;split at h
  ·rename_i h2;injection h with h;subst h;have:=EE h2;omega
  ·rename_i fa l2 h2;unfold zX at h;split at h
   ·rename_i h3;injection h with h;subst h;refine KP (p:=Mw) (fun l k h=>?_) h3;unfold Mw at h;split at h
    ·rename_i h4;injection h with h;subst h;have:=aY h4;omega
    ·split at h
     ·rename_i h4;injection h with h;subst h;have:=aY h4;omega
     ·cases h
   ·unfold iL at h;split at h
    ·cases h
    ·rename_i hE;injection h with h;subst h;exact hE
theorem mK (w0:World) (B g z:Nat) (s:List UInt8) (w:World) (h:SL No w0 w (Kl B s s [Aw g 63 #[.slice none 0 0,.slice none 0 0,.int .i64 0,.int .i64 0,.int .i64 0,.int .i64 0,.int .i64 0,.int .i64 0,.int .i64 0],Aw z 63 #[.slice none 0 0,.slice none 0 0,.int .i64 0,.int .i64 0,.int .i64 0,.int .i64 0,.int .i64 0,.int .i64 0,.int .i64 0]])):
 Calls prog 125 #[.pointer (some ⟨B+1,0,none⟩),.pointer (some ⟨g,0,none⟩)] w (Nu B s (Rcat w0 s B g z (NT s))):=by
 have HT:=Aa (XG (B+1) s s w (h.Fv 0 rfl));have H:=Aa h;clear h;go_enter func125,ntmps125;go_wp2_with fail;cases ho:GU s with
 |error k=>
  have HE:Hid (NT s=.error k):=by show _=_;unfold NT;rw [ho]
  rw [ho] at HT;refine HT.mono ?_;rintro e w1 ⟨rfl,hg,l1,hr⟩;replace H:=Aa ((H.readAll hg hr).add (Ai.refl _) _ (Ko w1) Mv);(try simp only [LS] at H);clear ho hg hr HT;go_wp2_with fail;refine ⟨rfl,?_⟩;exact SL.err H ⟨by rw [HE.Ab];(try rfl),Ct.nil,l1,H.Ab,(fun _ _ h=>by rw [HE.Ab] at h;cases h),⟨BN,BN,BN,BN,BN,BN,BN⟩⟩
 |ok q=>
  obtain ⟨sc,l1⟩:=q;have dZ:Hid (NT s=zY sc (DD 4000 l1)):=by show _=_;unfold NT;rw [ho]
  have hsc:=(iF ho).1;rw [ho] at HT;refine HT.mono ?_;rintro e w1 ⟨D,rfl,EW,hg,hr,hnew⟩;replace H:=Aa (H.ZR hg hr (Kj D) hnew.1 hnew.2);(try simp only [LS] at H);have OU:=Aa EW;have WZ:Hid (D.ms.l.length=D.ms.n):=hnew.1.now.rd.ms.len;clear ho hg hr hnew EW HT;obtain ⟨⟨B',m',d',es⟩,⟨MB,mn,md,ms⟩⟩:=D;simp only [Ej.cs,Ej.Ac] at *;have hmn:Hid (sc.ms.length=mn):=by show _=_;rw [←OU.Ab];exact WZ.Ab
  have Y0:mn≤3:=by have:=hmn.Ab;have:=(BH hsc).2.2.2.2.1;omega
  clear WZ hsc;go_wp2_with ((with_reducible refine OS 7 ?_);refine Bq rfl Bb (.tmp 7) (.tmp 6) rfl g 0 rfl (H.blk 3 rfl) #[.slice B' m' d',.slice MB mn md] rfl uH rfl Za2 ?_;intro wq bq Aq;replace bq:Bh wq g 63 #[.slice B' m' d',.slice MB mn md,.int .i64 0,.int .i64 0,.int .i64 0,.int .i64 0,.int .i64 0,.int .i64 0,.int .i64 0]:=bq;replace H:=Aa (H.AA 3 rfl Aq bq);(try simp only [LS] at H);clear Aq bq);have HN:=Aa (IM (B+1) s l1 4000 _ (H.Fv 0 rfl) Xl Xl);cases hx:DD 4000 l1 with
  |error k=>
   have HE:Hid (NT s=.error k):=by show _=_;rw [dZ.Ab,hx];(try rfl)
   rw [hx] at HN;refine HN.mono ?_;rintro e w3 ⟨rfl,hg3,l3,hr3⟩;replace H:=Aa (H.Cb 0 rfl hg3 hr3);(try simp only [LS] at H);clear hx hg3 hr3 HN;go_wp2_with fail;refine ⟨rfl,?_⟩;exact SL.err H ⟨by rw [HE.Ab];(try rfl),⟨⟨⟨B',m',d',es⟩,⟨MB,mn,md,ms⟩⟩,0,0,0,0,0,0,0⟩,l3,H.Ab,(fun _ _ h=>by rw [HE.Ab] at h;cases h),⟨BN,BN,BN,BN,BN,BN,BN⟩⟩
  |ok q=>
   obtain ⟨fa,l2⟩:=q;have hfa:=(ES hx).2.1;have HE2:Hid (NT s=zX sc fa (Bw Mw mn [] l2)):=by show _=_;rw [dZ.Ab,hx,←hmn.Ab];(try rfl)
   rw [hx] at HN;refine HN.mono ?_;rintro e w3 ⟨rfl,hg3,hr3⟩;replace H:=Aa (H.Cb 0 rfl hg3 hr3);(try simp only [LS] at H);clear hx hg3 hr3 HN dZ;have cf:=(H.blk 3 rfl).Ap 2;have ff:=(H.blk 3 rfl).frozen 2;have cm:=(H.blk 3 rfl).Ap 1;have ifa:AZ (fa:Int):=by unfold AZ;omega
   go_wp2_with fail;replace H:=Aa (H.setCell 3 rfl 2 (.int .i64 (fa:Nat)));(try simp only [LS] at H);clear cf ff cm;have HP0:Hid (Bw Mw mn [] l2=Bw Mw (mn - 0) [] l2):=rfl;have HI0:Hid (Ct.ints ⟨⟨⟨B',m',d',es⟩,⟨MB,mn,md,ms⟩⟩,fa,(([]:List (Int × Int)).getD 0 (0,0)).1,(([]:List (Int × Int)).getD 0 (0,0)).2,(([]:List (Int × Int)).getD 1 (0,0)).1,(([]:List (Int × Int)).getD 1 (0,0)).2,(([]:List (Int × Int)).getD 2 (0,0)).1,(([]:List (Int × Int)).getD 2 (0,0)).2⟩):=⟨ifa,BN,BN,BN,BN,BN,BN⟩;go_loopg [15] mn (fun gg i wr=>∃ (k:Nat) (ts:List (Int × Int)) (l':List UInt8),gg=mn - k∧k≤mn∧i=.int .i64 k∧Hid (ts.length=k)∧Hid (SL No w0 wr (Kl B s l' [Aw g 63 #[.slice B' m' d',.slice MB mn md,.int .i64 (fa:Nat),.int .i64 (ts.getD 0 (0,0)).1,.int .i64 (ts.getD 0 (0,0)).2,.int .i64 (ts.getD 1 (0,0)).1,.int .i64 (ts.getD 1 (0,0)).2,.int .i64 (ts.getD 2 (0,0)).1,.int .i64 (ts.getD 2 (0,0)).2],Aw z 63 #[.slice none 0 0,.slice none 0 0,.int .i64 0,.int .i64 0,.int .i64 0,.int .i64 0,.int .i64 0,.int .i64 0,.int .i64 0],Kj ⟨⟨B',m',d',es⟩,⟨MB,mn,md,ms⟩⟩]))∧Hid (Bw Mw mn [] l2=Bw Mw (mn - k) ts l')∧Hid (Ct.ints ⟨⟨⟨B',m',d',es⟩,⟨MB,mn,md,ms⟩⟩,fa,(ts.getD 0 (0,0)).1,(ts.getD 0 (0,0)).2,(ts.getD 1 (0,0)).1,(ts.getD 1 (0,0)).2,(ts.getD 2 (0,0)).1,(ts.getD 2 (0,0)).2⟩));case atStart=>exact ⟨0,[],l2,rfl,Xl,rfl,rfl,H,HP0,HI0⟩
   case round=>
    clear H HP0 HI0;obtain ⟨k,ts,l',BR,hk,rfl,hts,H,HP,HI⟩:=hrel;have Cs:=Aa BR;clear BR;by_cases hlt:k<mn
    ·have j1:(k:Int)<mn:=by omega
     obtain rfl|rfl|rfl:k=0∨k=1∨k=2:=by omega
     ·obtain rfl:ts=[]:=LD hts.Ab;rw [show ((0:Nat):Int)=0 from rfl] at j1 ⊢;have HA:=Aa (fun w (hR:Ir w (B+1) s l')=>Qn (B+1) s l' w hR);rw [GX (show 0<mn by omega)] at HP;cases ha:GY l' with
      |error k1=>
       rw [ha] at HA;have HE:Hid (NT s=.error k1):=by show _=_;rw [HE2.Ab,HP.Ab];unfold Mw;rw [ha];(try rfl)
       clear ha HP;go_wp2_with fail;refine (HA _ (H.Fv 0 rfl)).mono ?_;rintro e w5 ⟨rfl,hg5,l5,Tj⟩;replace H:=Aa (H.Cb 0 rfl hg5 Tj);(try simp only [LS] at H);clear hg5 Tj HA;replace HE2:=HE;go_wp2_with fail;refine ⟨rfl,?_⟩;exact SL.err H ⟨by rw [HE.Ab];(try rfl),⟨⟨⟨B',m',d',es⟩,⟨MB,mn,md,ms⟩⟩,fa,([].getD 0 (0,0)).1,([].getD 0 (0,0)).2,([].getD 1 (0,0)).1,([].getD 1 (0,0)).2,([].getD 2 (0,0)).1,([].getD 2 (0,0)).2⟩,l5,H.Ab,(fun _ _ h=>by rw [HE.Ab] at h;cases h),HI.Ab⟩
      |ok q=>
       obtain ⟨a,l5⟩:=q;have ia:=(KR ha).2;rw [ha] at HA;go_wp2_with fail;refine (HA _ (H.Fv 0 rfl)).mono ?_;rintro e w5 ⟨rfl,hg5,Tj⟩;replace H:=Aa (H.Cb 0 rfl hg5 Tj);(try simp only [LS] at H);clear hg5 Tj HA;have HA:=Aa (fun w (hR:Ir w (B+1) s l5)=>Qn (B+1) s l5 w hR);cases hb:GY l5 with
       |error k1=>
        rw [hb] at HA;have HE:Hid (NT s=.error k1):=by show _=_;rw [HE2.Ab,HP.Ab];unfold Mw;rw [ha];simp only;rw [hb];(try rfl)
        clear ha hb HP;go_wp2_with fail;refine (HA _ (H.Fv 0 rfl)).mono ?_;rintro e w6 ⟨rfl,rJ,l6,rD⟩;replace H:=Aa (H.Cb 0 rfl rJ rD);(try simp only [LS] at H);clear rJ rD HA;go_wp2_with fail;refine ⟨rfl,?_⟩;exact SL.err H ⟨by rw [HE.Ab];(try rfl),⟨⟨⟨B',m',d',es⟩,⟨MB,mn,md,ms⟩⟩,fa,([].getD 0 (0,0)).1,([].getD 0 (0,0)).2,([].getD 1 (0,0)).1,([].getD 1 (0,0)).2,([].getD 2 (0,0)).1,([].getD 2 (0,0)).2⟩,l6,H.Ab,(fun _ _ h=>by rw [HE.Ab] at h;cases h),HI.Ab⟩
       |ok q=>
        obtain ⟨b,l6⟩:=q;have ib:=(KR hb).2;rw [hb] at HA;have Xq:Hid (Bw Mw mn [] l2=Bw Mw (mn - (0+1)) [(a,b)] l6):=by show _=_;rw [HP.Ab];unfold Mw;rw [ha];simp only;rw [hb];(try rfl)
        have HI2:Hid (Ct.ints ⟨⟨⟨B',m',d',es⟩,⟨MB,mn,md,ms⟩⟩,fa,([(a,b)].getD 0 (0,0)).1,([(a,b)].getD 0 (0,0)).2,([(a,b)].getD 1 (0,0)).1,([(a,b)].getD 1 (0,0)).2,([(a,b)].getD 2 (0,0)).1,([(a,b)].getD 2 (0,0)).2⟩):=⟨HI.1,ia,ib,HI.2.2.2.1,HI.2.2.2.2.1,HI.2.2.2.2.2.1,HI.2.2.2.2.2.2⟩;clear ha hb HP;go_wp2_with fail;refine (HA _ (H.Fv 0 rfl)).mono ?_;rintro e w6 ⟨rfl,rJ,rD⟩;replace H:=Aa (H.Cb 0 rfl rJ rD);(try simp only [LS] at H);clear rJ rD HA;go_wp2_with ((with_reducible refine OS 25 ?_);refine Bq rfl CO (.tmp 25) (.tmp 23) rfl g 3 rfl (H.blk 3 rfl) #[.int .i64 a,.int .i64 b] rfl uH rfl Za2 ?_;intro wq bq Aq;replace bq:Bh wq g 63 #[.slice B' m' d',.slice MB mn md,.int .i64 (fa:Nat),.int .i64 ([(a,b)].getD 0 (0,0)).1,.int .i64 ([(a,b)].getD 0 (0,0)).2,.int .i64 ([(a,b)].getD 1 (0,0)).1,.int .i64 ([(a,b)].getD 1 (0,0)).2,.int .i64 ([(a,b)].getD 2 (0,0)).1,.int .i64 ([(a,b)].getD 2 (0,0)).2]:=bq;replace H:=Aa (H.AA 3 rfl Aq bq);(try simp only [LS] at H);clear Aq bq);go_roundg (mn - (0+1));case rel=>exact ⟨0+1,[(a,b)],l6,rfl,Xl,rfl,rfl,H,Xq,HI2⟩
        case measure=>rw [Cs.Ab];omega
     ·obtain ⟨t0,rfl⟩:∃ t0,ts=[t0]:=by match ts,hts.Ab with|[x],_=>exact ⟨x,rfl⟩
      rw [show ((1:Nat):Int)=1 from rfl] at j1 ⊢;have HA:=Aa (fun w (hR:Ir w (B+1) s l')=>Qn (B+1) s l' w hR);rw [GX (show 1<mn by omega)] at HP;cases ha:GY l' with
      |error k1=>
       rw [ha] at HA;have HE:Hid (NT s=.error k1):=by show _=_;rw [HE2.Ab,HP.Ab];unfold Mw;rw [ha];(try rfl)
       clear ha HP;go_wp2_with fail;refine (HA _ (H.Fv 0 rfl)).mono ?_;rintro e w5 ⟨rfl,hg5,l5,Tj⟩;replace H:=Aa (H.Cb 0 rfl hg5 Tj);(try simp only [LS] at H);clear hg5 Tj HA;replace HE2:=HE;go_wp2_with fail;refine ⟨rfl,?_⟩;exact SL.err H ⟨by rw [HE.Ab];(try rfl),⟨⟨⟨B',m',d',es⟩,⟨MB,mn,md,ms⟩⟩,fa,([t0].getD 0 (0,0)).1,([t0].getD 0 (0,0)).2,([t0].getD 1 (0,0)).1,([t0].getD 1 (0,0)).2,([t0].getD 2 (0,0)).1,([t0].getD 2 (0,0)).2⟩,l5,H.Ab,(fun _ _ h=>by rw [HE.Ab] at h;cases h),HI.Ab⟩
      |ok q=>
       obtain ⟨a,l5⟩:=q;have ia:=(KR ha).2;rw [ha] at HA;go_wp2_with fail;refine (HA _ (H.Fv 0 rfl)).mono ?_;rintro e w5 ⟨rfl,hg5,Tj⟩;replace H:=Aa (H.Cb 0 rfl hg5 Tj);(try simp only [LS] at H);clear hg5 Tj HA;have HA:=Aa (fun w (hR:Ir w (B+1) s l5)=>Qn (B+1) s l5 w hR);cases hb:GY l5 with
       |error k1=>
        rw [hb] at HA;have HE:Hid (NT s=.error k1):=by show _=_;rw [HE2.Ab,HP.Ab];unfold Mw;rw [ha];simp only;rw [hb];(try rfl)
        clear ha hb HP;go_wp2_with fail;refine (HA _ (H.Fv 0 rfl)).mono ?_;rintro e w6 ⟨rfl,rJ,l6,rD⟩;replace H:=Aa (H.Cb 0 rfl rJ rD);(try simp only [LS] at H);clear rJ rD HA;go_wp2_with fail;refine ⟨rfl,?_⟩;exact SL.err H ⟨by rw [HE.Ab];(try rfl),⟨⟨⟨B',m',d',es⟩,⟨MB,mn,md,ms⟩⟩,fa,([t0].getD 0 (0,0)).1,([t0].getD 0 (0,0)).2,([t0].getD 1 (0,0)).1,([t0].getD 1 (0,0)).2,([t0].getD 2 (0,0)).1,([t0].getD 2 (0,0)).2⟩,l6,H.Ab,(fun _ _ h=>by rw [HE.Ab] at h;cases h),HI.Ab⟩
       |ok q=>
        obtain ⟨b,l6⟩:=q;have ib:=(KR hb).2;rw [hb] at HA;have Xq:Hid (Bw Mw mn [] l2=Bw Mw (mn - (1+1)) [t0,(a,b)] l6):=by show _=_;rw [HP.Ab];unfold Mw;rw [ha];simp only;rw [hb];(try rfl)
        have HI2:Hid (Ct.ints ⟨⟨⟨B',m',d',es⟩,⟨MB,mn,md,ms⟩⟩,fa,([t0,(a,b)].getD 0 (0,0)).1,([t0,(a,b)].getD 0 (0,0)).2,([t0,(a,b)].getD 1 (0,0)).1,([t0,(a,b)].getD 1 (0,0)).2,([t0,(a,b)].getD 2 (0,0)).1,([t0,(a,b)].getD 2 (0,0)).2⟩):=⟨HI.1,HI.2.1,HI.2.2.1,ia,ib,HI.2.2.2.2.2.1,HI.2.2.2.2.2.2⟩;clear ha hb HP;go_wp2_with fail;refine (HA _ (H.Fv 0 rfl)).mono ?_;rintro e w6 ⟨rfl,rJ,rD⟩;replace H:=Aa (H.Cb 0 rfl rJ rD);(try simp only [LS] at H);clear rJ rD HA;go_wp2_with ((with_reducible refine OS 25 ?_);refine Bq rfl CO (.tmp 25) (.tmp 23) rfl g 5 rfl (H.blk 3 rfl) #[.int .i64 a,.int .i64 b] rfl uH rfl Za2 ?_;intro wq bq Aq;replace bq:Bh wq g 63 #[.slice B' m' d',.slice MB mn md,.int .i64 (fa:Nat),.int .i64 ([t0,(a,b)].getD 0 (0,0)).1,.int .i64 ([t0,(a,b)].getD 0 (0,0)).2,.int .i64 ([t0,(a,b)].getD 1 (0,0)).1,.int .i64 ([t0,(a,b)].getD 1 (0,0)).2,.int .i64 ([t0,(a,b)].getD 2 (0,0)).1,.int .i64 ([t0,(a,b)].getD 2 (0,0)).2]:=bq;replace H:=Aa (H.AA 3 rfl Aq bq);(try simp only [LS] at H);clear Aq bq);go_roundg (mn - (1+1));case rel=>exact ⟨1+1,[t0,(a,b)],l6,rfl,Xl,rfl,rfl,H,Xq,HI2⟩
        case measure=>rw [Cs.Ab];omega
     ·obtain ⟨t0,t1,rfl⟩:∃ t0 t1,ts=[t0,t1]:=by match ts,hts.Ab with|[x,y],_=>exact ⟨x,y,rfl⟩
      rw [show ((2:Nat):Int)=2 from rfl] at j1 ⊢;have HA:=Aa (fun w (hR:Ir w (B+1) s l')=>Qn (B+1) s l' w hR);rw [GX (show 2<mn by omega)] at HP;cases ha:GY l' with
      |error k1=>
       rw [ha] at HA;have HE:Hid (NT s=.error k1):=by show _=_;rw [HE2.Ab,HP.Ab];unfold Mw;rw [ha];(try rfl)
       clear ha HP;go_wp2_with fail;refine (HA _ (H.Fv 0 rfl)).mono ?_;rintro e w5 ⟨rfl,hg5,l5,Tj⟩;replace H:=Aa (H.Cb 0 rfl hg5 Tj);(try simp only [LS] at H);clear hg5 Tj HA;replace HE2:=HE;go_wp2_with fail;refine ⟨rfl,?_⟩;exact SL.err H ⟨by rw [HE.Ab];(try rfl),⟨⟨⟨B',m',d',es⟩,⟨MB,mn,md,ms⟩⟩,fa,([t0,t1].getD 0 (0,0)).1,([t0,t1].getD 0 (0,0)).2,([t0,t1].getD 1 (0,0)).1,([t0,t1].getD 1 (0,0)).2,([t0,t1].getD 2 (0,0)).1,([t0,t1].getD 2 (0,0)).2⟩,l5,H.Ab,(fun _ _ h=>by rw [HE.Ab] at h;cases h),HI.Ab⟩
      |ok q=>
       obtain ⟨a,l5⟩:=q;have ia:=(KR ha).2;rw [ha] at HA;go_wp2_with fail;refine (HA _ (H.Fv 0 rfl)).mono ?_;rintro e w5 ⟨rfl,hg5,Tj⟩;replace H:=Aa (H.Cb 0 rfl hg5 Tj);(try simp only [LS] at H);clear hg5 Tj HA;have HA:=Aa (fun w (hR:Ir w (B+1) s l5)=>Qn (B+1) s l5 w hR);cases hb:GY l5 with
       |error k1=>
        rw [hb] at HA;have HE:Hid (NT s=.error k1):=by show _=_;rw [HE2.Ab,HP.Ab];unfold Mw;rw [ha];simp only;rw [hb];(try rfl)
        clear ha hb HP;go_wp2_with fail;refine (HA _ (H.Fv 0 rfl)).mono ?_;rintro e w6 ⟨rfl,rJ,l6,rD⟩;replace H:=Aa (H.Cb 0 rfl rJ rD);(try simp only [LS] at H);clear rJ rD HA;go_wp2_with fail;refine ⟨rfl,?_⟩;exact SL.err H ⟨by rw [HE.Ab];(try rfl),⟨⟨⟨B',m',d',es⟩,⟨MB,mn,md,ms⟩⟩,fa,([t0,t1].getD 0 (0,0)).1,([t0,t1].getD 0 (0,0)).2,([t0,t1].getD 1 (0,0)).1,([t0,t1].getD 1 (0,0)).2,([t0,t1].getD 2 (0,0)).1,([t0,t1].getD 2 (0,0)).2⟩,l6,H.Ab,(fun _ _ h=>by rw [HE.Ab] at h;cases h),HI.Ab⟩
       |ok q=>
        obtain ⟨b,l6⟩:=q;have ib:=(KR hb).2;rw [hb] at HA;have Xq:Hid (Bw Mw mn [] l2=Bw Mw (mn - (2+1)) [t0,t1,(a,b)] l6):=by show _=_;rw [HP.Ab];unfold Mw;rw [ha];simp only;rw [hb];(try rfl)
        have HI2:Hid (Ct.ints ⟨⟨⟨B',m',d',es⟩,⟨MB,mn,md,ms⟩⟩,fa,([t0,t1,(a,b)].getD 0 (0,0)).1,([t0,t1,(a,b)].getD 0 (0,0)).2,([t0,t1,(a,b)].getD 1 (0,0)).1,([t0,t1,(a,b)].getD 1 (0,0)).2,([t0,t1,(a,b)].getD 2 (0,0)).1,([t0,t1,(a,b)].getD 2 (0,0)).2⟩):=⟨HI.1,HI.2.1,HI.2.2.1,HI.2.2.2.1,HI.2.2.2.2.1,ia,ib⟩;clear ha hb HP;go_wp2_with fail;refine (HA _ (H.Fv 0 rfl)).mono ?_;rintro e w6 ⟨rfl,rJ,rD⟩;replace H:=Aa (H.Cb 0 rfl rJ rD);(try simp only [LS] at H);clear rJ rD HA;go_wp2_with ((with_reducible refine OS 25 ?_);refine Bq rfl CO (.tmp 25) (.tmp 23) rfl g 7 rfl (H.blk 3 rfl) #[.int .i64 a,.int .i64 b] rfl uH rfl Za2 ?_;intro wq bq Aq;replace bq:Bh wq g 63 #[.slice B' m' d',.slice MB mn md,.int .i64 (fa:Nat),.int .i64 ([t0,t1,(a,b)].getD 0 (0,0)).1,.int .i64 ([t0,t1,(a,b)].getD 0 (0,0)).2,.int .i64 ([t0,t1,(a,b)].getD 1 (0,0)).1,.int .i64 ([t0,t1,(a,b)].getD 1 (0,0)).2,.int .i64 ([t0,t1,(a,b)].getD 2 (0,0)).1,.int .i64 ([t0,t1,(a,b)].getD 2 (0,0)).2]:=bq;replace H:=Aa (H.AA 3 rfl Aq bq);(try simp only [LS] at H);clear Aq bq);go_roundg (mn - (2+1));case rel=>exact ⟨2+1,[t0,t1,(a,b)],l6,rfl,Xl,rfl,rfl,H,Xq,HI2⟩
        case measure=>rw [Cs.Ab];omega
    ·obtain rfl:k=mn:=by omega
     have HE3:Hid (NT s=iL (mkCC sc fa ts) l'):=by show _=_;rw [HE2.Ab,HP.Ab,PU];(try rfl)
     clear HP HE2;have Nh:=Aa (fun w' h=>Qw ⟨⟨⟨B',m',d',es⟩,⟨MB,k,md,ms⟩⟩,fa,(ts.getD 0 (0,0)).1,(ts.getD 0 (0,0)).2,(ts.getD 1 (0,0)).1,(ts.getD 1 (0,0)).2,(ts.getD 2 (0,0)).1,(ts.getD 2 (0,0)).2⟩ w' h);rw [show Ct.Ac ⟨⟨⟨B',m',d',es⟩,⟨MB,k,md,ms⟩⟩,fa,(ts.getD 0 (0,0)).1,(ts.getD 0 (0,0)).2,(ts.getD 1 (0,0)).1,(ts.getD 1 (0,0)).2,(ts.getD 2 (0,0)).1,(ts.getD 2 (0,0)).2⟩=mkCC sc fa ts from by rw [←OU.Ab];rfl] at Nh;generalize hmk:mkCC sc fa ts=M at Nh HE3;have HM:=Aa hmk;clear hmk;go_wp2_with ((with_reducible refine OP 27 ?_);(refine Bf BI (H.blk 3 rfl) ?_));refine (Nh _ (HI.rd (H.at_ 5 rfl)) (GH (H.at_ 5 rfl))).mono ?_;rintro e w5 ⟨rfl,hb5⟩;replace H:=Aa (H.Av hb5);clear hb5 Nh;by_cases hE0:Bu M=0
     ·have HE:Hid (NT s=.ok (M,l')):=by show _=_;rw [HE3.Ab];unfold iL;rw [Al hE0]
      rw [hE0];clear hE0 HE3;go_wp2_with fail;refine (Mq (B+1) s l' 0 _ (H.Fv 0 rfl)).mono ?_;rintro e w6 ⟨rfl,rfl⟩;go_wp2_with fail;go_end0;exact SL.ok H ⟨by rw [HE.Ab];(try rfl),⟨⟨⟨B',m',d',es⟩,⟨MB,k,md,ms⟩⟩,fa,(ts.getD 0 (0,0)).1,(ts.getD 0 (0,0)).2,(ts.getD 1 (0,0)).1,(ts.getD 1 (0,0)).2,(ts.getD 2 (0,0)).1,(ts.getD 2 (0,0)).2⟩,l',H.Ab,(fun d r h=>by rw [HE.Ab] at h;injection h with h;injection h with h _;rw [←h,←HM.Ab,←OU.Ab];(try rfl)),HI.Ab⟩
     ·have HE:Hid (NT s=.error (Bu M)):=by show _=_;rw [HE3.Ab];unfold iL;rw [Ak hE0]
      have HW:Hid (Gr (Bu M)=Bu M):=by show _=_;unfold Gr;rw [Ak hE0]
      have dE:(Bu M==0)=false:=by simpa using hE0
      generalize Bu M=E at *;clear HE3;go_wp2_with fail;refine (JB (B+1) s l' E _ (H.Fv 0 rfl)).mono ?_;rintro e w6 ⟨rfl,rfl⟩;rw [HW.Ab];go_wp2_with fail;refine ⟨rfl,?_⟩;exact SL.err H ⟨by rw [HE.Ab];(try rfl),⟨⟨⟨B',m',d',es⟩,⟨MB,k,md,ms⟩⟩,fa,(ts.getD 0 (0,0)).1,(ts.getD 0 (0,0)).2,(ts.getD 1 (0,0)).1,(ts.getD 1 (0,0)).2,(ts.getD 2 (0,0)).1,(ts.getD 2 (0,0)).2⟩,l',H.Ab,(fun _ _ h=>by rw [HE.Ab] at h;cases h),HI.Ab⟩
theorem Zn5 {p:Prop} (h:p:=by go_wp2_with ((with_reducible refine OS 2 ?_);(refine Cj BI H 1 rfl (#[.slice none 0 0,.slice none 0 0,.int .i64 0,.int .i64 0,.int .i64 0,.int .i64 0,.int .i64 0,.int .i64 0,.int .i64 0]) Za2 ?_;clear H;intro wq H;(try simp only [LS] at H)));refine Bc (Au rfl BI rfl (H.blk 1 rfl) rfl) rfl ?_;rw [HT.Ab];exact Da H.to):p:=h
theorem mJ (s:List UInt8) (w:World) (hs:s.length≤140737488351232):
 Calls prog 82 #[.string ⟨s.toArray⟩] w (Wo (Nr s) w):=by
 have hmf:∀ (fn:Fn) (first cap:Array Value) (w:World),(Instr.makeFunc fn first cap).run prog w=.ok (.func fn first cap) w:=fun _ _ _ _=>rfl
 have H:=Aa (((SL.start No w).alloc #[.slice none 0 0,.slice none 0 0,.int .i64 0,.int .i64 0,.int .i64 0,.int .i64 0,.int .i64 0,.int .i64 0,.int .i64 0] 63).alloc #[.slice none 0 0,.slice none 0 0,.int .i64 0,.int .i64 0,.int .i64 0,.int .i64 0,.int .i64 0,.int .i64 0,.int .i64 0] 63);(try simp only [LS] at H);go_enter func82,ntmps82;go_wp2_with fail;replace H:=Aa (H.Fg [1,0] Za1 uH);(try simp only [LS] at H);generalize hzg:w.heap.size+1=g at *;clear hzg;generalize w.heap.size=z at *;generalize (w.alloc (.cells #[.slice none 0 0,.slice none 0 0,.int .i64 0,.int .i64 0,.int .i64 0,.int .i64 0,.int .i64 0,.int .i64 0,.int .i64 0] 63)).alloc (.cells #[.slice none 0 0,.slice none 0 0,.int .i64 0,.int .i64 0,.int .i64 0,.int .i64 0,.int .i64 0,.int .i64 0,.int .i64 0] 63)=W at *;refine (YP 125 #[.pointer (some ⟨g,0,none⟩)] s W hs (Rcat w s W.heap.size g z (NT s)) (mH func125 Za0 Za0) (fun w4 h1 h2 h3 h4 h5=>mK w W.heap.size g z s w4 (H.begin h1 h3 h4 h5))).mono ?_;rintro e w5 ⟨k,w4,rfl,⟨hk,D,q,hS,hD,hI⟩,Gn,_⟩;replace H:=Aa (hS.ended Gn);(try simp only [LS] at H);clear hS Gn;generalize W.heap.size=B at *;cases hT:NT s with
 |error k'=>
  have HT:Hid (Nr s=(CC.nil,k')):=by show _=_;unfold Nr;rw [hT]
  have hk':=Af9 hT;rw [hT] at hk;have hk2:k=k':=hk;subst hk2;have dk:(k==0)=false:=by simpa using hk'
  have dk2:(k !=0)=true:=by simpa using hk'
  clear hT hk hk' hD;exact Zn5
 |ok q=>
  obtain ⟨t,l⟩:=q;rw [hT] at hk;obtain rfl:=hD _ _ hT;by_cases hl:l=[]
  ·have HT:Hid (Nr s=(D.Ac,0)):=by show _=_;unfold Nr;rw [hT];simp [hl]
   have hk2:k=0:=by rw [hk];show (if l=[] then (0:Int) else 3)=0;rw [Al hl]
   subst hk2;have HI:=Aa hI;clear hT hk hl hD hI;go_wp2_with (first|((with_reducible refine OP 13 ?_);(refine Bf BI (H.blk 0 rfl) ?_))|((with_reducible refine OS 2 ?_);(refine Cj BI H 1 rfl (D.cs) (Oc D) ?_;clear H;intro wq H;(try simp only [LS] at H))));refine Bc (Au rfl BI rfl (H.blk 1 rfl) rfl) rfl ?_;rw [HT.Ab];exact ⟨D,rfl,rfl,HI.rd (H.at_ 2 rfl),GH (H.at_ 2 rfl),H.to,H.get 2 rfl,H.new 2 rfl⟩
  ·have HT:Hid (Nr s=(CC.nil,3)):=by show _=_;unfold Nr;rw [hT];simp [hl]
   have hk2:k=3:=by rw [hk];show (if l=[] then (0:Int) else 3)=3;rw [Ak hl]
   subst hk2;clear hT hk hl hD;exact Zn5
end Go.Proofs.YtijplolmkcdflaaGreat
namespace Go.Proofs.YtijplolmkcdflaaGreat
open Tryz
open Go.RowKit Go.ChangeShapes Go.WideShapes Go.Deep
theorem ZJ (a:CC):XH a a=true:=(K6 a a).2 rfl
abbrev exSC:SC:=⟨[exDC],[[109]]⟩
end Go.Proofs.YtijplolmkcdflaaGreat
namespace Go.Proofs.YtijplolmkcdflaaGreat
open Go.RowKit
end Go.Proofs.YtijplolmkcdflaaGreat
namespace Go.Proofs.YtijplolmkcdflaaGreat
open Go.RowKit Go.ChangeShapes Go.WideShapes Go.Deep
structure Shp where
 sz:Row (Row Int)
 ms:Int
abbrev Shp.cs (x:Shp):Array Value:=#[.slice x.sz.A x.sz.n x.sz.c,.int .i64 x.ms]
structure Shp.rd (w:World) (x:Shp):Prop where
 sz:x.sz.rd w
 ms:AZ x.ms
theorem Shp.rd.mono {w w':World} {x:Shp} (h:x.rd w) (hb:Ai w w'):x.rd w':=⟨h.sz.mono hb,h.ms⟩
abbrev Shp.Ac (x:Shp):List (List Int):=x.sz.l.map Row.l
end Go.Proofs.YtijplolmkcdflaaGreat
namespace Go.Proofs.YtijplolmkcdflaaGreat
open Go.RowKit
structure Tiers (d:DC) (p:PC) (T M B:Nat):Prop where
 t:vP p=T
 m:max p.t (vP p)=M
 b:max p.Mf (vP p)=B
 tm:T≤M
 tb:T≤B
 ml:M<d.Bi.length
 bl:B<d.Bi.length
 pm:p.f≠0→p.t=M
 pb:p.g=true→p.Mf=B
 p0:0≤p.t
 f:p.f=0∨p.f=1∨p.f=2
end Go.Proofs.YtijplolmkcdflaaGreat
namespace Go.Proofs.YtijplolmkcdflaaGreat
open Tryz
open Go.RowKit
theorem yY {Bi:List TC} (h:Iu Bi) {k:Nat} {U V:TC} (hU:Bi[k]?=some U) (hV:Bi[k+1]?=some V):U.up.length=U.ts.length∧∀ z ∈ U.up,0≤z∧z<V.ts.length:=by
 have h2:=dL h k;obtain ⟨l1,rfl⟩:=CB.1 hU;obtain ⟨l2,rfl⟩:=CB.1 hV;rw [Eg l1,Eg l2] at h2;exact ⟨(Iu.step h2).1,(Iu.step h2).2.1⟩
theorem gZ (d:Dm) (f t i:Nat) (w:World) (hd:d.rd w) (hok:Iu (d.tr.l.map Bt.Ac)) (hft:f≤t) (htn:t<d.tr.n) (hi:i<Et (d.tr.l.map Bt.Ac) f):
 Calls prog 162 #[.agg d.cs,.int .i64 f,.int .i64 t,.int .i64 i] w fun e w'=>e=.returned (.int .i64 (DI (d.tr.l.map Bt.Ac) f t i))∧Ai w w':=by
 have hlen:Hid (d.tr.l.length=d.tr.n):=hd.tr.len;have H:=Aa ((SL.start No w).alloc d.cs 73);(try simp only [LS] at H);have HD:=Aa (fun w' (hb:Ai w w')=>hd.tr.mono hb);have KC:=Aa hok;have hw:=(OH hok hft (by rw [CQ,hlen.Ab];exact htn) hi);have HE:Hid (DI (d.tr.l.map Bt.Ac) f t i=IZ ((d.tr.l.map Bt.Ac).drop f) (t - f) i):=hw.1;obtain ⟨T,hT⟩:∃ X,d.tr.l[f]?=some X:=⟨_,Fp (by rw [hlen.Ab];omega)⟩;have hTr:=hd.tr.all T (CU hT);have hTn:Et (d.tr.l.map Bt.Ac) f=T.ts.n:=by rw [Qc hT];exact hTr.ts.len
 have HI:Hid (i<Et (d.tr.l.map Bt.Ac) f):=hi;rw [hTn] at hi;have t63:=hTr.ts.n63;have d63:=hd.tr.n63;obtain ⟨bb,oo,T',hA,hbb,hT',_,hrg⟩:=hd.tr.JO (k:=f) Xl;obtain rfl:T=T':=by rw [hT] at hT';injection hT'
 have hrc:=((Ai.refl w).alloc (.cells d.cs 73)|>.cell (p:=⟨bb,oo+f * 3+1,none⟩) hbb).trans (hrg 1 (.slice T.ts.A T.ts.n T.ts.c) rfl);obtain ⟨R,hR⟩:∃ R,R=DI (d.tr.l.map Bt.Ac) f t i:=⟨_,rfl⟩;rw [←hR] at HE hw ⊢;have hR0:=hw.2.1;clear hR hw hT hT' hTr hTn hrg hd hok;obtain ⟨nm,⟨A,n,c,Bi⟩⟩:=d;simp only [Dm.cs] at *;subst hA;go_enter func162,ntmps162;go_upto_region 1 with fail;generalize w.heap.size=x at *;generalize World.alloc w _=w1 at *;have cd:w1.cell? ⟨x,1,none⟩=some (.slice (some ⟨bb,oo,none⟩) n c):=(H.blk 0 rfl).cell 1;have i0:(0:Int)≤f:=by omega
 have i1:(f:Int)<n:=by omega
 have d1:decide ((n:Int)≤t)=false:=by simp;omega
 have d2:decide ((t:Int)<f)=false:=by simp;omega
 have d3:decide ((T.ts.n:Int)≤i)=false:=by simp;omega
 have e1:decide (n≤t)=false:=by simp;omega
 have e2:decide (t<f)=false:=by simp;omega
 have e3:decide (T.ts.n≤i)=false:=by simp;omega
 go_wp2_with fail;clear cd hrc d1 d2 d3 e1 e2 e3;go_loopg [3,9] (t - f) (fun gg s3 s9 wr=>∃ (k j:Nat),gg=t - k∧f≤k∧k≤t∧s3=.int .i64 j∧s9=.int .i64 k∧Hid (j<Et (Bi.map Bt.Ac) k)∧Hid (R=IZ ((Bi.map Bt.Ac).drop k) (t - k) j)∧Hid (SL No w wr [Aw x 73 #[.string ⟨nm.toArray⟩,.slice (some ⟨bb,oo,none⟩) n c]]));case atStart=>exact ⟨f,i,rfl,Xl,Xl,rfl,rfl,HI,HE,H⟩
 case round=>
  clear H HE HI;obtain ⟨k,j,BR,hk0,hk,rfl,rfl,HI,HE,H⟩:=hrel;have Cs:=Aa BR;clear BR;by_cases hlt:k<t
  ·obtain ⟨b2,o2,U,hA2,hb2,hU,hUr,hrg2⟩:=(HD _ H.to).JO (k:=k) (show k<n by omega);simp only [Option.some.injEq,Addr.mk.injEq] at hA2;obtain ⟨rfl,rfl,_⟩:=hA2;have hUc:(Bi.map Bt.Ac)[k]?=some U.Ac:=by rw [Ed,hU];(try rfl)
   obtain ⟨V,hV⟩:∃ X,Bi[k+1]?=some X:=⟨_,Fp (by rw [hlen.Ab];omega)⟩;have hVc:(Bi.map Bt.Ac)[k+1]?=some V.Ac:=by rw [Ed,hV];(try rfl)
   obtain ⟨hs1,hs2⟩:=yY KC hUc hVc;have hjU:j<U.up.n:=by
    have h:=HI.Ab;rw [Qc hU] at h;have h2:U.up.l.length=U.up.n:=hUr.up.len;have h3:U.up.l.length=U.ts.l.length:=hs1;omega
   obtain ⟨b3,o3,z,hA3,hz,q1⟩:=Oz rfl hUr.up.r (k:=j) hjU;have q1:=q1 _ rfl;have hz2:=hs2 z (CU hz);obtain ⟨z,rfl⟩:∃ m:Nat,z=m:=⟨z.toNat,Xl⟩;have HI2:Hid (z<Et (Bi.map Bt.Ac) (k+1)):=by
    show _<_;rw [Qc hV];have:(z:Int)<V.ts.l.length:=hz2.2;omega
   have HE2:Hid (R=IZ ((Bi.map Bt.Ac).drop (k+1)) (t - (k+1)) z):=by
    show _=_;rw [HE.Ab,show t - k=(t - (k+1))+1 by omega,aT hUc Xl]
    congr 1
    unfold JX;rw [Ak Xl,Db,show U.Ac.up[j]?=some (z:Int) from hz]
    rfl
   have hc2:=hrg2 2 (.slice U.up.A U.up.n U.up.c) rfl;have cd:wr.cell? ⟨x,1,none⟩=some (.slice (some ⟨bb,oo,none⟩) n c):=(H.blk 0 rfl).cell 1;rw [hA3] at hc2;have u63:=hUr.up.n63;have d4:decide ((k:Int)<t)=true:=by simp;omega
   have e4:decide (k<t)=true:=by simp;omega
   have d5:decide ((U.up.n:Int)≤j)=false:=by simp;omega
   have e5:decide (U.up.n≤j)=false:=by simp;omega
   have i2:(0:Int)≤k:=by omega
   have i3:(k:Int)<n:=by omega
   have i4:(0:Int)≤j:=by omega
   have i5:(j:Int)<U.up.n:=by omega
   clear hU hV hUc hVc hs1 hs2 hz hz2 hrg2 hUr HE HI hb2 hA3;generalize U.up.n=un at *;generalize U.up.c=uc at *;go_wp2_with fail;clear q1 hc2 cd;go_roundg (t - (k+1));case rel=>exact ⟨k+1,z,rfl,Xl,Xl,rfl,by go_num,HI2,HE2,H⟩
   case measure=>rw [Cs.Ab];omega
  ·obtain rfl:k=t:=by omega
   have HRJ:Hid (R=j):=by show _=_;rw [HE.Ab,PU,Uz]
   clear HE;go_wp2;go_ret;rw [HRJ.Ab];exact ⟨rfl,H.to⟩
theorem SK (a b:List UInt8):(Op.bytesLess a b||a==b)=!Op.bytesLess b a:=by
 cases h:Op.bytesLess a b with
 |true=>
  cases h2:Op.bytesLess b a with
  |true=>have:=Ql h h2;rw [RY] at this;cases this
  |false=>rfl
 |false=>
  by_cases e:a=b
  ·subst e;rw [RY];simp
  ·rw [xM h e];simp [e]
theorem N7 (D:Dm) (p:Pk) (M k:Nat) (T:Bt) (u:List UInt8) (w:World) (hD:D.rd w) (hp:p.rd w) (hT:D.tr.l[M]?=some T) (hu:T.ts.l[k]?=some u) (hM:p.f≠0→p.t=M) (hf:p.f=0∨p.f=1∨p.f=2):
 Calls prog 161 #[.agg D.cs,.agg p.cs,.int .i64 k] w fun e w'=>e=.returned (.bool (KQ p.Ac u))∧Ai w w':=by
 have H:=Aa (((SL.start No w).alloc D.cs 73).alloc p.cs 80);(try simp only [LS] at H);have hTr:=hD.tr.all T (CU hT);have hMn:M<D.tr.n:=by have:=(CB.1 hT).1;rw [hD.tr.len] at this;exact this
 have hkn:k<T.ts.n:=by have:=(CB.1 hu).1;rw [hTr.ts.len] at this;exact this
 obtain ⟨bt,ot,T',hA,hbt,hT',_,hrg⟩:=hD.tr.JO (k:=M) hMn;obtain rfl:T=T':=by rw [hT] at hT';injection hT'
 obtain ⟨bu,ou,u',hA2,hu',lT,lV⟩:=hTr.ts.GR (k:=k) hkn;obtain rfl:u=u':=by rw [hu] at hu';injection hu'
 have hrc:=((((Ai.refl w).alloc (.cells D.cs 73)).alloc (.cells p.cs 80)).cell (p:=⟨bt,ot+M * 3+1,none⟩) hbt).trans (hrg 1 (.slice T.ts.A T.ts.n T.ts.c) rfl);have lV:=((((Ai.refl w).alloc (.cells D.cs 73)).alloc (.cells p.cs 80)).cell (p:=⟨bu,ou+k,none⟩) (JM _ _ lV)).trans lV;have HAT:=Aa (fun w' (hb:Ai w w')=>kU p.set u w' (hp.set.mono hb));have i0:(0:Int)≤M:=by omega
 have i1:(M:Int)<D.tr.n:=by omega
 have i2:(0:Int)≤k:=by omega
 have i3:(k:Int)<T.ts.n:=by omega
 have t63:=hTr.ts.n63;have hl0:p.f=0→KQ p.Ac u=true:=fun hf=>by unfold KQ;rw [Al (show p.Ac.f=0 from hf)]
 have hl1:p.f=1→KQ p.Ac u=within p.lo p.hi u:=fun hf=>by unfold KQ;rw [Ak (show ¬ p.Ac.f=0 by rw [show p.Ac.f=p.f from rfl,hf];decide),Al (show p.Ac.f=1 from hf)]
 have hl2:p.f=2→KQ p.Ac u=decide (0≤Sl u p.set.l):=fun hf=>by unfold KQ;rw [Ak (show ¬ p.Ac.f=0 by rw [show p.Ac.f=p.f from rfl,hf];decide),Ak (show ¬ p.Ac.f=1 by rw [show p.Ac.f=p.f from rfl,hf];decide),Ab0]
 rw [hA2] at hrc;generalize KQ p.Ac u=R at *;clear hD hp hT hT' hTr hrg hMn hkn hu hu' hA2 hbt;obtain ⟨QS,⟨TA,tn,tc,ts⟩,tup⟩:=T;obtain ⟨pf,pt,lo,hi,⟨A,n,c,set⟩,g,pb⟩:=p;obtain ⟨nm,⟨A2,n2,cp2,Bi⟩⟩:=D;simp only [Pk.cs,Dm.cs] at *;subst hA;rcases hf with rfl|rfl|rfl
 ·have HR:=Aa (hl0 rfl);clear hl0 hl1 hl2 hrc lV;go_enter func161,ntmps161;go_upto_region 1 with fail;generalize w.heap.size+1=y at *;generalize w.heap.size=x at *;generalize World.alloc (World.alloc _ _) _=w1 at *;have c0:=(H.blk 1 rfl).Ap 0;go_wp2;go_ret;rw [HR.Ab];exact ⟨rfl,H.to⟩
 ·have HR:=Aa (hl1 rfl);have hm:=hM Za1;subst hm;clear hl0 hl1 hl2 hM;go_enter func161,ntmps161;go_upto_region 1 with fail;generalize w.heap.size+1=y at *;generalize w.heap.size=x at *;generalize World.alloc (World.alloc _ _) _=w1 at *;have c0:=(H.blk 1 rfl).cell 0;have c1:=(H.blk 1 rfl).cell 1;have c2:=(H.blk 1 rfl).cell 2;have c3:=(H.blk 1 rfl).cell 3;have cd:=(H.blk 0 rfl).cell 1;simp only [LG] at c0 c1 c2 c3 cd;unfold within at HR;cases h1:Op.bytesLess u lo with
  |true=>
   have q1:(Op.bytesLess lo u||lo==u)=false:=by rw [SK,h1];(try rfl)
   rw [h1] at HR;clear h1;go_wp2;go_ret;rw [HR.Ab];exact ⟨rfl,H.to⟩
  |false=>
   have q1:(Op.bytesLess lo u||lo==u)=true:=by rw [SK,h1];(try rfl)
   rw [h1] at HR;clear h1;have q2:(Op.bytesLess u hi||u==hi)=!Op.bytesLess hi u:=SK _ _;generalize Op.bytesLess hi u=z at *;go_wp2;go_ret;rw [HR.Ab];exact ⟨by cases z<;>rfl,H.to⟩
 ·have HR:=Aa (hl2 rfl);have hm:=hM Za1;subst hm;clear hl0 hl1 hl2 hM;go_enter func161,ntmps161;go_upto_region 1 with fail;generalize w.heap.size+1=y at *;generalize w.heap.size=x at *;generalize World.alloc (World.alloc _ _) _=w1 at *;have c0:=(H.blk 1 rfl).cell 0;have c1:=(H.blk 1 rfl).cell 1;have c4:=(H.blk 1 rfl).cell 4;have cd:=(H.blk 0 rfl).cell 1;simp only [LG] at c0 c1 c4 cd;go_wp2_with fail;refine (HAT _ H.to).mono ?_;rintro e w2 ⟨rfl,rfl⟩;generalize Sl u set=z at *;go_wp2;go_ret;rw [HR.Ab];exact ⟨uH,H.to⟩
end Go.Proofs.YtijplolmkcdflaaGreat
namespace Go.Proofs.YtijplolmkcdflaaGreat
open Go.RowKit
theorem jG (l:List (Row Int)):l.flatMap AY.cells=l.map Row.v:=by
 induction l with
 |nil=>rfl
 |cons a l ih=>rw [Df,Em,ih];(try rfl)
def Row.cut {α:Type} [AY α] (x:Row α) (j k:Nat):Row α:=⟨if x.c=j then x.A else x.A.map (·.add (j * 1)),k - j,x.c - j,(x.l.drop j).take (k - j)⟩
end Go.Proofs.YtijplolmkcdflaaGreat
namespace Go.Proofs.YtijplolmkcdflaaGreat
open Tryz
open Go.RowKit
theorem Ak1 {w w':World} (hb:Ai w w') {p:Addr} {v:Value} (h:w.cell? p=some v):w'.cell? p=some v:=by rw [hb.cell (JM _ _ h)];exact h
def uU (sc:Ej) (o:CC × Int) (w:World) (e:Ending) (w':World):Prop:=
 ∃ D:Ct,e=.returned (.tuple #[.agg D.cs,.int .i64 o.2])∧D.Ac=o.1∧D.rd w'∧C9 D.sc∧Ai w w'∧(D.sc=sc∨D=Ct.nil)
theorem FP {sc:Ej} {k:Int} {w w':World} (hb:Ai w w'):uU sc (CC.nil,k) w (.returned (.tuple #[.agg #[.slice none 0 0,.slice none 0 0,.int .i64 0,.int .i64 0,.int .i64 0,.int .i64 0,.int .i64 0,.int .i64 0,.int .i64 0],.int .i64 k])) w':=⟨Ct.nil,rfl,rfl,NF w',Sw,hb,.inr rfl⟩
theorem Zn6 {p:Prop} (h:p:=by go_wp2_with ((with_reducible refine OS 4 ?_);(refine Cj BI H 1 rfl (#[.slice none 0 0,.slice none 0 0,.int .i64 0,.int .i64 0,.int .i64 0,.int .i64 0,.int .i64 0,.int .i64 0,.int .i64 0]) Za2 ?_;clear H;intro wq H;(try simp only [LS] at H)));refine Bc (Au rfl BI rfl (H.blk 1 rfl) rfl) rfl ?_;rw [Om.Ab];exact FP H.to):p:=h
theorem Zc4 {p:Prop} (h:p:=by
 have Om:Hid (O=(CC.nil,12)):=by
  exact Ze5
 exact Zn6
):p:=h
theorem Zn7 {p:Prop} (h:p:=by go_wp2_with ((with_reducible refine OS 4 ?_);(refine Cj BI H 1 rfl (#[.slice none 0 0,.slice none 0 0,.int .i64 0,.int .i64 0,.int .i64 0,.int .i64 0,.int .i64 0,.int .i64 0,.int .i64 0]) Za2 ?_;clear H;intro wq H;(try simp only [LS] at H)));refine Bc (Au rfl BI rfl (H.blk 1 rfl) rfl) rfl ?_;rw [dY.Ab];exact FP H.to):p:=h
theorem Za6 {p:Prop} (h:p:=by first|exact Kz _ H.to|exact Kz _ H.drew.to):p:=h
theorem Zd0 {p:Prop} (h:p:=by have:=uL.Ab;omega):p:=h
theorem eU (s:Ct) (r:Row (Row Int)) (w:World) (hs:s.rd w) (hm:C9 s.sc) (hr:Rd w 1 r.A r.n (r.l.flatMap AY.cells)) (hra:∀ y ∈ r.l,y.rd w) (hrn:r.n≤1000000):
 Calls prog 73 #[.agg s.cs,.slice r.A r.n r.c] w (uU s.sc (Fx s.Ac (r.l.map (·.l))) w):=by
 have HC:=Aa (fun w' (hb:Ai w w')=>mI s w' (hs.mono hb) hm);have HSC:=Aa hs.sc;have nO:=Aa hm;have HRW:=Aa (fun w' (h:Ai w w')=>hr.Av h);have vF:Hid (∀ y ∈ r.l,∀ w',Ai w w'→y.rd w'):=fun y hy w' hb=>(hra y hy).mono hb
 have hrl:Hid (r.l.length=r.n):=Il hr;have WZ:Hid (s.sc.ms.l.length=s.sc.ms.n):=hs.sc.ms.len;have H:=Aa (((SL.start No w).alloc s.cs 63).alloc #[.slice none 0 0,.slice none 0 0,.int .i64 0,.int .i64 0,.int .i64 0,.int .i64 0,.int .i64 0,.int .i64 0,.int .i64 0] 63);(try simp only [LS] at H);have hfa:=hs.fa;unfold AZ at hfa;have HI0:Hid (AZ s.p0∧AZ s.q0∧AZ s.p1∧AZ s.q1∧AZ s.p2∧AZ s.q2):=⟨hs.p0,hs.q0,hs.p1,hs.q1,hs.p2,hs.q2⟩;generalize hO:Fx s.Ac (r.l.map (·.l))=O;have HO:=Aa hO;clear hO;obtain ⟨⟨⟨A,n,c,ds⟩,⟨MA,mn,mc,ms⟩⟩,fa,p0,q0,p1,q1,p2,q2⟩:=s;obtain ⟨RA,rn,rc,rs⟩:=r;simp only [Ct.cs,Ej.cs,Ct.Ac,Ej.Ac] at *;obtain ⟨f1,f2⟩:=hfa;clear hs hm hr hra;go_enter func73,ntmps73;go_upto_region 1 with fail;generalize w.heap.size+1=y at *;generalize w.heap.size=x at *;generalize World.alloc (World.alloc _ _) _=w1 at *;go_wp2_with ((with_reducible refine OP 11 ?_);(refine Bf BI (H.blk 0 rfl) ?_));refine (HC _ H.to).mono ?_;rintro e w2 ⟨rfl,hb2⟩;replace H:=Aa (H.Av hb2);clear hb2 HC;by_cases hE:Bu ⟨⟨ds.map Dm.Ac,ms⟩,fa,p0,q0,p1,q1,p2,q2⟩=0
 ·obtain ⟨g1,g2,g3⟩:=MM hE;have Y0:mn≤3:=by have h:ms.length≤3:=(BH g1).2.2.2.2.1;have:=WZ.Ab;omega
  simp only at g2 g3;by_cases h4:4000<fa+rn
  ·have dY:Hid (O=(CC.nil,6)):=by have h:=HO.Ab;unfold Fx at h;rw [Ak Zb9,Al Zf2] at h;exact h.symm
   have e1:decide (4000<fa+(rn:Int))=true:=PS Xl;rw [hE];have c2:=(H.blk 0 rfl).Ap 2;clear hE g1 HO;exact Zn7
  ·have HO4:Hid (O=Xh rn (EG mn ⟨⟨ds.map Dm.Ac,ms⟩,fa,p0,q0,p1,q1,p2,q2⟩ (rs.map (·.l)))):=by have h:=HO.Ab;unfold Fx at h;rw [Ak Zb9,Ak Zf2] at h;rw [←h,CQ,hrl.Ab];show Xh rn (EG ms.length _ _)=_;rw [WZ.Ab]
   have e1:decide (4000<fa+(rn:Int))=false:=WB Xl;rw [hE];have c2:=(H.blk 0 rfl).Ap 2;clear hE g1 HO;go_wp2_with fail;clear c2 e1;have Yk:Hid (∀ o,EG mn ⟨⟨ds.map Dm.Ac,ms⟩,fa,p0,q0,p1,q1,p2,q2⟩ (rs.map (·.l))=o→Xh rn o=O):=fun o ho=>by rw [HO4.Ab,ho]
   have HRR:Hid (EG mn ⟨⟨ds.map Dm.Ac,ms⟩,fa,p0,q0,p1,q1,p2,q2⟩ (rs.map (·.l))=EG mn ⟨⟨ds.map Dm.Ac,ms⟩,fa,p0,q0,p1,q1,p2,q2⟩ ((rs.map (·.l)).drop 0)):=rfl;clear HO4;go_loopg [26] rn (fun gg i wr=>∃ (k:Nat) (P0 Q0 P1 Q1 P2 Q2:Int),gg=rn - k∧k≤rn∧i=.int .i64 k∧Hid (SL No w wr [Aw x 63 #[.slice A n c,.slice MA mn mc,.int .i64 fa,.int .i64 P0,.int .i64 Q0,.int .i64 P1,.int .i64 Q1,.int .i64 P2,.int .i64 Q2],Aw y 63 #[.slice none 0 0,.slice none 0 0,.int .i64 0,.int .i64 0,.int .i64 0,.int .i64 0,.int .i64 0,.int .i64 0,.int .i64 0]])∧Hid (EG mn ⟨⟨ds.map Dm.Ac,ms⟩,fa,p0,q0,p1,q1,p2,q2⟩ (rs.map (·.l))=EG mn ⟨⟨ds.map Dm.Ac,ms⟩,fa,P0,Q0,P1,Q1,P2,Q2⟩ ((rs.map (·.l)).drop k))∧Hid (AZ P0∧AZ Q0∧AZ P1∧AZ Q1∧AZ P2∧AZ Q2));case atStart=>exact ⟨0,p0,q0,p1,q1,p2,q2,rfl,Xl,rfl,H,HRR,HI0⟩
   case round=>
    clear H HRR HI0;obtain ⟨k,P0,Q0,P1,Q1,P2,Q2,BR,hk,rfl,H,HRR,hI⟩:=hrel;have Cs:=Aa BR;clear BR;by_cases hlt:k<rn
    ·obtain ⟨bb,oo,yr,hA,hyk,hc'⟩:=Oz rfl (HRW _ H.to) (k:=k) hlt;have q1':wr.cell? ⟨bb,oo+k,none⟩=some (.slice yr.A yr.n yr.c):=hc' _ rfl;have Pw:=vF yr (CU hyk) _ H.to;clear hc';(try simp only at hA);subst hA;have Yj:Hid ((rs.map (·.l))[k]?=some yr.l):=by show _=_;rw [Ed,hyk];(try rfl)
     have HYR:=Aa (fun w' (hb:Ai w w')=>(vF yr (CU hyk) w' hb));have Vg:Hid (yr.l.length=yr.n):=Pw.len;have y63:=Pw.n63;have i0:(0:Int)≤k:=by omega
     have i1:(k:Int)<rn:=by omega
     clear hyk Pw;obtain ⟨YA,yn,yc,ys⟩:=yr;simp only at *;have cm0:=(H.blk 0 rfl).Ap 1;by_cases hyn:yn=mn
     ·obtain rfl:mn=yn:=hyn.symm;have e1:(((mn:Nat):Int) !=mn)=false:=by simp
      go_wp2_with fail;clear cm0 e1 q1';have Ic:Hid (DZ ⟨⟨ds.map Dm.Ac,ms⟩,fa,P0,Q0,P1,Q1,P2,Q2⟩ 0 ys=DZ ⟨⟨ds.map Dm.Ac,ms⟩,fa,P0,Q0,P1,Q1,P2,Q2⟩ 0 (ys.drop 0)):=rfl;have hI0:=hI;have KX:=HRR;clear hI HRR;generalize hC1:(⟨⟨ds.map Dm.Ac,ms⟩,fa,P0,Q0,P1,Q1,P2,Q2⟩:CC)=C1 at KX Ic;have MW:=Aa hC1;clear hC1;replace Ic:Hid (DZ C1 0 ys=DZ ⟨⟨ds.map Dm.Ac,ms⟩,fa,P0,Q0,P1,Q1,P2,Q2⟩ 0 (ys.drop 0)):=by show _=_;rw [MW.Ab];exact Ic.Ab
      go_loopg [40] mn (fun gg i wr=>∃ (j:Nat) (P0 Q0 P1 Q1 P2 Q2:Int),gg=mn - j∧j≤mn∧i=.int .i64 j∧Hid (SL No w wr [Aw x 63 #[.slice A n c,.slice MA mn mc,.int .i64 fa,.int .i64 P0,.int .i64 Q0,.int .i64 P1,.int .i64 Q1,.int .i64 P2,.int .i64 Q2],Aw y 63 #[.slice none 0 0,.slice none 0 0,.int .i64 0,.int .i64 0,.int .i64 0,.int .i64 0,.int .i64 0,.int .i64 0,.int .i64 0]])∧Hid (DZ C1 0 ys=DZ ⟨⟨ds.map Dm.Ac,ms⟩,fa,P0,Q0,P1,Q1,P2,Q2⟩ j (ys.drop j))∧Hid (AZ P0∧AZ Q0∧AZ P1∧AZ Q1∧AZ P2∧AZ Q2));case atStart=>exact ⟨0,P0,Q0,P1,Q1,P2,Q2,rfl,Xl,rfl,H,Ic,hI0⟩
      case round=>
       clear H Ic hI0 MW;obtain ⟨j,P0,Q0,P1,Q1,P2,Q2,hgj,hj,rfl,H,Ic,hI⟩:=hrel;have Lt:=Aa hgj;clear hgj;by_cases hjlt:j<mn
       ·obtain ⟨b2,o2,v,hA,hyv,hv,q2⟩:=(HYR w (Ai.refl w)).Pv (k:=j) hjlt;simp only at hA;subst hA;have Kz:=Aa (fun w' (hb:Ai w w')=>Ak1 hb q2);have q2':=Kz _ H.to;have Tn:=Aa hyv;have HV:=Aa hv;clear hyv hv q2;have j0:(0:Int)≤j:=by omega
        have j1:(j:Int)<mn:=by omega
        obtain rfl|rfl|rfl:j=0∨j=1∨j=2:=by omega
        ·rw [show ((0:Nat):Int)=0 from rfl] at j0 j1 ⊢;rw [Kb] at q2';by_cases hv0:v<0
         ·have uL:Hid (v<0):=hv0;have dv:decide (v<0)=true:=PS hv0;go_upto_region 16 with fail;(try simp only [Act.put,LP]);clear q2' dv;have uM:Hid (AZ (Cu Q0 v).1):=Mo;have HG:=Aa (fun w=>Lf Q0 v w hI.2.1 HV.Ab);have HU:Hid (Lm ⟨⟨ds.map Dm.Ac,ms⟩,fa,P0,Q0,P1,Q1,P2,Q2⟩ 0 v=(if (Cu Q0 v).2 then ⟨⟨ds.map Dm.Ac,ms⟩,fa,P0,(Cu Q0 v).1,P1,Q1,P2,Q2⟩ else (Lm ⟨⟨ds.map Dm.Ac,ms⟩,fa,P0,Q0,P1,Q1,P2,Q2⟩ 0 v).1,(Cu Q0 v).2)):=by
           show _=_;refine Prod.ext ?_ (by show (BO P0 Q0 v).2=_;unfold BO;rw [Al uL.Ab]);cases hx:(Cu Q0 v).2
           ·rfl
           ·show (⟨_,_,(BO P0 Q0 v).1.1,(BO P0 Q0 v).1.2,_,_,_,_⟩:CC)=_;have he:BO P0 Q0 v=((P0,(Cu Q0 v).1),true):=by unfold BO;rw [Al uL.Ab,hx];(try rfl)
            rw [he]
            rfl
          generalize Cu Q0 v=G at *;obtain ⟨u,ok⟩:=G;simp only at HG HU uM;refine Eo (S:=fun w=>w.cell? ⟨b2,o2,none⟩=some (.int .i64 v)) Za0 Za6 fun hHeld=>?_;replace H:=Aa (H.drew);refine Bd Ml ?_;refine Bd KF ?_;refine Bd MN ?_;refine Bd Ky ?_;refine Bd LJ ?_;refine Bd MI ?_;refine Bd Lj ?_;refine Bd Mk ?_;refine Bd MH ?_;refine Bd Jw ?_;refine BG KW fun KK Ad=>?_;generalize World.drew _=w7 at *;have cz:=(H.blk 0 rfl).Ap 4;go_simp;clear cz;refine Aj Ad Za6 fun hHeld=>?_;clear Ad KK;refine BG FO fun KK Ad=>?_;go_simp;refine (HG _).mono ?_;rintro e' w6 ⟨rfl,rfl⟩;refine Aj Ad Za6 fun hHeld=>?_;clear Ad KK;refine Bd Ga ?_;refine Bd Hw ?_;refine Bd Jc ?_;refine Bd bV ?_;refine Bd sD ?_;refine BG yC fun KK Ad=>?_;have cz:=(H.blk 0 rfl).Ap 4;have fz:=(H.blk 0 rfl).frozen 4;go_simp;replace H:=Aa (H.setCell 0 rfl 4 (.int .i64 u));(try simp only [LS] at H);clear cz fz;refine Aj Ad Za6 fun hHeld=>?_;clear Ad KK;refine BG yB fun KK Ad=>?_;go_simp;refine Aj Ad Za6 fun hHeld=>?_;clear Ad KK;refine BZ ?_;clear hHeld;cases ok with
          |true=>
           have HR2:Hid (DZ C1 0 ys=DZ ⟨⟨ds.map Dm.Ac,ms⟩,fa,P0,u,P1,Q1,P2,Q2⟩ (0+1) (ys.drop (0+1))):=by
            show _=_;rw [Ic.Ab,Bp Tn.Ab,Fq Zb8,HU.Ab]
            rfl
           have hI2:Hid (AZ P0∧AZ u∧AZ P1∧AZ Q1∧AZ P2∧AZ Q2):=⟨hI.1,uM.Ab,hI.2.2.1,hI.2.2.2.1,hI.2.2.2.2.1,hI.2.2.2.2.2⟩;clear Ic HU;go_wp2_with fail;go_roundg (mn - (0+1));case rel=>exact ⟨0+1,P0,u,P1,Q1,P2,Q2,rfl,Xl,rfl,H,HR2,hI2⟩
           case measure=>rw [Lt.Ab];omega
          |false=>
           exact Zc4
         ·have uL:Hid (¬ v<0):=hv0;have dv:decide (v<0)=false:=WB hv0;go_upto_region 17 with fail;(try simp only [Act.put,LP]);clear q2' dv;have uM:Hid (AZ (Cu P0 v).1):=Mo;have HG:=Aa (fun w=>Lf P0 v w hI.1 HV.Ab);have HU:Hid (Lm ⟨⟨ds.map Dm.Ac,ms⟩,fa,P0,Q0,P1,Q1,P2,Q2⟩ 0 v=(if (Cu P0 v).2 then ⟨⟨ds.map Dm.Ac,ms⟩,fa,(Cu P0 v).1,Q0,P1,Q1,P2,Q2⟩ else (Lm ⟨⟨ds.map Dm.Ac,ms⟩,fa,P0,Q0,P1,Q1,P2,Q2⟩ 0 v).1,(Cu P0 v).2)):=by
           show _=_;refine Prod.ext ?_ (by show (BO P0 Q0 v).2=_;unfold BO;rw [Ak Zd0]);cases hx:(Cu P0 v).2
           ·rfl
           ·show (⟨_,_,(BO P0 Q0 v).1.1,(BO P0 Q0 v).1.2,_,_,_,_⟩:CC)=_;have he:BO P0 Q0 v=(((Cu P0 v).1,Q0),true):=by unfold BO;rw [Ak Zd0,hx];(try rfl)
            rw [he]
            rfl
          generalize Cu P0 v=G at *;obtain ⟨u,ok⟩:=G;simp only at HG HU uM;refine Eo (S:=fun w=>w.cell? ⟨b2,o2,none⟩=some (.int .i64 v)) Za0 Za6 fun hHeld=>?_;replace H:=Aa (H.drew);refine Bd Ml ?_;refine Bd KF ?_;refine Bd MN ?_;refine Bd Ky ?_;refine Bd LJ ?_;refine Bd MI ?_;refine Bd Lj ?_;refine Bd Mk ?_;refine Bd MH ?_;refine Bd Jw ?_;refine BG KW fun KK Ad=>?_;generalize World.drew _=w7 at *;have cz:=(H.blk 0 rfl).Ap 3;go_simp;clear cz;refine Aj Ad Za6 fun hHeld=>?_;clear Ad KK;refine BG FO fun KK Ad=>?_;go_simp;refine (HG _).mono ?_;rintro e' w6 ⟨rfl,rfl⟩;refine Aj Ad Za6 fun hHeld=>?_;clear Ad KK;refine Bd Ga ?_;refine Bd Hw ?_;refine Bd Jc ?_;refine Bd bV ?_;refine Bd sD ?_;refine BG yC fun KK Ad=>?_;have cz:=(H.blk 0 rfl).Ap 3;have fz:=(H.blk 0 rfl).frozen 3;go_simp;replace H:=Aa (H.setCell 0 rfl 3 (.int .i64 u));(try simp only [LS] at H);clear cz fz;refine Aj Ad Za6 fun hHeld=>?_;clear Ad KK;refine BG yB fun KK Ad=>?_;go_simp;refine Aj Ad Za6 fun hHeld=>?_;clear Ad KK;refine BZ ?_;clear hHeld;cases ok with
          |true=>
           have HR2:Hid (DZ C1 0 ys=DZ ⟨⟨ds.map Dm.Ac,ms⟩,fa,u,Q0,P1,Q1,P2,Q2⟩ (0+1) (ys.drop (0+1))):=by
            show _=_;rw [Ic.Ab,Bp Tn.Ab,Fq Zb8,HU.Ab]
            rfl
           have hI2:Hid (AZ u∧AZ Q0∧AZ P1∧AZ Q1∧AZ P2∧AZ Q2):=⟨uM.Ab,hI.2.1,hI.2.2.1,hI.2.2.2.1,hI.2.2.2.2.1,hI.2.2.2.2.2⟩;clear Ic HU;go_wp2_with fail;go_roundg (mn - (0+1));case rel=>exact ⟨0+1,u,Q0,P1,Q1,P2,Q2,rfl,Xl,rfl,H,HR2,hI2⟩
           case measure=>rw [Lt.Ab];omega
          |false=>
           exact Zc4
        ·rw [show ((1:Nat):Int)=1 from rfl] at j0 j1 ⊢;by_cases hv0:v<0
         ·have uL:Hid (v<0):=hv0;have dv:decide (v<0)=true:=PS hv0;go_upto_region 16 with fail;(try simp only [Act.put,LP]);clear q2' dv;have uM:Hid (AZ (Cu Q1 v).1):=Mo;have HG:=Aa (fun w=>Lf Q1 v w hI.2.2.2.1 HV.Ab);have HU:Hid (Lm ⟨⟨ds.map Dm.Ac,ms⟩,fa,P0,Q0,P1,Q1,P2,Q2⟩ 1 v=(if (Cu Q1 v).2 then ⟨⟨ds.map Dm.Ac,ms⟩,fa,P0,Q0,P1,(Cu Q1 v).1,P2,Q2⟩ else (Lm ⟨⟨ds.map Dm.Ac,ms⟩,fa,P0,Q0,P1,Q1,P2,Q2⟩ 1 v).1,(Cu Q1 v).2)):=by
           show _=_;refine Prod.ext ?_ (by show (BO P1 Q1 v).2=_;unfold BO;rw [Al uL.Ab]);cases hx:(Cu Q1 v).2
           ·rfl
           ·show (⟨_,_,_,_,(BO P1 Q1 v).1.1,(BO P1 Q1 v).1.2,_,_⟩:CC)=_;have he:BO P1 Q1 v=((P1,(Cu Q1 v).1),true):=by unfold BO;rw [Al uL.Ab,hx];(try rfl)
            rw [he]
            rfl
          generalize Cu Q1 v=G at *;obtain ⟨u,ok⟩:=G;simp only at HG HU uM;refine Eo (S:=fun w=>w.cell? ⟨b2,o2+1,none⟩=some (.int .i64 v)) Za0 Za6 fun hHeld=>?_;replace H:=Aa (H.drew);refine Bd Ml ?_;refine Bd KF ?_;refine Bd MN ?_;refine Bd Ky ?_;refine Bd LJ ?_;refine Bd MI ?_;refine Bd Lj ?_;refine Bd Mk ?_;refine Bd MH ?_;refine Bd Jw ?_;refine BG KW fun KK Ad=>?_;generalize World.drew _=w7 at *;have cz:=(H.blk 0 rfl).Ap 6;go_simp;clear cz;refine Aj Ad Za6 fun hHeld=>?_;clear Ad KK;refine BG FO fun KK Ad=>?_;go_simp;refine (HG _).mono ?_;rintro e' w6 ⟨rfl,rfl⟩;refine Aj Ad Za6 fun hHeld=>?_;clear Ad KK;refine Bd Ga ?_;refine Bd Hw ?_;refine Bd Jc ?_;refine Bd bV ?_;refine Bd sD ?_;refine BG yC fun KK Ad=>?_;have cz:=(H.blk 0 rfl).Ap 6;have fz:=(H.blk 0 rfl).frozen 6;go_simp;replace H:=Aa (H.setCell 0 rfl 6 (.int .i64 u));(try simp only [LS] at H);clear cz fz;refine Aj Ad Za6 fun hHeld=>?_;clear Ad KK;refine BG yB fun KK Ad=>?_;go_simp;refine Aj Ad Za6 fun hHeld=>?_;clear Ad KK;refine BZ ?_;clear hHeld;cases ok with
          |true=>
           have HR2:Hid (DZ C1 0 ys=DZ ⟨⟨ds.map Dm.Ac,ms⟩,fa,P0,Q0,P1,u,P2,Q2⟩ (1+1) (ys.drop (1+1))):=by
            show _=_;rw [Ic.Ab,Bp Tn.Ab,Fq Zb8,HU.Ab]
            rfl
           have hI2:Hid (AZ P0∧AZ Q0∧AZ P1∧AZ u∧AZ P2∧AZ Q2):=⟨hI.1,hI.2.1,hI.2.2.1,uM.Ab,hI.2.2.2.2.1,hI.2.2.2.2.2⟩;clear Ic HU;go_wp2_with fail;go_roundg (mn - (1+1));case rel=>exact ⟨1+1,P0,Q0,P1,u,P2,Q2,rfl,Xl,rfl,H,HR2,hI2⟩
           case measure=>rw [Lt.Ab];omega
          |false=>
           exact Zc4
         ·have uL:Hid (¬ v<0):=hv0;have dv:decide (v<0)=false:=WB hv0;go_upto_region 17 with fail;(try simp only [Act.put,LP]);clear q2' dv;have uM:Hid (AZ (Cu P1 v).1):=Mo;have HG:=Aa (fun w=>Lf P1 v w hI.2.2.1 HV.Ab);have HU:Hid (Lm ⟨⟨ds.map Dm.Ac,ms⟩,fa,P0,Q0,P1,Q1,P2,Q2⟩ 1 v=(if (Cu P1 v).2 then ⟨⟨ds.map Dm.Ac,ms⟩,fa,P0,Q0,(Cu P1 v).1,Q1,P2,Q2⟩ else (Lm ⟨⟨ds.map Dm.Ac,ms⟩,fa,P0,Q0,P1,Q1,P2,Q2⟩ 1 v).1,(Cu P1 v).2)):=by
           show _=_;refine Prod.ext ?_ (by show (BO P1 Q1 v).2=_;unfold BO;rw [Ak Zd0]);cases hx:(Cu P1 v).2
           ·rfl
           ·show (⟨_,_,_,_,(BO P1 Q1 v).1.1,(BO P1 Q1 v).1.2,_,_⟩:CC)=_;have he:BO P1 Q1 v=(((Cu P1 v).1,Q1),true):=by unfold BO;rw [Ak Zd0,hx];(try rfl)
            rw [he]
            rfl
          generalize Cu P1 v=G at *;obtain ⟨u,ok⟩:=G;simp only at HG HU uM;refine Eo (S:=fun w=>w.cell? ⟨b2,o2+1,none⟩=some (.int .i64 v)) Za0 Za6 fun hHeld=>?_;replace H:=Aa (H.drew);refine Bd Ml ?_;refine Bd KF ?_;refine Bd MN ?_;refine Bd Ky ?_;refine Bd LJ ?_;refine Bd MI ?_;refine Bd Lj ?_;refine Bd Mk ?_;refine Bd MH ?_;refine Bd Jw ?_;refine BG KW fun KK Ad=>?_;generalize World.drew _=w7 at *;have cz:=(H.blk 0 rfl).Ap 5;go_simp;clear cz;refine Aj Ad Za6 fun hHeld=>?_;clear Ad KK;refine BG FO fun KK Ad=>?_;go_simp;refine (HG _).mono ?_;rintro e' w6 ⟨rfl,rfl⟩;refine Aj Ad Za6 fun hHeld=>?_;clear Ad KK;refine Bd Ga ?_;refine Bd Hw ?_;refine Bd Jc ?_;refine Bd bV ?_;refine Bd sD ?_;refine BG yC fun KK Ad=>?_;have cz:=(H.blk 0 rfl).Ap 5;have fz:=(H.blk 0 rfl).frozen 5;go_simp;replace H:=Aa (H.setCell 0 rfl 5 (.int .i64 u));(try simp only [LS] at H);clear cz fz;refine Aj Ad Za6 fun hHeld=>?_;clear Ad KK;refine BG yB fun KK Ad=>?_;go_simp;refine Aj Ad Za6 fun hHeld=>?_;clear Ad KK;refine BZ ?_;clear hHeld;cases ok with
          |true=>
           have HR2:Hid (DZ C1 0 ys=DZ ⟨⟨ds.map Dm.Ac,ms⟩,fa,P0,Q0,u,Q1,P2,Q2⟩ (1+1) (ys.drop (1+1))):=by
            show _=_;rw [Ic.Ab,Bp Tn.Ab,Fq Zb8,HU.Ab]
            rfl
           have hI2:Hid (AZ P0∧AZ Q0∧AZ u∧AZ Q1∧AZ P2∧AZ Q2):=⟨hI.1,hI.2.1,uM.Ab,hI.2.2.2.1,hI.2.2.2.2.1,hI.2.2.2.2.2⟩;clear Ic HU;go_wp2_with fail;go_roundg (mn - (1+1));case rel=>exact ⟨1+1,P0,Q0,u,Q1,P2,Q2,rfl,Xl,rfl,H,HR2,hI2⟩
           case measure=>rw [Lt.Ab];omega
          |false=>
           exact Zc4
        ·rw [show ((2:Nat):Int)=2 from rfl] at j0 j1 ⊢;by_cases hv0:v<0
         ·have uL:Hid (v<0):=hv0;have dv:decide (v<0)=true:=PS hv0;go_upto_region 16 with fail;(try simp only [Act.put,LP]);clear q2' dv;have uM:Hid (AZ (Cu Q2 v).1):=Mo;have HG:=Aa (fun w=>Lf Q2 v w hI.2.2.2.2.2 HV.Ab);have HU:Hid (Lm ⟨⟨ds.map Dm.Ac,ms⟩,fa,P0,Q0,P1,Q1,P2,Q2⟩ 2 v=(if (Cu Q2 v).2 then ⟨⟨ds.map Dm.Ac,ms⟩,fa,P0,Q0,P1,Q1,P2,(Cu Q2 v).1⟩ else (Lm ⟨⟨ds.map Dm.Ac,ms⟩,fa,P0,Q0,P1,Q1,P2,Q2⟩ 2 v).1,(Cu Q2 v).2)):=by
           show _=_;refine Prod.ext ?_ (by show (BO P2 Q2 v).2=_;unfold BO;rw [Al uL.Ab]);cases hx:(Cu Q2 v).2
           ·rfl
           ·show (⟨_,_,_,_,_,_,(BO P2 Q2 v).1.1,(BO P2 Q2 v).1.2⟩:CC)=_;have he:BO P2 Q2 v=((P2,(Cu Q2 v).1),true):=by unfold BO;rw [Al uL.Ab,hx];(try rfl)
            rw [he]
            rfl
          generalize Cu Q2 v=G at *;obtain ⟨u,ok⟩:=G;simp only at HG HU uM;refine Eo (S:=fun w=>w.cell? ⟨b2,o2+2,none⟩=some (.int .i64 v)) Za0 Za6 fun hHeld=>?_;replace H:=Aa (H.drew);refine Bd Ml ?_;refine Bd KF ?_;refine Bd MN ?_;refine Bd Ky ?_;refine Bd LJ ?_;refine Bd MI ?_;refine Bd Lj ?_;refine Bd Mk ?_;refine Bd MH ?_;refine Bd Jw ?_;refine BG KW fun KK Ad=>?_;generalize World.drew _=w7 at *;have cz:=(H.blk 0 rfl).Ap 8;go_simp;clear cz;refine Aj Ad Za6 fun hHeld=>?_;clear Ad KK;refine BG FO fun KK Ad=>?_;go_simp;refine (HG _).mono ?_;rintro e' w6 ⟨rfl,rfl⟩;refine Aj Ad Za6 fun hHeld=>?_;clear Ad KK;refine Bd Ga ?_;refine Bd Hw ?_;refine Bd Jc ?_;refine Bd bV ?_;refine Bd sD ?_;refine BG yC fun KK Ad=>?_;have cz:=(H.blk 0 rfl).Ap 8;have fz:=(H.blk 0 rfl).frozen 8;go_simp;replace H:=Aa (H.setCell 0 rfl 8 (.int .i64 u));(try simp only [LS] at H);clear cz fz;refine Aj Ad Za6 fun hHeld=>?_;clear Ad KK;refine BG yB fun KK Ad=>?_;go_simp;refine Aj Ad Za6 fun hHeld=>?_;clear Ad KK;refine BZ ?_;clear hHeld;cases ok with
          |true=>
           have HR2:Hid (DZ C1 0 ys=DZ ⟨⟨ds.map Dm.Ac,ms⟩,fa,P0,Q0,P1,Q1,P2,u⟩ (2+1) (ys.drop (2+1))):=by
            show _=_;rw [Ic.Ab,Bp Tn.Ab,Fq Zb8,HU.Ab]
            rfl
           have hI2:Hid (AZ P0∧AZ Q0∧AZ P1∧AZ Q1∧AZ P2∧AZ u):=⟨hI.1,hI.2.1,hI.2.2.1,hI.2.2.2.1,hI.2.2.2.2.1,uM.Ab⟩;clear Ic HU;go_wp2_with fail;go_roundg (mn - (2+1));case rel=>exact ⟨2+1,P0,Q0,P1,Q1,P2,u,rfl,Xl,rfl,H,HR2,hI2⟩
           case measure=>rw [Lt.Ab];omega
          |false=>
           exact Zc4
         ·have uL:Hid (¬ v<0):=hv0;have dv:decide (v<0)=false:=WB hv0;go_upto_region 17 with fail;(try simp only [Act.put,LP]);clear q2' dv;have uM:Hid (AZ (Cu P2 v).1):=Mo;have HG:=Aa (fun w=>Lf P2 v w hI.2.2.2.2.1 HV.Ab);have HU:Hid (Lm ⟨⟨ds.map Dm.Ac,ms⟩,fa,P0,Q0,P1,Q1,P2,Q2⟩ 2 v=(if (Cu P2 v).2 then ⟨⟨ds.map Dm.Ac,ms⟩,fa,P0,Q0,P1,Q1,(Cu P2 v).1,Q2⟩ else (Lm ⟨⟨ds.map Dm.Ac,ms⟩,fa,P0,Q0,P1,Q1,P2,Q2⟩ 2 v).1,(Cu P2 v).2)):=by
           show _=_;refine Prod.ext ?_ (by show (BO P2 Q2 v).2=_;unfold BO;rw [Ak Zd0]);cases hx:(Cu P2 v).2
           ·rfl
           ·show (⟨_,_,_,_,_,_,(BO P2 Q2 v).1.1,(BO P2 Q2 v).1.2⟩:CC)=_;have he:BO P2 Q2 v=(((Cu P2 v).1,Q2),true):=by unfold BO;rw [Ak Zd0,hx];(try rfl)
            rw [he]
            rfl
          generalize Cu P2 v=G at *;obtain ⟨u,ok⟩:=G;simp only at HG HU uM;refine Eo (S:=fun w=>w.cell? ⟨b2,o2+2,none⟩=some (.int .i64 v)) Za0 Za6 fun hHeld=>?_;replace H:=Aa (H.drew);refine Bd Ml ?_;refine Bd KF ?_;refine Bd MN ?_;refine Bd Ky ?_;refine Bd LJ ?_;refine Bd MI ?_;refine Bd Lj ?_;refine Bd Mk ?_;refine Bd MH ?_;refine Bd Jw ?_;refine BG KW fun KK Ad=>?_;generalize World.drew _=w7 at *;have cz:=(H.blk 0 rfl).Ap 7;go_simp;clear cz;refine Aj Ad Za6 fun hHeld=>?_;clear Ad KK;refine BG FO fun KK Ad=>?_;go_simp;refine (HG _).mono ?_;rintro e' w6 ⟨rfl,rfl⟩;refine Aj Ad Za6 fun hHeld=>?_;clear Ad KK;refine Bd Ga ?_;refine Bd Hw ?_;refine Bd Jc ?_;refine Bd bV ?_;refine Bd sD ?_;refine BG yC fun KK Ad=>?_;have cz:=(H.blk 0 rfl).Ap 7;have fz:=(H.blk 0 rfl).frozen 7;go_simp;replace H:=Aa (H.setCell 0 rfl 7 (.int .i64 u));(try simp only [LS] at H);clear cz fz;refine Aj Ad Za6 fun hHeld=>?_;clear Ad KK;refine BG yB fun KK Ad=>?_;go_simp;refine Aj Ad Za6 fun hHeld=>?_;clear Ad KK;refine BZ ?_;clear hHeld;cases ok with
          |true=>
           have HR2:Hid (DZ C1 0 ys=DZ ⟨⟨ds.map Dm.Ac,ms⟩,fa,P0,Q0,P1,Q1,u,Q2⟩ (2+1) (ys.drop (2+1))):=by
            show _=_;rw [Ic.Ab,Bp Tn.Ab,Fq Zb8,HU.Ab]
            rfl
           have hI2:Hid (AZ P0∧AZ Q0∧AZ P1∧AZ Q1∧AZ u∧AZ Q2):=⟨hI.1,hI.2.1,hI.2.2.1,hI.2.2.2.1,uM.Ab,hI.2.2.2.2.2⟩;clear Ic HU;go_wp2_with fail;go_roundg (mn - (2+1));case rel=>exact ⟨2+1,P0,Q0,P1,Q1,u,Q2,rfl,Xl,rfl,H,HR2,hI2⟩
           case measure=>rw [Lt.Ab];omega
          |false=>
           exact Zc4
       ·obtain rfl:j=mn:=by omega
        have zJ:Hid (EG j ⟨⟨ds.map Dm.Ac,ms⟩,fa,p0,q0,p1,q1,p2,q2⟩ (rs.map (·.l))=EG j ⟨⟨ds.map Dm.Ac,ms⟩,fa,P0,Q0,P1,Q1,P2,Q2⟩ ((rs.map (·.l)).drop (k+1))):=by
         show _=_;rw [KX.Ab,Bp Yj.Ab];refine Sg (Vg.Ab) ?_;rw [Ic.Ab,EN (by have:=Vg.Ab;omega)]
         rfl
        clear KX Ic;go_wp2_with fail;go_roundg (rn - (k+1));case rel=>exact ⟨k+1,P0,Q0,P1,Q1,P2,Q2,rfl,Xl,by go_num,H,zJ,hI⟩
        case measure=>rw [Cs.Ab];omega
     ·have e1:(((yn:Nat):Int) !=mn)=true:=by simp;omega
      have Om:Hid (O=(CC.nil,2)):=by
       exact Zu9
      clear hyn;exact Zn6
    ·obtain rfl:k=rn:=by omega
     have Om:Hid (O=(⟨⟨ds.map Dm.Ac,ms⟩,fa+k,P0,Q0,P1,Q1,P2,Q2⟩,0)):=by
      exact Zt1
     clear HRR;have cz2:=(H.blk 0 rfl).Ap 2;have fz2:=(H.blk 0 rfl).frozen 2;go_wp2_with (first|((with_reducible refine OP 93 ?_);replace H:=Aa (H.setCell 0 rfl 2 (.int .i64 (fa+k)));(try simp only [LS] at H);clear cz2 fz2;refine Bf BI (H.blk 0 rfl) ?_)|((with_reducible refine OS 4 ?_);(refine Cj BI H 1 rfl (#[.slice A n c,.slice MA mn mc,.int .i64 (fa+k),.int .i64 P0,.int .i64 Q0,.int .i64 P1,.int .i64 Q1,.int .i64 P2,.int .i64 Q2]) Za2 ?_;clear H;intro wq H;(try simp only [LS] at H))));refine Bc (Au rfl BI rfl (H.blk 1 rfl) rfl) rfl ?_;rw [Om.Ab];exact ⟨⟨⟨⟨A,n,c,ds⟩,⟨MA,mn,mc,ms⟩⟩,fa+k,P0,Q0,P1,Q1,P2,Q2⟩,rfl,rfl,⟨HSC.mono H.to,by show _≤fa+(k:Int)∧fa+(k:Int)≤_;omega,hI.1,hI.2.1,hI.2.2.1,hI.2.2.2.1,hI.2.2.2.2.1,hI.2.2.2.2.2⟩,nO.Ab,H.to,.inl rfl⟩
 ·have dY:Hid (O=(CC.nil,Bu ⟨⟨ds.map Dm.Ac,ms⟩,fa,p0,q0,p1,q1,p2,q2⟩)):=by have h:=HO.Ab;unfold Fx at h;rw [Al hE] at h;exact h.symm
  have dE:(Bu ⟨⟨ds.map Dm.Ac,ms⟩,fa,p0,q0,p1,q1,p2,q2⟩==0)=false:=by simpa using hE
  generalize Bu ⟨⟨ds.map Dm.Ac,ms⟩,fa,p0,q0,p1,q1,p2,q2⟩=E at *;clear hE HO;exact Zn7
theorem Am7 (A B:Option Addr) (n c m d:Nat):∀ u ∈ ([.slice A n c,.slice B m d]:List Value),u.oneCell'=true:=by simp [Value.oneCell']
theorem Zj9 {p:Prop} (h:p:=by
 refine Aj Ad trivial fun hHeld=>?_;clear Ad KK;refine BG Ky fun KK Ad=>?_;go_simp;refine (Nw s t1 k1 3 (isTerm lb) _).mono ?_;rintro e' w3 ⟨rfl,hb3⟩;replace H:=Aa (H.Av hb3);clear hb3;refine Aj Ad trivial fun hHeld=>?_;clear Ad KK;refine BG LJ fun KK Ad=>?_;refine Jp rfl Ar (.tmp 7) (.tmp 50) rfl _ rfl (H.blk 1 rfl) rfl (DY s t1 (Kg k1 (isTerm lb) 3)) rfl rfl (AU _ _ _) ?_;intro wq bq Aq;replace H:=Aa (H.AA 1 rfl Aq bq);(try simp only [LS] at H);clear Aq bq;refine Aj Ad trivial fun hHeld=>?_;clear Ad KK;refine BZ ?_;clear hHeld;have c1:=(H.blk 4 rfl).Ap 0;go_wp2_with ((with_reducible refine OP 55 ?_);(replace H:=Aa (H.alloc #[.string ⟨lb.toArray⟩] 9);(try simp only [LS] at H);refine Az rfl (.tmp 52) (.tmp 54) _ rfl FB 0 (Bj _) _ j _ rfl (H.row 5 rfl) _ 1 1 [.string ⟨lb.toArray⟩] rfl (AV (H.blk 7 rfl) rfl) Za2 Za4 Xl ?_;intro vq wq AJ Aq AQ;replace H:=Aa (H.setRow 5 rfl Aq AJ AQ);(try simp only [LS] at H);clear AJ Aq AQ;obtain ⟨A2,c2,rfl,_⟩:=Ao (H.row 5 rfl);clear c1;have c1:=(H.blk 4 rfl).Ap 0;have f1:=(H.blk 4 rfl).frozen 0));replace H:=Aa (H.setCell 4 rfl 0 (.slice A2 (j+1) c2));(try simp only [LS] at H);replace H:=Aa (H.Fg [0,1,2,3,4,5] Za1 uH);(try simp only [LS] at H);clear c1 f1;go_wp2_with fail;go_roundg (N - (j+1));case rel=>exact ⟨j+1,ts++[lb],A2,c2,t1,Kg k1 (isTerm lb) 3,rfl,Xl,by go_num,by show _=_;rw [Cn,htc.Ab];(try rfl),HTL2,by rw [Cf];exact H,HI2⟩
 case measure=>rw [Lt.Ab];omega
):p:=h
theorem Zo2 {p:Prop} (h:p:=by
 have HT:Hid (De dc s=([],kk)):=by show _=_;rw [HT0.Ab,Oe.bad hkk]
 rw [show Io s t kk=kk by unfold Io;rw [Al hkk]];have dk:(kk==0)=false:=by simpa using hkk
 have dk2:(kk !=0)=true:=by simpa using hkk
 clear hkk HT0 Oe;go_wp2;go_ret2;rw [HT.Ab];exact ⟨⟨none,0,0,[]⟩,rfl,rfl,H.to,Fw _,GQ⟩
):p:=h
theorem kT (d:Ej) (s:List UInt8) (w:World) (hd:d.rd w) (hs:s.length≤140737488351232) (hn:d.dm.n≤1000000) (hm:d.ms.n≤1000000) (hdd:∀ x ∈ d.dm.l,x.tr.n≤1000000∧∀ t ∈ x.tr.l,t.up.n≤100000):
 Calls prog 72 #[.agg d.cs,.string ⟨s.toArray⟩] w (Ar6 (De d.Ac s) w):=by
 have HC:=Aa (fun w' (hb:Ai w w')=>GI d w' (hd.mono hb) hn hm (fun x hx=>(hdd x hx).1));have HBC:=Aa (fun (X:Row Rw) w' (hX:X.rd w') (hb:Ai w w')=>pQ d X w' (hd.mono hb) hX hn hm hdd);have hl1:d.Ac.Dx.length=d.dm.n:=by have:d.dm.l.length=d.dm.n:=hd.dm.len;simpa using this
 have hl2:d.Ac.ms.length=d.ms.n:=by have:d.ms.l.length=d.ms.n:=hd.ms.len;simpa using this
 have H:=Aa ((SL.start No w).alloc d.cs 25);(try simp only [LS] at H);clear hd hdd;generalize d.Ac=dc at HC HBC hl1 hl2 ⊢;obtain ⟨⟨DA,N,cN,ds⟩,⟨MB,M,cM,ms⟩⟩:=d;simp only [Ej.cs] at *;by_cases hE:Ay dc=0
 ·obtain ⟨_,q2,_,_,q5,_⟩:=BH hE;have hn16:N≤16:=by omega
  have Y0:M≤3:=by omega
  have HT0:Hid (De dc s=match Qi N M s with
   |.error k=>([],k)
   |.ok (rows,r)=>if r=[] then (if CR dc rows=0 then (rows,0) else ([],CR dc rows)) else ([],3)):=by
   show _=_;unfold De;rw [Ak Xl,hl1,hl2]
   rfl
  rw [hE] at HC;clear hE q2 q5 hl1 hl2;have hrn:=fun w=>Qg s 0 300 hs Xl Xl Xl w
  simp only [Pj] at hrn;have HRN:=Aa hrn;clear hrn;go_enter func72,ntmps72;go_wp2_with ((with_reducible refine OP 16 ?_);(refine Bf Bb (H.blk 0 rfl) ?_));refine (HC _ H.to).mono ?_;rintro e w1 ⟨rfl,hb1⟩;replace H:=Aa (H.Av hb1);clear hb1 HC;generalize w.heap.size=x at *;go_wp2_with fail;refine (HRN _).mono ?_;rintro e w2 ⟨t,kk,n,rfl,hb2,Ai3,HS⟩;replace H:=Aa (H.Av hb2);have HI:=Aa (FH.As0 (D:=N) (M:=M) HS.Ab);clear hb2 HRN HS;go_wp2_with ((with_reducible refine OS 7 ?_);(refine DX Ar (DY s t kk) (AU _ _ _) ?_;replace H:=Aa (H.alloc (DY s t kk) 141);(try simp only [LS] at H)));generalize w2.heap.size=a at *;generalize World.alloc _ _=w3 at *;replace H:=Aa (H.Dw 38 2);(try simp only [LS] at H);replace H:=Aa (H.add (Ai.refl _) (BS Wq []) (Dk _ _) GZ);(try simp only [LS] at H);go_loopg [9,10] n (fun gg s9 s10 wr=>∃ (k:Nat) (rows:List Rw) (B:Option Addr) (c:Nat) (t kk:Int),gg=n - k∧k≤n∧s10=.int .i64 k∧s9=.slice B k c∧Hid (rows.length=k)∧Hid (SL No w wr [Aw x 25 #[.slice DA N cN,.slice MB M cM],Aw a 141 (DY s t kk),Ce 38 2 (.slice B k c) k (rows.flatMap AY.cells),BS Wq rows])∧Hid (FH s (Qi N M s) (Jm N M) n k (rows.map Rw.Ac) t kk));case atStart=>exact ⟨0,[],none,0,t,kk,rfl,Xl,rfl,rfl,rfl,H,HI⟩
  case round=>
   clear H HI;obtain ⟨k,rows,B,c,t,kk,BR,hk,rfl,rfl,hac,H,HI⟩:=hrel;obtain ⟨W0,hW0⟩:∃ W0,W0=wr:=⟨_,rfl⟩;subst hW0;have Cs:=Aa BR;have Ar0:k≤300:=by omega
   clear BR;have c2:=(H.blk 1 rfl).Ap 2;by_cases hgo:kk=0∧k<n
   ·obtain ⟨rfl,hlt⟩:=hgo;obtain ⟨tn,rfl,htn,hE⟩:=HI.good;have Kv:=Aa (fun x t' k' (hS:El s (Jm N M (s.drop tn)) t' k' x)=>FH.step hlt hE hS);clear hE HI;go_upto_region 10 with fail;replace H:=Aa (H.alloc #[.slice none 0 0,.slice none 0 0] 38);(try simp only [LS] at H);replace H:=Aa (H.Dw 9 1);(try simp only [LS] at H);have c0:=(H.blk 0 rfl).Ap 0;go_wp2_with fail;clear c0 c2;generalize W0.heap.size=y at *;generalize W0.alloc (.cells #[.slice none 0 0,.slice none 0 0] 38)=w5 at *;obtain ⟨o1,ho1⟩:∃ o1,o1=Bw NR N [] (s.drop tn):=⟨_,rfl⟩;have HI:Hid (FH s o1 NR N 0 [] tn 0):=.inr ⟨rfl,tn,rfl,htn,by rw [ho1,Nat.sub_zero]⟩;have HO1:=Aa ho1;clear ho1;have nN:Hid (∀ t ∈ ([]:List (List UInt8)),t.length≤16):=by show ∀ t ∈ ([]:List (List UInt8)),_;intro t ht;cases ht
    obtain ⟨t0,ht0⟩:∃ t0:Int,t0=tn:=⟨_,rfl⟩;obtain ⟨k0,hk0⟩:∃ k0:Int,k0=0:=⟨_,rfl⟩;rw [←ht0,←hk0] at H HI;clear ht0 hk0;go_loopg [40] N (fun gg s40 wx=>∃ (j:Nat) (ts:List (List UInt8)) (A:Option Addr) (c3:Nat) (t kk:Int),gg=N - j∧j≤N∧s40=.int .i64 j∧Hid (ts.length=j)∧Hid (∀ t ∈ ts,t.length≤16)∧Hid (SL No w wx [Aw x 25 #[.slice DA N cN,.slice MB M cM],Aw a 141 (DY s t kk),Ce 38 2 (.slice B k c) k (rows.flatMap AY.cells),BS Wq rows,Aw y 38 #[.slice A j c3,.slice none 0 0],Ce 9 1 (.slice A j c3) j (ts.map tx)])∧Hid (FH s o1 NR N j ts t kk));case atStart=>exact ⟨0,[],none,0,t0,k0,rfl,Xl,rfl,rfl,nN,H,HI⟩
    case round=>
     clear H HI nN t0 k0;obtain ⟨j,ts,A,c3,t,kk,hgj,hj,rfl,htc,nN,H,HI⟩:=hrel;have Lt:=Aa hgj;clear hgj;by_cases hjlt:j<N
     ·have HX:=Aa (Uk s t kk 16 HI.st hs Xl Xl);have HNx:=Aa (fun t' k' x (h:OQ s NR t kk t' k' x)=>HI.next hjlt h);clear HI;go_wp2_with ((with_reducible refine OP 43 ?_);(refine Bf Ar (H.blk 1 rfl) ?_));refine (HX _).mono ?_;rintro e w6 ⟨t1,k1,lb,rfl,hb6,hlb,hN⟩;replace H:=Aa (H.Av hb6);have HI2:=Aa (HNx _ _ _ hN.trm);have HIs:=Aa (fun w=>WV lb w Xl);have HTL2:Hid (∀ y ∈ ts++[lb],y.length≤16):=by
       intro y hy;rcases Eb.1 hy with hy|hy
       ·exact nN y hy
       ·rw [Ee] at hy;subst hy;omega
      clear hb6 HX HNx hN nN;go_upto_region 13 with ((with_reducible refine OS 12 ?_);(refine DX Ar (DY s t1 k1) (AU _ _ _) ?_;replace H:=Aa (H.alloc (DY s t1 k1) 141);(try simp only [LS] at H)));refine Eo (S:=fun _=>True) Za0 trivial fun hHeld=>?_;replace H:=Aa (H.drew);refine Bd KF ?_;refine Oh Ml MN (fun KK Ad=>?_) fun KK Ad=>?_
      ·refine Je rfl Ar (.tmp 12) rfl _ rfl (H.blk 6 rfl) rfl ?_;refine Aj Ad trivial fun hHeld=>?_;clear Ad KK;refine BG MN fun KK Ad=>?_;go_simp;refine (HIs _).mono ?_;rintro e' w3 ⟨rfl,rfl⟩;exact Zj9
      ·go_simp;refine (HIs _).mono ?_;rintro e' w3 ⟨rfl,rfl⟩;refine Aj Ad trivial fun hHeld=>?_;clear Ad KK;refine BG Ml fun KK Ad=>?_;refine Je rfl Ar (.tmp 12) rfl _ rfl (H.blk 6 rfl) rfl ?_;exact Zj9
     ·obtain rfl:j=N:=by omega
      have zI:=Aa (HI.done (.inr (Ci _)));have HI2:=Aa (FH.As1 (M:=M) zI.Ab);clear HI;have c6:=(H.blk 0 rfl).Ap 1;go_wp2_with fail;clear c6;replace H:=Aa (H.Dw 2 1);(try simp only [LS] at H);have HVL:Hid (∀ t ∈ ([]:List Int),AZ t):=by show ∀ t ∈ ([]:List Int),_;intro t ht;cases ht
      obtain ⟨t1,ht1⟩:∃ t1:Int,t1=t:=⟨_,rfl⟩;obtain ⟨k1,hk1⟩:∃ k1:Int,k1=kk:=⟨_,rfl⟩;rw [←ht1,←hk1] at H HI2 zI;clear ht1 hk1;go_loopg [61] M (fun gg s61 wx=>∃ (i:Nat) (vs:List Int) (B2:Option Addr) (e:Nat) (t kk:Int),gg=M - i∧i≤M∧s61=.int .i64 i∧Hid (vs.length=i)∧Hid (∀ t ∈ vs,AZ t)∧Hid (SL No w wx [Aw x 25 #[.slice DA j cN,.slice MB M cM],Aw a 141 (DY s t kk),Ce 38 2 (.slice B k c) k (rows.flatMap AY.cells),BS Wq rows,Aw y 38 #[.slice A j c3,.slice B2 i e],Ce 9 1 (.slice A j c3) j (ts.map tx),Ce 2 1 (.slice B2 i e) i (vs.map (Value.int .i64))])∧Hid (FH s (oVs M o1) GY M i vs t kk));case atStart=>exact ⟨0,[],none,0,t1,k1,rfl,Xl,rfl,rfl,HVL,H,HI2⟩
      case round=>
       clear H HI2 HVL;obtain ⟨i,vs,B2,e,t,kk,hgi,hi,rfl,hvc,HVL,H,HI⟩:=hrel;have Hgi:=Aa hgi;clear hgi;by_cases hilt:i<M
       ·have HX:=Aa (O0 s t kk HI.st hs);have HNx:=Aa (fun t' k' x (h:OQ s GY t kk t' k' x)=>HI.next hilt h);clear HI;go_wp2_with ((with_reducible refine OP 64 ?_);(refine Bf Ar (H.blk 1 rfl) ?_));refine (HX _).mono ?_;rintro e w6 ⟨t2,k2,v,rfl,hb6,hv,hN⟩;replace H:=Aa (H.Av hb6);have HI2:=Aa (HNx _ _ _ hN.Ab);have HVL2:Hid (∀ y ∈ vs++[v],AZ y):=by
         intro y hy;rcases Eb.1 hy with hy|hy
         ·exact HVL y hy
         ·rw [Ee] at hy;subst hy;exact hv
        clear hb6 HX HNx hN HVL hv;go_wp2_with (first|((with_reducible refine OS 14 ?_);(refine DX Ar (DY s t2 k2) (AU _ _ _) ?_;replace H:=Aa (H.alloc (DY s t2 k2) 141);(try simp only [LS] at H)))|((with_reducible refine OP 68 ?_);(refine Bf Ar (H.blk 7 rfl) ?_))|((with_reducible refine OS 7 ?_);(refine Cj Ar H 1 rfl (DY s t2 k2) (AU _ _ _) ?_;clear H;intro wq H;(try simp only [LS] at H);have c1:=(H.blk 4 rfl).Ap 1))|((with_reducible refine OP 73 ?_);(replace H:=Aa (H.alloc #[.int .i64 v] 2);(try simp only [LS] at H);refine Az rfl (.tmp 70) (.tmp 72) _ rfl Yl 0 (Bj _) _ i _ rfl (H.row 6 rfl) _ 1 1 [.int .i64 v] rfl (AV (H.blk 8 rfl) rfl) Za2 Za4 Xl ?_;intro vq wq AJ Aq AQ;replace H:=Aa (H.setRow 6 rfl Aq AJ AQ);(try simp only [LS] at H);clear AJ Aq AQ;obtain ⟨B9,e9,rfl,_⟩:=Ao (H.row 6 rfl);clear c1;have c1:=(H.blk 4 rfl).Ap 1;have f1:=(H.blk 4 rfl).frozen 1)));replace H:=Aa (H.setCell 4 rfl 1 (.slice B9 (i+1) e9));(try simp only [LS] at H);replace H:=Aa (H.Fg [0,1,2,3,4,5,6] Za1 uH);(try simp only [LS] at H);clear c1 f1;go_wp2_with fail;go_roundg (M - (i+1));case rel=>exact ⟨i+1,vs++[v],B9,e9,t2,k2,rfl,Xl,by go_num,by show _=_;rw [Cn,hvc.Ab];(try rfl),HVL2,by rw [Cf];exact H,HI2⟩
        case measure=>rw [Hgi.Ab];omega
       ·have HSE:=HI.done (.inr Xl);have HI3:Hid (FH s (Qi j M s) (Jm j M) n (k+1) (rows.map Rw.Ac++[⟨ts,vs⟩]) t kk):=Kv _ _ _ (El.Jm (by rw [←HO1.Ab];exact zI.Ab) (by rw [←HO1.Ab];exact HSE));clear HI HSE zI Kv HO1;replace H:=Aa (H.both 5 6 Xl rfl rfl (Wq ⟨⟨A,j,c3,ts⟩,⟨B2,i,e,vs⟩⟩) (rE (H.get 5 rfl) (H.get 6 rfl) nN HVL hn16 Xl) (fun g hg=>hg));(try simp only [LS] at H);go_wp2_with (first|((with_reducible refine OP 77 ?_);(refine Bf KL (H.blk 4 rfl) ?_))|((with_reducible refine OP 78 ?_);(refine AP rfl fU (.tmp 77) rfl (#[.slice A j c3,.slice B2 i e]) rfl rfl Xl ?_;replace H:=Aa (H.Co ((Ai.refl _).alloc _) (CE _ 38 (#[.slice A j c3,.slice B2 i e]) _ rfl));(try simp only [LS] at H)))|((with_reducible refine OP 79 ?_);(refine Az rfl (.tmp 76) (.tmp 78) _ rfl fU 0 (Bj _) _ k _ rfl (H.row 2 rfl) _ 1 1 _ rfl (Rd.BC (H.row 6 rfl)) (Am7 _ _ _ _ _ _) Za4 Xl ?_;intro vq wq AJ Aq AQ;replace H:=Aa (H.setRow 2 rfl Aq AJ AQ);(try simp only [LS] at H);clear AJ Aq AQ;obtain ⟨B9,e9,rfl,_⟩:=Ao (H.row 2 rfl))));replace H:=Aa (H.both 3 5 Xl rfl rfl (BS Wq (rows++[⟨⟨A,j,c3,ts⟩,⟨B2,i,e,vs⟩⟩])) (Bl (H.get 3 rfl) (H.get 5 rfl)) Cg);(try simp only [LS] at H);replace H:=Aa (H.Fg [0,1,2,3] Za1 uH);(try simp only [LS] at H);go_wp2_with fail;go_roundg (n - (k+1));case rel=>exact ⟨k+1,rows++[⟨⟨A,j,c3,ts⟩,⟨B2,i,e,vs⟩⟩],B9,e9,t,kk,rfl,Xl,by go_num,rfl,by show _=_;rw [Cn,hac.Ab];(try rfl),by rw [EM,Df,Gt,EO];exact H,by rw [Cf];exact HI3⟩
        case measure=>rw [Cs.Ab];omega
   ·have Oe:=Aa (HI.done (by by_cases h0:kk=0;exact .inr Xl;exact .inl h0));have hg2:(decide ((k:Int)<n)=false∧decide (k<n)=false∧¬ k<n)∨(decide ((k:Int)<n)=true∧decide (k<n)=true∧k<n∧(kk==0)=false):=by
     by_cases h:k<n
     ·right;refine ⟨by simp<;>omega,by simp<;>omega,h,by simp;intro h0;exact hgo ⟨h0,h⟩⟩
     ·left;refine ⟨by simp<;>omega,by simp<;>omega,h⟩
    clear HI hgo;replace H:=Aa (H.both 2 3 Xl rfl rfl (eY ⟨B,k,c,rows⟩) (WY (H.get 2 rfl) (H.get 3 rfl) Ar0) (fun g hg=>hg));(try simp only [LS] at H);rcases hg2 with ⟨g1,g2,g3⟩|⟨g1,g2,g3,g4⟩
    ·go_wp2_with ((with_reducible refine OP 80 ?_);(refine Bf Ar (H.blk 1 rfl) ?_));refine (Rz s t kk _).mono ?_;rintro e w7 ⟨rfl,Pz⟩;replace H:=Aa (H.Av Pz);clear Pz c2 g1 g2;by_cases hkk:kk=0
     ·subst hkk;obtain ⟨tn,rfl,htn,hP⟩:=Oe.good;by_cases hr:s.drop tn=[]
      ·have HT1:Hid (De dc s=if CR dc (rows.map Rw.Ac)=0 then (rows.map Rw.Ac,0) else ([],CR dc (rows.map Rw.Ac))):=by show _=_;rw [HT0.Ab,hP];simp only;rw [Al hr]
       rw [show Io s tn 0=0 by unfold Io;rw [Ak Xl,Al (by have:=CW List.length hr;simp at this;omega)]];clear hP hr HT0 Oe;go_wp2_with ((with_reducible refine OP 84 ?_);(refine Bf Bb (H.blk 0 rfl) ?_));refine (HBC ⟨B,k,c,rows⟩ _ (H.at_ 2 rfl).1 H.to).mono ?_;rintro e w8 ⟨rfl,iY⟩;replace H:=Aa (H.Av iY);clear iY HBC;by_cases hE2:CR dc (rows.map Rw.Ac)=0
       ·have HT:Hid (De dc s=(rows.map Rw.Ac,0)):=by show _=_;rw [HT1.Ab,Al hE2]
        simp only [hE2];clear hE2 HT1;go_wp2;go_ret2;rw [HT.Ab];exact ⟨⟨B,k,c,rows⟩,rfl,rfl,H.to,H.get 2 rfl,H.new 2 rfl⟩
       ·have HT:Hid (De dc s=([],CR dc (rows.map Rw.Ac))):=by show _=_;rw [HT1.Ab,Ak hE2]
        simp only;generalize CR dc (rows.map Rw.Ac)=E at *;have dk:(E==0)=false:=by simpa using hE2
        have dk2:(E !=0)=true:=by simpa using hE2
        clear hE2 HT1;go_wp2;go_ret2;rw [HT.Ab];exact ⟨⟨none,0,0,[]⟩,rfl,rfl,H.to,Fw _,GQ⟩
      ·have HT:Hid (De dc s=([],3)):=by show _=_;rw [HT0.Ab,hP];simp only;rw [Ak hr]
       rw [show Io s tn 0=3 by unfold Io;rw [Ak Xl,Ak (fun h=>hr (EN Xl))]];clear hP hr HT0 Oe;go_wp2;go_ret2;rw [HT.Ab];exact ⟨⟨none,0,0,[]⟩,rfl,rfl,H.to,Fw _,GQ⟩
     ·exact Zo2
    ·have hkk:kk≠0:=by simpa using g4
     clear g4;go_wp2_with ((with_reducible refine OP 80 ?_);(refine Bf Ar (H.blk 1 rfl) ?_));refine (Rz s t kk _).mono ?_;rintro e w7 ⟨rfl,Pz⟩;replace H:=Aa (H.Av Pz);clear Pz c2 g1 g2;exact Zo2
 ·have HT:Hid (De dc s=([],Ay dc)):=by show _=_;unfold De;rw [Al hE]
  have dE:(Ay dc==0)=false:=by simpa using hE
  have dE2:(Ay dc !=0)=true:=by simpa using hE
  clear hE;go_enter func72,ntmps72;go_wp2_with ((with_reducible refine OP 16 ?_);(refine Bf Bb (H.blk 0 rfl) ?_));exact Zs2
end Go.Proofs.YtijplolmkcdflaaGreat
