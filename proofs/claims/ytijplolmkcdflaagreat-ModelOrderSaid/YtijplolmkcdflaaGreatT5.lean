/- What follows was written short by a program: the walks that lead to YtijplolmkcdflaaGreatModelOrder. -/
import Derived.Test.YtijplolmkcdflaaGreatT4
set_option maxHeartbeats 8000000
set_option maxRecDepth 100000
set_option linter.unusedVariables false
set_option linter.unusedSimpArgs false
namespace Go.Proofs.YtijplolmkcdflaaGreat
open Tryz
open Go.RowKit
theorem uR {T:Nat→Prop} {A:Option Addr} {n c:Nat} {L:List NR} {w0 w w':World} (h1:(Cb 136 11 (.slice A n c) n (L.flatMap Ar.cells)).holds w) (h2:(Ig jU L).holds w) (n1:∀ g,(Cb 136 11 (.slice A n c) n (L.flatMap Ar.cells)).D g→w0.heap.size≤g) (n2:∀ g,(Ig jU L).D g→w0.heap.size≤g)
 (hT:∀ g,T g→g<w0.heap.size) (k:Fr T w w') (hn:n≤1000000):(Row.mk A n c L).rd w':=by
 refine R7 (h1.keep k.size fun g hg=>k.block g (h1.1 g hg) fun ht=>?_) (h2.keep k.size fun g hg=>k.block g (h2.1 g hg) fun ht=>?_) hn
 ·have:=hT g ht;have:=n1 g hg;omega
 ·have:=hT g ht;have:=n2 g hg;omega
def qG (T:Nat→Prop) (o:aG) (w:World) (e:Ending) (w':World):Prop:=∃ a:Io,e=.returned (.agg a.cs)∧Aj w w'∧a.Ac=o∧ET T w' fun w=>a.rd w
theorem pI {T:Nat→Prop} {k:Int} {w w':World} (hb:Aj w w'):qG T ⟨k,[],[]⟩ w (.returned (.agg (Io.err k).cs)) w':=⟨Io.err k,rfl,hb,rfl,fun wz _=>CQ k wz⟩
theorem zM (T:Nat→Prop) (B:Nat) (x:Py) (c:NS) (w:World) (hb:Br w B 86 x.ms) (hT:∀ g,T g→g<w.heap.size) (hx:ET T w fun w=>x.rd w) (hc:c.data.length≤140737488351232) (hi:MInv x.Ac) (hh:x.has=true):
 Calls prog 36 #[.pointer (some ⟨B,0,none⟩),.agg c.cs] w (qG T (Mj x.Ac c.data) w):=by
 have HX:Hid (∀ w',Aj w w'→x.rd w'):=fun w' h=>hx w' (Fr.QF h)
 have Xz:=Aa (fun w' (h:Aj w w')=>hb.Au h)
 have hx0:=hx.now
 have hsm:=hx0.sm
 have Us:=Aa (fun w' (h:Aj w w')=>fV x.ct.sc c.data w' (HX w' h).ct.sc hc hsm.1 hsm.2.1 hsm.2.2)
 have wS:=Aa hT
 have hmf:∀ (fn:Fn) (first cap:Array Value) (w:World),(Instr.makeFunc fn first cap).run prog w=.ok (.func fn first cap) w:=fun _ _ _ _=>rfl
 have HI:=Aa hi
 have K4:=Aa hsm
 have hrl:Hid (x.rows.l.length=x.rows.n):=hx0.rows.len
 have hrn:x.rows.n≤4000:=by have h1:=hi.len;have h2:=hx0.rows.len;have h3:x.Ac.rows.length=x.rows.l.length:=AL _;omega
 have HRW:=Aa hx0.rows
 have H:=Aa (((SL.start No w).alloc c.cs 41).alloc #[.int .i64 0,.slice none 0 0,.slice none 0 0] 49)
 (try simp only [LS] at H)
 clear hb hT hx hc hi hh hx0 hsm
 go_enter func36,ntmps36
 go_upto_region 1 with fail
 generalize w.heap.size+1=y at H ⊢
 generalize w.heap.size=q at H ⊢
 generalize World.alloc (World.alloc _ _) _=w0 at H ⊢
 refine' qK (P:=fun z (X:Qr) wq=>X.Ac=(DR x.ct.sc.Ac c.data).1∧SL No w wq [Av q 41 c.cs,Av y 49 #[.int .i64 0,.slice none 0 0,.slice none 0 0],jT X.ps,Av z 29 X.cs]) (fun key=>?mn) ?tl
 case mn=>
  refine EG (S:=fun W=>Br W B 86 x.ms∧W.cell? ⟨q,1,none⟩=some (.string ⟨c.data.toArray⟩)) (by kernel_rfl) ⟨by first|exact Xz _ H.to|exact Xz _ H.to.drew,(H.blk 0 rfl).cell 1⟩ fun hHeld=>?_
  replace H:=Aa (H.drew)
  generalize World.drew _=w8 at *
  refine BJ NG ?_
  refine BJ KG ?_
  refine BJ NW ?_
  refine BJ KF ?_
  refine QZ (i:=4) (v:=.agg x.ct.sc.cs) Mr (by kernel_rfl) (by kernel_rfl) (by kernel_rfl) (by exact fun _ _ _ h=>h) (Fb BL (by rfl) (.tmp 22) rfl B 0 rfl (fun w h=>Br.part h.1 0 x.ct.sc.cs.toList rfl) rfl) (by assumption) ?_
  try simp only [Act.put,LP]
  refine BJ Lv ?_
  refine BJ Mq ?_
  refine NV LX IL (fun KK Ad=>?_) fun KK Ad=>?_
  ·go_simp
   refine (Us _ H.to).mono ?_;rintro e' w1 ⟨X,rfl,hX,hb1,hN⟩
   replace H:=Aa (H.add hb1 _ hN.1 hN.2);(try simp only [LS] at H)
   have qB:=Aa hX
   clear hX hb1 hN
   refine Ai Ad ⟨by first|exact Xz _ H.to|exact Xz _ H.to.drew,(H.blk 0 rfl).cell 1⟩ fun hHeld=>?_
   clear Ad KK
   refine BJ Px ?_
   refine BJ Qb ?_
   refine BJ Jj ?_
   refine BD IL fun KK Ad=>?_
   go_simp
   replace H:=Aa (H.alloc #[.slice none 0 0] 29);(try simp only [LS] at H)
   generalize w1.heap.size=z at H ⊢
   generalize World.alloc w1 _=w7 at H ⊢
   refine Ai Ad ⟨by first|exact Xz _ H.to|exact Xz _ H.to.drew,(H.blk 0 rfl).cell 1⟩ fun hHeld=>?_
   clear Ad KK
   refine BD Ji fun KK Ad=>?_
   refine EU rfl FH (.tmp 5) (.tmp 27) rfl _ rfl (H.blk 3 rfl) rfl (X.cs) rfl rfl (yH X) ?_
   intro wq bq Ay
   replace H:=Aa (H.AY 3 rfl Ay bq);(try simp only [LS] at H)
   clear Ay bq
   refine Ai Ad ⟨by first|exact Xz _ H.to|exact Xz _ H.to.drew,(H.blk 0 rfl).cell 1⟩ fun hHeld=>?_
   clear Ad KK
   refine BJ KZ ?_
   refine BX ?_
   clear hHeld
   replace H:=Aa (H.Gh [0,1,2,3] (by decide) (by simp));(try simp only [LS] at H)
   exact key z X _ ⟨qB.Ab,H.Ab⟩
  ·go_simp
   replace H:=Aa (H.alloc #[.slice none 0 0] 29);(try simp only [LS] at H)
   generalize w8.heap.size=z at H ⊢
   generalize World.alloc w8 _=w7 at H ⊢
   refine Ai Ad ⟨by first|exact Xz _ H.to|exact Xz _ H.to.drew,(H.blk 0 rfl).cell 1⟩ fun hHeld=>?_
   clear Ad KK
   refine BD LX fun KK Ad=>?_
   go_simp
   refine (Us _ H.to).mono ?_;rintro e' w1 ⟨X,rfl,hX,hb1,hN⟩
   replace H:=Aa (H.add hb1 _ hN.1 hN.2);(try simp only [LS] at H)
   have qB:=Aa hX
   clear hX hb1 hN
   refine Ai Ad ⟨by first|exact Xz _ H.to|exact Xz _ H.to.drew,(H.blk 0 rfl).cell 1⟩ fun hHeld=>?_
   clear Ad KK
   refine BJ Px ?_
   refine BJ Qb ?_
   refine BJ Jj ?_
   refine BD Ji fun KK Ad=>?_
   refine EU rfl FH (.tmp 5) (.tmp 27) rfl _ rfl (H.blk 2 rfl) rfl (X.cs) rfl rfl (yH X) ?_
   intro wq bq Ay
   replace H:=Aa (H.AY 2 rfl Ay bq);(try simp only [LS] at H)
   clear Ay bq
   refine Ai Ad ⟨by first|exact Xz _ H.to|exact Xz _ H.to.drew,(H.blk 0 rfl).cell 1⟩ fun hHeld=>?_
   clear Ad KK
   refine BJ KZ ?_
   refine BX ?_
   clear hHeld
   replace H:=Aa (H.Gh [0,1,3,2] (by decide) (by simp));(try simp only [LS] at H)
   exact key z X _ ⟨qB.Ab,H.Ab⟩
 case tl=>
  rintro z X wq ⟨hX,hH⟩
  replace H:=Aa hH
  clear hH Us
  (try simp only at H)
  obtain ⟨O,hO⟩:∃ O,O=DR x.ct.sc.Ac c.data:=⟨_,rfl⟩
  rw [←hO] at hX ⊢
  have nM:=Aa hO
  clear hO
  obtain ⟨QC,K⟩:=O
  simp only at hX ⊢
  by_cases hK:K=0
  ·subst hK
   have hE:Bl x.ct.sc.Ac X.Ac=0:=by have h:=(ZJ (s:=x.ct.sc.Ac) (b:=c.data) (by rw [←nM.Ab])).1;rw [←nM.Ab] at h;rw [hX];exact h
   have hXr:=(H.at_ 2 rfl:X.ps.rd wq∧X.ps.n≤16∧∀ p ∈ X.ps.l,p.set.n≤200)
   have HQS:Hid (∀ p ∈ X.ps.l,p.set.n≤100000):=fun p hp=>by have:=hXr.2.2 p hp;omega
   have qB:Hid (QC=X.Ac):=hX.symm
   have nO:=Aa hE
   have HMM:Hid (Mj x.Ac c.data=pJ x.ct.sc.Ac X.Ac (Jm (CW x.ct.sc.Ac X.Ac x.Ac.rows))):=by
    show _=_
    unfold Mj
    rw [show x.Ac.cat=x.ct.Ac from rfl,show x.ct.Ac.sc=x.ct.sc.Ac from rfl,←nM.Ab]
    simp only
    rw [Ah (by decide),qB.Ab]
   have HKP:=Aa (fun f (hf:f ∈ x.Ac.rows)=>(HI.rows f hf).2)
   have HFIT:=Aa (QN (s:=x.ct.sc.Ac) (q:=X.Ac) HI.fit)
   have HNMD:Hid (∀ f ∈ Jm (CW x.ct.sc.Ac X.Ac x.Ac.rows),Dx x.ct.sc.Ac X.Ac f.1=.ok (QH x.ct.sc.Ac X.Ac f.1)):=Zr HI hE
   clear hXr hX hE HI nM qB
   have c9:wq.cell? ⟨B,9,none⟩=some (.slice x.rows.A x.rows.n x.rows.c):=(Xz _ H.to).cell 9
   replace H:=Aa ((H.ES 97 11).add (Aj.refl _) (Ig rH []) (Ka _ _) Ov);(try simp only [LS] at H)
   go_upto_region 7 with fail
   clear c9
   obtain ⟨n,hn⟩:∃ n,n=x.rows.n:=⟨_,rfl⟩
   rw [←hn] at hrn hrl ⊢
   have HNN:=Aa hn
   clear hn
   go_loopg [7,40] n (fun gg s7 s40 wr=>∃ (k m:Nat) (A:Option Addr) (c':Nat) (L:List AV),gg=n - k∧k≤n∧m≤k∧s7=.slice A m c'∧s40=.int .i64 k∧Hid (cons L=CW x.ct.sc.Ac X.Ac (x.Ac.rows.take k))∧Hid (SL No w wr [Av q 41 c.cs,Av y 49 #[.int .i64 0,.slice none 0 0,.slice none 0 0],jT X.ps,Av z 29 X.cs,Cb 97 11 (.slice A m c') m (L.flatMap Ar.cells),Ig rH L]))
   case atStart=>exact ⟨0,0,none,0,[],rfl,by omega,by omega,rfl,rfl,rfl,H⟩
   case round=>
    clear H
    obtain ⟨k,m,A,c',L,BG,hk,hmk,rfl,rfl,K9,H⟩:=hrel
    have Cg:=Aa BG
    clear BG
    by_cases hlt:k<n
    ·obtain ⟨b,o,f,hA,hb,R5,hfo,_,hrg,_⟩:=HRW.U2 (k:=k) (by rw [←HNN.Ab];exact hlt)
     have hck:x.Ac.rows[k]?=some f.Ac:=by show (cons x.rows.l)[k]?=_;exact Ld R5
     have hfm:=CE hck
     have HST:=Aa (eP (s:=x.ct.sc.Ac) (q:=X.Ac) hck)
     have HUN:=Aa (fun w' (h:Aj w w') (hq:X.ps.rd w')=>kS B x X f w' (Xz w' h) (HX w' h).ct.sc hq ⟨hfo.ks.mono h,hfo.ag⟩ nO (HKP _ hfm) (fun p hp=>by have:=HQS p hp;omega))
     have qC:=Aa (fun l (hl:Eh x.ct.sc.Ac.DF X.Ac f.ks.l=some l)=>TK (BA (Em nO.Ab).1).2.2.1 (Em nO.Ab).2.1 (Em nO.Ab).2.2 (HKP _ hfm) hl)
     have HD16:=Aa (BA (Em nO.Ab).1).2.1
     have HFAG:=Aa hfo.ag
     have HRF:Hid (∀ w',Aj w w'→w'.rangeAt b (o+k * 11) f.cs.toList):=fun w' h=>Ee hb hrg h
     have HRA:=Aa hA
     have i0:(0:Int)≤k:=by omega
     have i1:(k:Int)<n:=by omega
     clear hb R5 hfo hrg hck hfm
     rw [hA]
     clear hA
     go_upto_region 9 with (first|((with_reducible refine OP 43 ?_);(refine Ae rfl BM (.tmp 42) rfl b (o+k * 11) rfl f.cs rfl (HRF _ H.to) ?_))|((with_reducible refine OS 10 ?_);(refine Fu BM (f.cs) (FC f) ?_;replace H:=Aa (H.alloc (f.cs) 97);(try simp only [LS] at H))))
     (try simp only [Act.put,LP])
     (try simp only [LS] at H)
     clear HRF
     generalize wr.heap.size=fz at H ⊢
     generalize World.alloc wr _=w3 at H ⊢
     go_wp2_with (first|((with_reducible refine OP 46 ?_);(refine Cx FH (H.blk 3 rfl) ?_))|((with_reducible refine OP 47 ?_);(refine Cx BM (H.blk 6 rfl) ?_)))
     refine (HUN _ H.to (H.at_ 2 rfl).1).mono ?_;rintro e w4 hU
     clear HUN
     unfold pM at hU
     cases hp:Eh x.ct.sc.Ac.DF X.Ac f.ks.l with
     |none=>
      rw [hp] at hU
      obtain ⟨rfl,hb4⟩:=hU
      have HL2:Hid (cons L=CW x.ct.sc.Ac X.Ac (x.Ac.rows.take (k+1))):=by show _=_;rw [K9.Ab,HST.Ab,show f.Ac.1=f.ks.l from rfl,hp,EZ]
      replace H:=Aa (H.Au hb4)
      clear hp hb4 K9 HST qC
      go_upto_region 10 with ((with_reducible refine OS 11 ?_);(refine Fu BM ((AV.mk ⟨none,0,0,[]⟩ .zero).cs) (FC _) ?_;replace H:=Aa (H.alloc ((AV.mk ⟨none,0,0,[]⟩ .zero).cs) 97);(try simp only [LS] at H)))
      (try simp only [Act.put,LP])
      (try simp only [LS] at H)
      generalize World.alloc w4 _=w9 at H ⊢
      generalize w4.heap.size=gz at H ⊢
      replace H:=Aa (H.Gh [0,1,2,3,4,5] (by decide) (by simp));(try simp only [LS] at H)
      go_wp2_with fail
      rw [←HRA.Ab]
      go_roundg (n - (k+1))
      case rel=>exact ⟨k+1,m,A,c',L,rfl,by omega,by omega,rfl,by go_num,HL2,H⟩
      case measure=>rw [Cg.Ab];omega
     |some ks=>
      rw [hp] at hU
      obtain ⟨KA,kc,rfl,hb4,ho4⟩:=hU
      have HL2:Hid (cons (L++[(AV.mk ⟨KA,ks.length,kc,ks⟩ f.ag)])=CW x.ct.sc.Ac X.Ac (x.Ac.rows.take (k+1))):=by show _=_;rw [HST.Ab,show f.Ac.1=f.ks.l from rfl,hp,←K9.Ab];unfold cons;rw [BR];rfl
      have hps:=qC ks hp
      have HKS:=Aa hps.1
      have hks:ks.length≤1000000:=by have:=hps.2;have:=HD16.Ab;omega
      replace H:=Aa (H.CJ hb4 ho4);(try simp only [LS] at H)
      clear hp hb4 ho4 K9 HST qC hps
      go_upto_region 11 with ((with_reducible refine OS 11 ?_);(refine Fu BM ((AV.mk ⟨KA,ks.length,kc,ks⟩ f.ag).cs) (FC _) ?_;replace H:=Aa (H.alloc ((AV.mk ⟨KA,ks.length,kc,ks⟩ f.ag).cs) 97);(try simp only [LS] at H)))
      (try simp only [Act.put,LP])
      (try simp only [LS] at H)
      generalize w4.heap.size=gz at H ⊢
      generalize World.alloc w4 _=w9 at H ⊢
      go_upto_region 12 with (first|((with_reducible refine OP 53 ?_);(refine Cx BM (H.blk 8 rfl) ?_))|((with_reducible refine OP 54 ?_);(refine Cr rfl MJ (.tmp 53) rfl ((AV.mk ⟨KA,ks.length,kc,ks⟩ f.ag).cs) rfl rfl (by omega) ?_;replace H:=Aa (H.CJ ((Aj.refl _).alloc _) (Dc _ 97 ((AV.mk ⟨KA,ks.length,kc,ks⟩ f.ag).cs) _ rfl));(try simp only [LS] at H)))|((with_reducible refine OP 55 ?_);(refine BI rfl (.tmp 52) (.tmp 54) _ rfl MJ 0 (Bw _) _ m _ rfl (H.row 4 rfl) _ 1 1 _ rfl (Rd.Bf (H.row 9 rfl)) (Mw (AV.mk ⟨KA,ks.length,kc,ks⟩ f.ag)) (by unfold maxLen;omega) (by omega) ?_;intro vq wq AR Ay Bb;replace H:=Aa (H.setRow 4 rfl Ay AR Bb);(try simp only [LS] at H);clear AR Ay Bb;obtain ⟨A2,c2,rfl,_⟩:=Ao (H.row 4 rfl))))
      (try simp only [Act.put,LP])
      replace H:=Aa (H.turn 7 rfl (rH (AV.mk ⟨KA,ks.length,kc,ks⟩ f.ag)) (uL (f:=(AV.mk ⟨KA,ks.length,kc,ks⟩ f.ag)) (H.get 7 rfl) HKS hks HFAG.Ab) (fun _ h=>h));(try simp only [LS] at H)
      replace H:=Aa (H.xN 5 7 (a:=(AV.mk ⟨KA,ks.length,kc,ks⟩ f.ag)) (by omega) rfl rfl);(try simp only [LS] at H)
      replace H:=Aa (H.Gh [0,1,2,3,4,5] (by decide) (by simp));(try simp only [LS] at H)
      have E2:L.flatMap Ar.cells++(AV.mk ⟨KA,ks.length,kc,ks⟩ f.ag).cs.toList=(L++[(AV.mk ⟨KA,ks.length,kc,ks⟩ f.ag)]).flatMap Ar.cells:=by rw [FD,CY,IM,EZ];rfl
      rw [E2] at H
      clear E2
      go_wp2_with fail
      rw [←HRA.Ab]
      go_roundg (n - (k+1))
      case rel=>exact ⟨k+1,m+1,A2,c2,L++[(AV.mk ⟨KA,ks.length,kc,ks⟩ f.ag)],rfl,by omega,by omega,rfl,by go_num,HL2,H⟩
      case measure=>rw [Cg.Ab];omega
    ·have hkn:k=n:=by omega
     subst hkn
     have HLG:Hid (cons L=CW x.ct.sc.Ac X.Ac x.Ac.rows):=by show _=_;rw [K9.Ab,DY (by show (cons x.rows.l).length≤_;rw [AL,hrl.Ab];exact BZ _)]
     have hok:=U0 (H.get 4 rfl) (H.get 5 rfl) (by omega)
     have HAN:=Aa (gB ⟨A,m,c',L⟩ wr hok (by show m≤5000;omega))
     have HFD:Hid (NI (AZ (cons L))=some (Jm (CW x.ct.sc.Ac X.Ac x.Ac.rows))):=by show _=_;rw [HLG.Ab];exact QO HFIT.Ab
     clear hok K9
     go_wp2_with fail
     refine HAN.mono ?_;rintro e w5 ⟨v,kk,rfl,hF,hb5⟩
     replace H:=Aa (H.Au hb5)
     rcases hF with ⟨h,_⟩|⟨Y,hy,rfl,rfl,WZ,hyn⟩
     ·rw [HFD.Ab] at h;cases h
     have wN:cons Y.l=Jm (CW x.ct.sc.Ac X.Ac x.Ac.rows):=by rw [HFD.Ab] at hy;injection hy with hy;exact hy.symm
     have HYC:=Aa wN
     have hyl:Y.n=(Jm (CW x.ct.sc.Ac X.Ac x.Ac.rows)).length:=by rw [←wN,AL];exact WZ.len.symm
     clear hy wN hb5 HAN
     by_cases R6:500<Y.n
     ·have HRE:Hid (Mj x.Ac c.data=⟨6,[],[]⟩):=by show _=_;rw [HMM.Ab];unfold pJ;rw [Ak (by rw [←hyl];exact R6)]
      have d1:decide ((500:Int)<(Y.n:Int))=true:=by simp<;>omega
      have d1n:decide (500<Y.n)=true:=by simp<;>omega
      clear hyl R6 HMM
      go_wp2_with fail
      refine (CF 6 _).mono ?_;rintro e wf ⟨rfl,hbf⟩
      replace H:=Aa (H.Au hbf)
      clear hbf
      go_wp2_with ((with_reducible refine OS 4 ?_);(refine Ec Bh H 1 rfl ((Io.err (6)).cs) (CL _) ?_;clear H;intro wq H;(try simp only [LS] at H)))
      (try simp only [Act.put,LP])
      refine Ce (Aq rfl Bh rfl (H.blk 1 rfl) rfl) rfl ?_
      rw [HRE.Ab]
      exact pI H.to
     ·have HRE:Hid (Mj x.Ac c.data=⟨0,QI x.ct.sc.Ac X.Ac (cons Y.l),[]⟩):=by show _=_;rw [HMM.Ab];unfold pJ;rw [Ah (by rw [←hyl];exact R6),HYC.Ab]
      have d1:decide ((500:Int)<(Y.n:Int))=false:=by simp<;>omega
      have d1n:decide (500<Y.n)=false:=by simp<;>omega
      have hy5:Y.n≤500:=by omega
      have HYO:=Aa WZ
      have HO:=H
      have wT:Hid (∀ w',Aj w5 w'→Aj w w'):=fun w' h=>HO.to.trans h
      have Y2:Hid (∀ w',Aj w5 w'→Br w' B 86 x.ms):=fun w' h=>Xz _ (wT _ h)
      have X3:Hid (∀ w',Aj w5 w'→Br w' z 29 X.cs):=fun w' h=>(HO.blk 3 rfl).Au h
      have HXQ5:Hid (∀ w',Aj w5 w'→X.ps.rd w'):=fun w' h=>(HO.at_ 2 rfl).1.mono h
      replace H:=Aa (((SL.start No w5).alloc #[.int .i64 0,.slice none 0 0,.slice none 0 0] 49).ES 136 11|>.add (Aj.refl _) (Ig jU []) (Ka _ _) Ov)
      (try simp only [LS] at H)
      clear hyl R6 HMM WZ
      go_upto_region 20 with fail
      clear d1 d1n
      generalize w5.heap.size=oz at H ⊢
      generalize World.alloc w5 _=wo at H ⊢
      go_loopg [72] Y.n (fun gg s72 wr=>∃ (k:Nat) (A:Option Addr) (c':Nat) (L:List NR),gg=Y.n - k∧k≤Y.n∧s72=.int .i64 k∧Hid (L.map NR.Ac=QI x.ct.sc.Ac X.Ac ((cons Y.l).take k))∧Hid (L.length=k)∧Hid (SL No w5 wr [Av oz 49 #[.int .i64 0,.slice A k c',.slice none 0 0],Cb 136 11 (.slice A k c') k (L.flatMap Ar.cells),Ig jU L]))
      case atStart=>exact ⟨0,none,0,[],rfl,by omega,rfl,rfl,rfl,H⟩
      case round=>
       clear H
       obtain ⟨k,A,c',L,BG,hk,rfl,K9,HLL,H⟩:=hrel
       have Cg:=Aa BG
       clear BG
       by_cases hlt:k<Y.n
       ·obtain ⟨b,o,f,hA,hb,R5,hfo,_,hrg,_⟩:=HYO.U2 (k:=k) hlt
        have hyk:(cons Y.l)[k]?=some f.Ac:=Ld R5
        have hnm:=HNMD f.Ac (by rw [←HYC.Ab];exact CE hyk)
        obtain ⟨ts,hts⟩:∃ ts,ts=QH x.ct.sc.Ac X.Ac f.Ac.1:=⟨_,rfl⟩
        rw [←hts] at hnm
        have hnl:=dP nO hnm
        have HTS:Hid ((∀ t ∈ ts,t.length≤16)∧ts.length≤1000000):=⟨hnl.1,by have:=hnl.2;omega⟩
        have HTE:=Aa hts
        have HNM:=Aa (fun w' (h:Aj w5 w')=>sZ x.ct.sc X f.ks w' (HX w' (wT _ h)).ct.sc (HXQ5 w' h) (hfo.ks.mono h).Vw hfo.ks.le K4.1 K4.2.1 K4.2.2 HQS.Ab)
        rw [show Dx x.ct.sc.Ac X.Ac f.ks.l=.ok ts from hnm] at HNM
        have HFG:=Aa hfo.ag
        have HYk:=Aa hyk
        have HRF:Hid (∀ w',Aj w5 w'→w'.rangeAt b (o+k * 11) f.cs.toList):=fun w' h=>Ee hb hrg h
        have HYA:=Aa hA
        have i0:(0:Int)≤k:=by omega
        have i1:(k:Int)<Y.n:=by omega
        have hts16:=hnl.2
        clear hb R5 hfo hrg hyk hnm hnl hts
        (try simp only [Row.v])
        rw [hA]
        clear hA
        go_upto_region 22 with (first|((with_reducible refine OP 75 ?_);(refine Ae rfl BM (.tmp 74) rfl b (o+k * 11) rfl f.cs rfl (HRF _ H.to) ?_))|((with_reducible refine OS 15 ?_);(refine Fu BM (f.cs) (FC f) ?_;replace H:=Aa (H.alloc (f.cs) 97);(try simp only [LS] at H))))
        (try simp only [Act.put,LP])
        (try simp only [LS] at H)
        clear HRF
        generalize wr.heap.size=fz at H ⊢
        generalize World.alloc wr _=w3 at H ⊢
        refine EG (S:=fun W=>Br W B 86 x.ms∧Br W z 29 X.cs∧W.cell? ⟨fz,0,none⟩=some (.slice f.ks.A f.ks.n f.ks.c)) (by kernel_rfl) ⟨by first|exact Y2 _ H.to|exact Y2 _ H.to.drew,by first|exact X3 _ H.to|exact X3 _ H.to.drew,(H.blk 3 rfl).cell 0⟩ fun hHeld=>?_
        replace H:=Aa (H.drew)
        generalize World.drew _=w8 at *
        refine BJ NG ?_
        refine BJ KG ?_
        refine BJ NW ?_
        refine BJ KF ?_
        refine QZ (i:=4) (v:=.agg x.ct.sc.cs) Mr (by kernel_rfl) (by kernel_rfl) (by kernel_rfl) (by exact fun _ _ _ h=>h) (Fb BL (by rfl) (.tmp 80) rfl B 0 rfl (fun w h=>Br.part h.1 0 x.ct.sc.cs.toList rfl) rfl) (by assumption) ?_
        try simp only [Act.put,LP]
        refine QZ (i:=5) (v:=.agg X.cs) Lv (by kernel_rfl) (by kernel_rfl) (by kernel_rfl) (by exact fun _ _ _ h=>h) (Fb FH (by rfl) (.tmp 5) rfl z 0 rfl (fun w h=>Br.part h.2.1 0 X.cs.toList rfl) rfl) (by assumption) ?_
        try simp only [Act.put,LP]
        refine BJ Mq ?_
        refine BJ LX ?_
        refine BD Px fun KK Ad=>?_
        go_simp
        refine (HNM _ H.to).mono ?_;rintro e' w6 ⟨NA,nc,rfl,hb6,ho6⟩
        replace H:=Aa (H.CJ hb6 ho6);(try simp only [LS] at H)
        clear hb6 ho6
        refine Ai Ad ⟨by first|exact Y2 _ H.to|exact Y2 _ H.to.drew,by first|exact X3 _ H.to|exact X3 _ H.to.drew,(H.blk 3 rfl).cell 0⟩ fun hHeld=>?_
        clear Ad KK
        refine BJ Qb ?_
        refine BJ Jj ?_
        refine BJ IL ?_
        refine BJ Ji ?_
        refine BJ KZ ?_
        refine BX ?_
        clear hHeld
        clear HNM
        have cz:=(H.blk 0 rfl).cell 1
        replace cz:=cz.trans (show _=some (Value.slice A k c') from rfl)
        have HAG:Hid (∀ w,w=w6→w.rangeAt fz 1 f.ag.cs.toList):=fun w e=>e ▸ (H.blk 3 rfl).part 1 f.ag.cs.toList rfl
        go_upto_region 24 with (first|((with_reducible refine OP 92 ?_);(refine Ae rfl yG (.tmp 91) rfl fz (1) rfl f.ag.cs rfl (HAG _ rfl) ?_))|((with_reducible refine OP 93 ?_);refine EA rfl (.tmp 90) (.tmp 92) rfl (vx:=.slice NA ts.length nc) (vy:=.agg f.ag.cs) (v:=.agg (NR.mk ⟨NA,ts.length,nc,ts⟩ f.ag).cs) rfl rfl (vQ NA ts.length nc ts f.ag) ?_)|((with_reducible refine OP 94 ?_);(refine Cr rfl Aa4 (.tmp 93) rfl ((NR.mk ⟨NA,ts.length,nc,ts⟩ f.ag).cs) rfl rfl (by omega) ?_;replace H:=Aa (H.CJ ((Aj.refl _).alloc _) (Dc _ 136 ((NR.mk ⟨NA,ts.length,nc,ts⟩ f.ag).cs) _ rfl));(try simp only [LS] at H);have HAG:=0))|((with_reducible refine OP 95 ?_);(refine BI rfl (.tmp 89) (.tmp 94) _ rfl Aa4 0 (Bw _) _ k _ rfl (H.row 1 rfl) _ 1 1 _ rfl (Rd.Bf (H.row 5 rfl)) (q9 (NR.mk ⟨NA,ts.length,nc,ts⟩ f.ag)) (by unfold maxLen;omega) (by omega) ?_;intro vq wq AR Ay Bb;replace H:=Aa (H.setRow 1 rfl Ay AR Bb);(try simp only [LS] at H);clear AR Ay Bb;obtain ⟨A2,c2,rfl,_⟩:=Ao (H.row 1 rfl);clear cz;have cz:=(H.blk 0 rfl).cell 1;replace cz:=cz.trans (show _=some (Value.slice A k c') from rfl);have fz0:=(H.blk 0 rfl).frozen 1)))
        (try simp only [Act.put,LP])
        replace H:=Aa (H.setCell 0 rfl 1 (.slice A2 (k+1) c2));(try simp only [LS] at H)
        clear cz fz0
        replace H:=Aa (H.turn 4 rfl (jU (NR.mk ⟨NA,ts.length,nc,ts⟩ f.ag)) (uK (g:=(NR.mk ⟨NA,ts.length,nc,ts⟩ f.ag)) (H.get 4 rfl) HTS.1 HTS.2 HFG.Ab) (fun _ h=>h));(try simp only [LS] at H)
        replace H:=Aa (H.xN 2 4 (a:=(NR.mk ⟨NA,ts.length,nc,ts⟩ f.ag)) (by omega) rfl rfl);(try simp only [LS] at H)
        replace H:=Aa (H.Gh [0,1,2] (by decide) (by simp));(try simp only [LS] at H)
        have E2:L.flatMap Ar.cells++(NR.mk ⟨NA,ts.length,nc,ts⟩ f.ag).cs.toList=(L++[(NR.mk ⟨NA,ts.length,nc,ts⟩ f.ag)]).flatMap Ar.cells:=by rw [FD,CY,IM,EZ];rfl
        rw [E2] at H
        clear E2
        go_wp2_with fail
        rw [←HYA.Ab]
        go_roundg (Y.n - (k+1))
        case rel=>exact ⟨k+1,A2,c2,L++[(NR.mk ⟨NA,ts.length,nc,ts⟩ f.ag)],rfl,by omega,by go_num,by show _=_;rw [BR,K9.Ab,kR HYk.Ab,←HTE.Ab];rfl,by show _=_;rw [BQ,HLL.Ab];rfl,H⟩
        case measure=>rw [Cg.Ab];omega
       ·have hkn:k=Y.n:=by omega
        subst hkn
        have HLG:Hid (L.map NR.Ac=QI x.ct.sc.Ac X.Ac (cons Y.l)):=by show _=_;rw [K9.Ab,DY (by rw [AL,HYO.len];exact BZ _)]
        replace H:=Aa (HO.join H.Ab)
        (try simp only [LS] at H)
        clear K9 HO
        go_wp2_with (first|((with_reducible refine OP 98 ?_);(refine Cx Bh (H.blk 6 rfl) ?_))|((with_reducible refine OS 4 ?_);(refine Ec Bh H 1 rfl ((Io.mk 0 ⟨A,Y.n,c',L⟩ ⟨none,0,0,[]⟩).cs) (CL _) ?_;clear H;intro wq H;(try simp only [LS] at H))))
        (try simp only [Act.put,LP])
        refine Ce (Aq rfl Bh rfl (H.blk 1 rfl) rfl) rfl ?_
        rw [HRE.Ab]
        exact ⟨Io.mk 0 ⟨A,Y.n,c',L⟩ ⟨none,0,0,[]⟩,rfl,H.to,Cm (fun g=>aG.mk 0 g []) HLG.Ab,fun wz kz=>⟨uR (H.get 7 rfl) (H.get 8 rfl) (H.new 7 rfl) (H.new 8 rfl) wS kz (by omega),Row.Ou wz⟩⟩
  ·have HRE:Hid (Mj x.Ac c.data=⟨K,[],[]⟩):=by
    show _=_
    unfold Mj
    rw [show x.Ac.cat=x.ct.Ac from rfl,show x.ct.Ac.sc=x.ct.sc.Ac from rfl,←nM.Ab]
    simp only
    rw [Ak hK]
   have dk:(K !=0)=true:=by simpa using hK
   clear hK nM hX
   go_wp2_with fail
   refine (CF K _).mono ?_;rintro e wf ⟨rfl,hbf⟩
   replace H:=Aa (H.Au hbf)
   clear hbf
   go_wp2_with ((with_reducible refine OS 4 ?_);(refine Ec Bh H 1 rfl ((Io.err (K)).cs) (CL _) ?_;clear H;intro wq H;(try simp only [LS] at H)))
   (try simp only [Act.put,LP])
   refine Ce (Aq rfl Bh rfl (H.blk 1 rfl) rfl) rfl ?_
   rw [HRE.Ab]
   exact pI H.to
section
variable {T : Nat → Prop} {w w0 w1 w2 : World} {P : World → Prop}
def TN (T:Nat→Prop) (w w0:World) (g:Nat):Prop:=T g∨(w.heap.size≤g∧g<w0.heap.size)
theorem ET.wide (h:ET T w P) (k:Fr T w w0):ET (TN T w w0) w0 P:=fun w2 k2=>h w2 (k.trans k2 fun g hg=>hg.elim .inl fun h=>.inr h.1)
theorem ET.narrow (h:ET (TN T w w0) w1 P) (k:Fr (TN T w w0) w1 w2):ET T w2 P:=fun w3 k3=>h w3 (k.trans (k3.mono fun g hg=>.inl hg) fun g hg=>.inl hg)
end
section
variable {P : Program} {w : World}
theorem YT {ops:Array Oper} {o:Oper} {a:Act} {K:Act→World→Prop} {Q:Exit→Act→World→Prop} {X:Prop} (hgd:o.guard=none) {t:TypeId} (x:Operand) {i:Nat} (ho:o.op=.build t #[(i,x)])
 {vx v:Value} (hx:a.eval x=vx) (hr:∀ w,(Instr.build t #[(i,vx)]).run P w=.ok v w)
 (h:K (a.put o.dst v) w):if Region.wanted o (yielded ops a.tmps)=true then Oper.wp P o a w K Q else X:=by
 have hw:Region.wanted o (yielded ops a.tmps)=true:=by simp [Region.wanted,hgd]
 rw [Ak hw]
 unfold Oper.wp execOp
 simp only [ho,PI,DI,EF,hx,IP,hr,JK,JJ]
 exact h
end
theorem O0 (a b:Int) (w:World):(Instr.buildSlice 47 2 #[(0,.int .i64 a),(1,.int .i64 b)]).run prog w=.ok (.slice (some ⟨w.heap.size,0,none⟩) 2 2) (w.alloc (.cells #[.int .i64 a,.int .i64 b] 3)):=by kernel_rfl
theorem YS {w:World} {ops:Array Oper} {o:Oper} {a:Act} {K:Act→World→Prop} {Q:Exit→Act→World→Prop} {X:Prop} (hgd:o.guard=none) (x y:Operand) (ho:o.op=.buildSlice 47 2 #[(0,x),(1,y)])
 (u v:Int) (hx:a.eval x=.int .i64 u) (hy:a.eval y=.int .i64 v)
 (h:K (a.put o.dst (.slice (some ⟨w.heap.size,0,none⟩) 2 2)) (w.alloc (.cells #[.int .i64 u,.int .i64 v] 3))):if Region.wanted o (yielded ops a.tmps)=true then Oper.wp prog o a w K Q else X:=by
 have hw:Region.wanted o (yielded ops a.tmps)=true:=by simp [Region.wanted,hgd]
 rw [Ak hw]
 unfold Oper.wp execOp
 simp only [ho,PI,DI,EF,hx,hy,IP,O0,JK,JJ]
 exact h
theorem zS {w:World} {g:Nat} {t:TypeId} {a b:Int} (h:Br w g t #[.int .i64 a,.int .i64 b]) (ha:AP a) (hb:AP b):(Row.mk (some ⟨g,0,none⟩) 2 2 [a,b]:Row Int).rd w:=
 ⟨AQ h rfl,fun z hz=>by rcases En.1 hz with rfl|hz<;>first|exact ha|(rw [Dt] at hz;subst hz;exact hb),by show (2:Nat)≤_;omega⟩
def Ad2 (T:Nat→Prop) (B:Nat) (o:MC × aG) (w:World) (e:Ending) (w':World):Prop:=
 ∃ (y:Py) (a:Io),e=.returned (.agg a.cs)∧Fr (One B) w w'∧Br w' B 86 y.ms∧y.Ac=o.1∧ET T w' (fun w=>y.rd w)∧a.Ac=o.2∧ET T w' fun w=>a.rd w
theorem Kr (T:Nat→Prop) (B:Nat) (x:Py) (c:NS) (w:World) (hb:Br w B 86 x.ms) (hT:∀ g,T g→g<w.heap.size) (wP:T B) (hx:ET T w fun w=>x.rd w) (hc:c.ok) (hi:MInv x.Ac):Calls prog 14 #[.pointer (some ⟨B,0,none⟩),.agg c.cs] w (Ad2 T B (Eu x.Ac c) w):=by
 have HX:=Aa hx
 have Jg:=Aa (fun w' (k:Fr (One B) w w')=>hx.fr (k.mono fun g (hg:g=B)=>hg ▸ wP))
 have HXR:=Aa (fun w' (k:Fr (One B) w w')=>(hx w' (k.mono fun g (hg:g=B)=>hg ▸ wP)).rows)
 have hx0:=hx.now
 have HXI:=Aa hx0.ct.ints.1
 have wS:=Aa hT
 have HI:=Aa hi
 have HC:=Aa hc
 have hrn:x.rows.n≤4000:=by have h1:=hi.len;have h2:=hx0.rows.len;have h3:x.Ac.rows.length=x.rows.l.length:=AL _;omega
 have HFA:=Aa (fun w' (hb:Br w' B 86 x.ms) (hr:x.rows.ok w')=>QJ B x w' hb hr (by omega) HI.fit)
 have H:=Aa (((SL.blk1 w hb).alloc c.cs 41).alloc #[.int .i64 0,.slice none 0 0,.slice none 0 0] 49)
 (try simp only [LS] at H)
 have HYN:Hid (w.heap.size≤w.heap.size+1∧w.heap.size+1<(World.alloc (World.alloc w (.cells c.cs 41)) (.cells #[.int .i64 0,.slice none 0 0,.slice none 0 0] 49)).heap.size):=⟨by omega,by simp⟩
 clear hb hT hx hc hi hx0
 obtain ⟨kind,data⟩:=c
 go_enter func14,ntmps14
 go_upto_region 1 with fail
 generalize hyy:w.heap.size+1=y at H HYN ⊢
 clear hyy
 generalize w.heap.size=q at H ⊢
 generalize World.alloc (World.alloc _ _) _=w0 at H HYN ⊢
 have HTN:Hid (∀ g,TN T w w0 g→g<w0.heap.size):=fun g hg=>hg.elim (fun h=>Kk (wS g h) H.size) (fun h=>h.2)
 have I8:Hid (ET (TN T w w0) w0 fun w=>x.rd w):=HX.wide (H.fr.mono fun g (hg:g=B)=>hg ▸ wP)
 have c10:w0.cell? ⟨B,10,none⟩=some (.bool x.has):=(H.blk 0 rfl).cell 10
 have c11:w0.cell? ⟨B,11,none⟩=some (.bool x.closed):=(H.blk 0 rfl).cell 11
 have c12:w0.cell? ⟨B,12,none⟩=some (.bool true):=(H.blk 0 rfl).cell 12
 have k0:w0.cell? ⟨q,0,none⟩=some (.int .i64 kind):=(H.blk 1 rfl).cell 0
 have k1:w0.cell? ⟨q,1,none⟩=some (.string ⟨data.toArray⟩):=(H.blk 1 rfl).cell 1
 cases hcl:x.closed with
 |true=>
  have HO:Hid (Eu x.Ac ⟨kind,data⟩=(x.Ac,⟨17,[],[]⟩)):=by show _=_;unfold Eu;simp [show x.Ac.closed=true from hcl]
  rw [hcl] at c11
  go_wp2_with fail
  clear c10 c11 c12 k0 k1
  refine (CF 17 _).mono ?_;rintro e wf ⟨rfl,hbf⟩
  replace H:=Aa (H.Au hbf)
  clear hbf
  go_wp2_with ((with_reducible refine OS 4 ?_);refine AA rfl Bh (.tmp 4) (.tmp 21) rfl _ rfl (H.blk 2 rfl) rfl ((Io.err (17)).cs) rfl rfl (CL _) ?_;intro wq bq Ay;replace H:=Aa (H.AY 2 rfl Ay bq);(try simp only [LS] at H);have HG:=Aa Ay;clear Ay bq)
  (try simp only [Act.put,LP])
  refine Ce (Aq rfl Bh rfl (H.blk 2 rfl) rfl) rfl ?_
  rw [HO.Ab]
  exact ⟨x,Io.err 17,rfl,H.fr,H.blk 0 rfl,rfl,Jg _ H.fr,rfl,fun wz _=>CQ _ wz⟩
 |false=>
 have ZV:Hid (x.Ac.closed=false):=hcl
 rw [hcl] at c11
 by_cases hk:kind<1∨7<kind
 ·have HO:Hid (Eu x.Ac ⟨kind,data⟩=(x.Ac,⟨2,[],[]⟩)):=by show _=_;unfold Eu;simp [ZV.Ab,hk]
  by_cases hk1:kind<1
  ·have d1:decide (kind<1)=true:=by simpa using hk1
   clear hk hk1
   go_wp2_with fail
   clear c10 c11 c12 k0 k1 d1
   refine (CF 2 _).mono ?_;rintro e wf ⟨rfl,hbf⟩
   replace H:=Aa (H.Au hbf)
   clear hbf
   go_wp2_with ((with_reducible refine OS 4 ?_);refine AA rfl Bh (.tmp 4) (.tmp 31) rfl _ rfl (H.blk 2 rfl) rfl ((Io.err (2)).cs) rfl rfl (CL _) ?_;intro wq bq Ay;replace H:=Aa (H.AY 2 rfl Ay bq);(try simp only [LS] at H);have HG:=Aa Ay;clear Ay bq)
   (try simp only [Act.put,LP])
   refine Ce (Aq rfl Bh rfl (H.blk 2 rfl) rfl) rfl ?_
   rw [HO.Ab]
   exact ⟨x,Io.err 2,rfl,H.fr,H.blk 0 rfl,rfl,Jg _ H.fr,rfl,fun wz _=>CQ _ wz⟩
  ·have d1:decide (kind<1)=false:=by simpa using hk1
   have d2:decide (7<kind)=true:=by
    have h:7<kind:=by omega
    simpa using h
   clear hk hk1
   go_wp2_with fail
   clear c10 c11 c12 k0 k1 d1 d2
   refine (CF 2 _).mono ?_;rintro e wf ⟨rfl,hbf⟩
   replace H:=Aa (H.Au hbf)
   clear hbf
   go_wp2_with ((with_reducible refine OS 4 ?_);refine AA rfl Bh (.tmp 4) (.tmp 31) rfl _ rfl (H.blk 2 rfl) rfl ((Io.err (2)).cs) rfl rfl (CL _) ?_;intro wq bq Ay;replace H:=Aa (H.AY 2 rfl Ay bq);(try simp only [LS] at H);have HG:=Aa Ay;clear Ay bq)
   (try simp only [Act.put,LP])
   refine Ce (Aq rfl Bh rfl (H.blk 2 rfl) rfl) rfl ?_
   rw [HO.Ab]
   exact ⟨x,Io.err 2,rfl,H.fr,H.blk 0 rfl,rfl,Jg _ H.fr,rfl,fun wz _=>CQ _ wz⟩
 ·have hk7:kind=1∨kind=2∨kind=3∨kind=4∨kind=5∨kind=6∨kind=7:=by omega
  clear hk
  rcases hk7 with rfl|rfl|rfl|rfl|rfl|rfl|rfl
  ·have HO:Hid (Eu x.Ac ⟨1,data⟩=((Ij x.Ac data).1,⟨(Ij x.Ac data).2,[],[]⟩)):=by show _=_;unfold Eu;simp [ZV.Ab]
   go_wp2_with ((with_reducible refine OP 37 ?_);(refine Cx LU (H.blk 1 rfl) ?_))
   refine (dV (TN T w w0) B x ⟨1,data⟩ w0 (H.blk 0 rfl) HTN (.inl wP) I8 HC.data).mono ?_;rintro e w1 ⟨y',rfl,hfr,hbl,wN,hys⟩
   replace H:=Aa (H.AY 0 rfl hfr.grown hbl);(try simp only [LS] at H)
   have HYC:=Aa wN
   have HYS:=Aa hys
   clear hfr hbl wN hys
   go_wp2_with ((with_reducible refine OS 4 ?_);refine AA rfl Bh (.tmp 4) (.tmp 38) rfl _ rfl (H.blk 2 rfl) rfl ((Io.err (Ij x.Ac data).2).cs) rfl rfl (CL _) ?_;intro wq bq Ay;replace H:=Aa (H.AY 2 rfl Ay bq);(try simp only [LS] at H);have HG:=Aa Ay;clear Ay bq)
   (try simp only [Act.put,LP])
   refine Ce (Aq rfl Bh rfl (H.blk 2 rfl) rfl) rfl ?_
   rw [HO.Ab]
   exact ⟨y',Io.err (Ij x.Ac data).2,rfl,H.fr,H.blk 0 rfl,HYC.Ab,HYS.narrow ((Fr.Mg HG.Ab).mono fun g (hg:some _=some g)=>by injection hg with hg;subst hg;exact .inr (HYN.Ab)),rfl,fun wz _=>CQ _ wz⟩
  ·cases hh:x.has with
   |false=>
    have HO:Hid (Eu x.Ac ⟨2,data⟩=(x.Ac,⟨10,[],[]⟩)):=by show _=_;unfold Eu;simp [ZV.Ab,show x.Ac.has=false from hh]
    rw [hh] at c10
    go_wp2_with fail
    clear c10 c11 c12 k0 k1
    refine (CF 10 _).mono ?_;rintro e wf ⟨rfl,hbf⟩
    replace H:=Aa (H.Au hbf)
    clear hbf
    go_wp2_with ((with_reducible refine OS 4 ?_);refine AA rfl Bh (.tmp 4) (.tmp 73) rfl _ rfl (H.blk 2 rfl) rfl ((Io.err (10)).cs) rfl rfl (CL _) ?_;intro wq bq Ay;replace H:=Aa (H.AY 2 rfl Ay bq);(try simp only [LS] at H);have HG:=Aa Ay;clear Ay bq)
    (try simp only [Act.put,LP])
    refine Ce (Aq rfl Bh rfl (H.blk 2 rfl) rfl) rfl ?_
    rw [HO.Ab]
    exact ⟨x,Io.err 10,rfl,H.fr,H.blk 0 rfl,rfl,Jg _ H.fr,rfl,fun wz _=>CQ _ wz⟩
   |true=>
    have gV:Hid (x.has=true):=hh
    have X9:Hid (x.Ac.has=true):=hh
    rw [hh] at c10
    clear hh
    have HO:Hid (Eu x.Ac ⟨2,data⟩=((Fv x.Ac data).1,⟨(Fv x.Ac data).2,[],[]⟩)):=by show _=_;unfold Eu;simp [ZV.Ab,X9.Ab]
    go_wp2_with ((with_reducible refine OP 80 ?_);(refine Cx LU (H.blk 1 rfl) ?_))
    refine (Yh (TN T w w0) B x ⟨2,data⟩ w0 (H.blk 0 rfl) HTN (.inl wP) I8 HC.data HI gV.Ab).mono ?_;rintro e w1 ⟨y',rfl,hfr,hbl,wN,hys⟩
    replace H:=Aa (H.AY 0 rfl hfr.grown hbl);(try simp only [LS] at H)
    have HYC:=Aa wN
    have HYS:=Aa hys
    clear hfr hbl wN hys
    go_wp2_with ((with_reducible refine OS 4 ?_);refine AA rfl Bh (.tmp 4) (.tmp 81) rfl _ rfl (H.blk 2 rfl) rfl ((Io.err (Fv x.Ac data).2).cs) rfl rfl (CL _) ?_;intro wq bq Ay;replace H:=Aa (H.AY 2 rfl Ay bq);(try simp only [LS] at H);have HG:=Aa Ay;clear Ay bq)
    (try simp only [Act.put,LP])
    refine Ce (Aq rfl Bh rfl (H.blk 2 rfl) rfl) rfl ?_
    rw [HO.Ab]
    exact ⟨y',Io.err (Fv x.Ac data).2,rfl,H.fr,H.blk 0 rfl,HYC.Ab,HYS.narrow ((Fr.Mg HG.Ab).mono fun g (hg:some _=some g)=>by injection hg with hg;subst hg;exact .inr (HYN.Ab)),rfl,fun wz _=>CQ _ wz⟩
  ·cases hh:x.has with
   |false=>
    have HO:Hid (Eu x.Ac ⟨3,data⟩=(x.Ac,⟨10,[],[]⟩)):=by show _=_;unfold Eu;simp [ZV.Ab,show x.Ac.has=false from hh]
    rw [hh] at c10
    go_wp2_with fail
    clear c10 c11 c12 k0 k1
    refine (CF 10 _).mono ?_;rintro e wf ⟨rfl,hbf⟩
    replace H:=Aa (H.Au hbf)
    clear hbf
    go_wp2_with ((with_reducible refine OS 4 ?_);refine AA rfl Bh (.tmp 4) (.tmp 73) rfl _ rfl (H.blk 2 rfl) rfl ((Io.err (10)).cs) rfl rfl (CL _) ?_;intro wq bq Ay;replace H:=Aa (H.AY 2 rfl Ay bq);(try simp only [LS] at H);have HG:=Aa Ay;clear Ay bq)
    (try simp only [Act.put,LP])
    refine Ce (Aq rfl Bh rfl (H.blk 2 rfl) rfl) rfl ?_
    rw [HO.Ab]
    exact ⟨x,Io.err 10,rfl,H.fr,H.blk 0 rfl,rfl,Jg _ H.fr,rfl,fun wz _=>CQ _ wz⟩
   |true=>
    have gV:Hid (x.has=true):=hh
    have X9:Hid (x.Ac.has=true):=hh
    rw [hh] at c10
    clear hh
    have HO:Hid (Eu x.Ac ⟨3,data⟩=((Fv x.Ac data).1,⟨(Fv x.Ac data).2,[],[]⟩)):=by show _=_;unfold Eu;simp [ZV.Ab,X9.Ab]
    go_wp2_with ((with_reducible refine OP 80 ?_);(refine Cx LU (H.blk 1 rfl) ?_))
    refine (Yh (TN T w w0) B x ⟨3,data⟩ w0 (H.blk 0 rfl) HTN (.inl wP) I8 HC.data HI gV.Ab).mono ?_;rintro e w1 ⟨y',rfl,hfr,hbl,wN,hys⟩
    replace H:=Aa (H.AY 0 rfl hfr.grown hbl);(try simp only [LS] at H)
    have HYC:=Aa wN
    have HYS:=Aa hys
    clear hfr hbl wN hys
    go_wp2_with ((with_reducible refine OS 4 ?_);refine AA rfl Bh (.tmp 4) (.tmp 81) rfl _ rfl (H.blk 2 rfl) rfl ((Io.err (Fv x.Ac data).2).cs) rfl rfl (CL _) ?_;intro wq bq Ay;replace H:=Aa (H.AY 2 rfl Ay bq);(try simp only [LS] at H);have HG:=Aa Ay;clear Ay bq)
    (try simp only [Act.put,LP])
    refine Ce (Aq rfl Bh rfl (H.blk 2 rfl) rfl) rfl ?_
    rw [HO.Ab]
    exact ⟨y',Io.err (Fv x.Ac data).2,rfl,H.fr,H.blk 0 rfl,HYC.Ab,HYS.narrow ((Fr.Mg HG.Ab).mono fun g (hg:some _=some g)=>by injection hg with hg;subst hg;exact .inr (HYN.Ab)),rfl,fun wz _=>CQ _ wz⟩
  ·cases data with
   |cons a l=>
    have HO:Hid (Eu x.Ac ⟨4,a::l⟩=(x.Ac,⟨2,[],[]⟩)):=by show _=_;unfold Eu;simp [ZV.Ab]
    go_wp2_with fail
    clear c10 c11 c12 k0 k1
    refine (CF 2 _).mono ?_;rintro e wf ⟨rfl,hbf⟩
    replace H:=Aa (H.Au hbf)
    clear hbf
    go_wp2_with ((with_reducible refine OS 4 ?_);refine AA rfl Bh (.tmp 4) (.tmp 58) rfl _ rfl (H.blk 2 rfl) rfl ((Io.err (2)).cs) rfl rfl (CL _) ?_;intro wq bq Ay;replace H:=Aa (H.AY 2 rfl Ay bq);(try simp only [LS] at H);have HG:=Aa Ay;clear Ay bq)
    (try simp only [Act.put,LP])
    refine Ce (Aq rfl Bh rfl (H.blk 2 rfl) rfl) rfl ?_
    rw [HO.Ab]
    exact ⟨x,Io.err 2,rfl,H.fr,H.blk 0 rfl,rfl,Jg _ H.fr,rfl,fun wz _=>CQ _ wz⟩
   |nil=>
    cases hh:x.has with
    |false=>
     have HO:Hid (Eu x.Ac ⟨4,[]⟩=(x.Ac,⟨10,[],[]⟩)):=by show _=_;unfold Eu;simp [ZV.Ab,show x.Ac.has=false from hh]
     rw [hh] at c10
     go_wp2_with fail
     clear c10 c11 c12 k0 k1
     refine (CF 10 _).mono ?_;rintro e wf ⟨rfl,hbf⟩
     replace H:=Aa (H.Au hbf)
     clear hbf
     go_wp2_with ((with_reducible refine OS 4 ?_);refine AA rfl Bh (.tmp 4) (.tmp 73) rfl _ rfl (H.blk 2 rfl) rfl ((Io.err (10)).cs) rfl rfl (CL _) ?_;intro wq bq Ay;replace H:=Aa (H.AY 2 rfl Ay bq);(try simp only [LS] at H);have HG:=Aa Ay;clear Ay bq)
     (try simp only [Act.put,LP])
     refine Ce (Aq rfl Bh rfl (H.blk 2 rfl) rfl) rfl ?_
     rw [HO.Ab]
     exact ⟨x,Io.err 10,rfl,H.fr,H.blk 0 rfl,rfl,Jg _ H.fr,rfl,fun wz _=>CQ _ wz⟩
    |true=>
     have gV:Hid (x.has=true):=hh
     have X9:Hid (x.Ac.has=true):=hh
     rw [hh] at c10
     clear hh
     have HO:Hid (Eu x.Ac ⟨4,[]⟩=(x.Ac,⟨0,[],[]⟩)):=by show _=_;unfold Eu;simp [ZV.Ab,X9.Ab]
     go_wp2_with fail
     clear c10 c11 c12 k0 k1
     refine (CF 0 _).mono ?_;rintro e wf ⟨rfl,hbf⟩
     replace H:=Aa (H.Au hbf)
     clear hbf
     go_wp2_with ((with_reducible refine OS 4 ?_);refine AA rfl Bh (.tmp 4) (.tmp 99) rfl _ rfl (H.blk 2 rfl) rfl ((Io.err (0)).cs) rfl rfl (CL _) ?_;intro wq bq Ay;replace H:=Aa (H.AY 2 rfl Ay bq);(try simp only [LS] at H);have HG:=Aa Ay;clear Ay bq)
     (try simp only [Act.put,LP])
     refine Ce (Aq rfl Bh rfl (H.blk 2 rfl) rfl) rfl ?_
     rw [HO.Ab]
     exact ⟨x,Io.err 0,rfl,H.fr,H.blk 0 rfl,rfl,Jg _ H.fr,rfl,fun wz _=>CQ _ wz⟩
  ·cases hh:x.has with
   |false=>
    have HO:Hid (Eu x.Ac ⟨5,data⟩=(x.Ac,⟨10,[],[]⟩)):=by show _=_;unfold Eu;simp [ZV.Ab,show x.Ac.has=false from hh]
    rw [hh] at c10
    go_wp2_with fail
    clear c10 c11 c12 k0 k1
    refine (CF 10 _).mono ?_;rintro e wf ⟨rfl,hbf⟩
    replace H:=Aa (H.Au hbf)
    clear hbf
    go_wp2_with ((with_reducible refine OS 4 ?_);refine AA rfl Bh (.tmp 4) (.tmp 73) rfl _ rfl (H.blk 2 rfl) rfl ((Io.err (10)).cs) rfl rfl (CL _) ?_;intro wq bq Ay;replace H:=Aa (H.AY 2 rfl Ay bq);(try simp only [LS] at H);have HG:=Aa Ay;clear Ay bq)
    (try simp only [Act.put,LP])
    refine Ce (Aq rfl Bh rfl (H.blk 2 rfl) rfl) rfl ?_
    rw [HO.Ab]
    exact ⟨x,Io.err 10,rfl,H.fr,H.blk 0 rfl,rfl,Jg _ H.fr,rfl,fun wz _=>CQ _ wz⟩
   |true=>
    have gV:Hid (x.has=true):=hh
    have X9:Hid (x.Ac.has=true):=hh
    rw [hh] at c10
    clear hh
    have HO:Hid (Eu x.Ac ⟨5,data⟩=(x.Ac,Mj x.Ac data)):=by show _=_;unfold Eu;simp [ZV.Ab,X9.Ab]
    go_wp2_with ((with_reducible refine OP 85 ?_);(refine Cx LU (H.blk 1 rfl) ?_))
    refine (zM (TN T w w0) B x ⟨5,data⟩ w0 (H.blk 0 rfl) HTN I8 HC.data HI gV.Ab).mono ?_;rintro e w1 ⟨a,rfl,hb1,hac,has⟩
    replace H:=Aa (H.Au hb1)
    have HAC:=Aa hac
    have HAS:=Aa has
    clear hb1 hac has
    go_wp2_with ((with_reducible refine OS 4 ?_);refine AA rfl Bh (.tmp 4) (.tmp 86) rfl _ rfl (H.blk 2 rfl) rfl (a.cs) rfl rfl (CL a) ?_;intro wq bq Ay;replace H:=Aa (H.AY 2 rfl Ay bq);(try simp only [LS] at H);have HG:=Aa Ay;clear Ay bq)
    (try simp only [Act.put,LP])
    refine Ce (Aq rfl Bh rfl (H.blk 2 rfl) rfl) rfl ?_
    rw [HO.Ab]
    exact ⟨x,a,rfl,H.fr,H.blk 0 rfl,rfl,Jg _ H.fr,HAC.Ab,HAS.narrow ((Fr.Mg HG.Ab).mono fun g (hg:some _=some g)=>by injection hg with hg;subst hg;exact .inr (HYN.Ab))⟩
  ·cases data with
   |cons a l=>
    have HO:Hid (Eu x.Ac ⟨6,a::l⟩=(x.Ac,⟨2,[],[]⟩)):=by show _=_;unfold Eu;simp [ZV.Ab]
    go_wp2_with fail
    clear c10 c11 c12 k0 k1
    refine (CF 2 _).mono ?_;rintro e wf ⟨rfl,hbf⟩
    replace H:=Aa (H.Au hbf)
    clear hbf
    go_wp2_with ((with_reducible refine OS 4 ?_);refine AA rfl Bh (.tmp 4) (.tmp 58) rfl _ rfl (H.blk 2 rfl) rfl ((Io.err (2)).cs) rfl rfl (CL _) ?_;intro wq bq Ay;replace H:=Aa (H.AY 2 rfl Ay bq);(try simp only [LS] at H);have HG:=Aa Ay;clear Ay bq)
    (try simp only [Act.put,LP])
    refine Ce (Aq rfl Bh rfl (H.blk 2 rfl) rfl) rfl ?_
    rw [HO.Ab]
    exact ⟨x,Io.err 2,rfl,H.fr,H.blk 0 rfl,rfl,Jg _ H.fr,rfl,fun wz _=>CQ _ wz⟩
   |nil=>
    cases hh:x.has with
    |false=>
     have HO:Hid (Eu x.Ac ⟨6,[]⟩=(x.Ac,⟨10,[],[]⟩)):=by show _=_;unfold Eu;simp [ZV.Ab,show x.Ac.has=false from hh]
     rw [hh] at c10
     go_wp2_with fail
     clear c10 c11 c12 k0 k1
     refine (CF 10 _).mono ?_;rintro e wf ⟨rfl,hbf⟩
     replace H:=Aa (H.Au hbf)
     clear hbf
     go_wp2_with ((with_reducible refine OS 4 ?_);refine AA rfl Bh (.tmp 4) (.tmp 73) rfl _ rfl (H.blk 2 rfl) rfl ((Io.err (10)).cs) rfl rfl (CL _) ?_;intro wq bq Ay;replace H:=Aa (H.AY 2 rfl Ay bq);(try simp only [LS] at H);have HG:=Aa Ay;clear Ay bq)
     (try simp only [Act.put,LP])
     refine Ce (Aq rfl Bh rfl (H.blk 2 rfl) rfl) rfl ?_
     rw [HO.Ab]
     exact ⟨x,Io.err 10,rfl,H.fr,H.blk 0 rfl,rfl,Jg _ H.fr,rfl,fun wz _=>CQ _ wz⟩
    |true=>
     have gV:Hid (x.has=true):=hh
     have X9:Hid (x.Ac.has=true):=hh
     rw [hh] at c10
     clear hh
     have HO:Hid (Eu x.Ac ⟨6,[]⟩=(x.Ac,⟨0,[],[x.Ac.cat.fa,((Jm x.Ac.rows).length:Int)]⟩)):=by show _=_;unfold Eu;simp [ZV.Ab,X9.Ab]
     go_upto_region 23 with fail
     clear c10 c11 c12 k0 k1
     refine EG (S:=fun W=>W.cell? ⟨B,2,none⟩=some (.int .i64 x.ct.fa)) (by kernel_rfl) ((H.blk 0 rfl).cell 2) fun hHeld=>?_
     replace H:=Aa (H.drew)
     generalize World.drew _=w8 at *
     refine BJ NG ?_
     refine BJ KG ?_
     refine BJ NW ?_
     refine BJ KF ?_
     refine BJ Mr ?_
     refine BJ Lv ?_
     refine BD Mq fun KK Ad=>?_
     go_simp
     refine (HFA _ (H.blk 0 rfl) (HXR _ H.fr)).mono ?_;rintro e' w6 ⟨F,rfl,hF,hFo,hFn,hb6⟩
     replace H:=Aa (H.Au hb6)
     have HFC:=Aa hF
     have HFL:=Aa hFo.len
     clear hF hFo hb6
     simp only [Row.v]
     refine Ai Ad ((H.blk 0 rfl).cell 2) fun hHeld=>?_
     clear Ad KK
     refine BJ LX ?_
     refine BD Px fun KK Ad=>?_
     refine YS rfl (.tmp 93) (.tmp 96) rfl x.ct.fa F.n rfl (by go_simp) ?_
     replace H:=Aa (H.alloc #[.int .i64 x.ct.fa,.int .i64 F.n] 3);(try simp only [LS] at H)
     generalize w6.heap.size=g6 at H ⊢
     generalize World.alloc w6 _=w7 at H ⊢
     refine Ai Ad ((H.blk 0 rfl).cell 2) fun hHeld=>?_
     clear Ad KK
     refine BD Qb fun KK Ad=>?_
     refine YT rfl (.tmp 97) rfl (vx:=.slice (some ⟨g6,0,none⟩) 2 2) (v:=.agg (Io.mk 0 ⟨none,0,0,[]⟩ ⟨some ⟨g6,0,none⟩,2,2,[x.ct.fa,F.n]⟩).cs) rfl (fun w=>by kernel_rfl) ?_
     refine Ai Ad ((H.blk 0 rfl).cell 2) fun hHeld=>?_
     clear Ad KK
     refine BD Jj fun KK Ad=>?_
     refine EU rfl Bh (.tmp 4) (.tmp 98) rfl _ rfl (H.blk 2 rfl) rfl ((Io.mk 0 ⟨none,0,0,[]⟩ ⟨some ⟨g6,0,none⟩,2,2,[x.ct.fa,F.n]⟩).cs) rfl rfl (CL _) ?_
     intro wq bq Ay
     replace H:=Aa (H.AY 2 rfl Ay bq);(try simp only [LS] at H)
     clear Ay bq
     refine Ai Ad ((H.blk 0 rfl).cell 2) fun hHeld=>?_
     clear Ad KK
     refine BX ?_
     clear hHeld
     clear HFA
     go_wp2_with fail
     (try simp only [Act.put,LP])
     refine Ce (Aq rfl Bh rfl (H.blk 2 rfl) rfl) rfl ?_
     rw [HO.Ab]
     refine ⟨x,(Io.mk 0 ⟨none,0,0,[]⟩ ⟨some ⟨g6,0,none⟩,2,2,[x.ct.fa,F.n]⟩),rfl,H.fr,H.blk 0 rfl,rfl,Jg _ H.fr,?_,fun wz kz=>⟨Row.Ou wz,zS ((ET.VK (T:=T) (r:=Av g6 3 #[.int .i64 x.ct.fa,.int .i64 F.n]) ⟨H.get 3 rfl,H.RB 3 0 (by decide) rfl rfl rfl⟩ wS.Ab) wz kz) HXI (by unfold AP;omega)⟩⟩
     show aG.mk 0 [] [x.ct.fa,(F.n:Int)]=_
     rw [←HFL.Ab,←AL,HFC.Ab,gV.Ab,Ak rfl]
     rfl
  ·cases data with
   |cons a l=>
    have HO:Hid (Eu x.Ac ⟨7,a::l⟩=(x.Ac,⟨2,[],[]⟩)):=by show _=_;unfold Eu;simp [ZV.Ab]
    go_wp2_with fail
    clear c10 c11 c12 k0 k1
    refine (CF 2 _).mono ?_;rintro e wf ⟨rfl,hbf⟩
    replace H:=Aa (H.Au hbf)
    clear hbf
    go_wp2_with ((with_reducible refine OS 4 ?_);refine AA rfl Bh (.tmp 4) (.tmp 58) rfl _ rfl (H.blk 2 rfl) rfl ((Io.err (2)).cs) rfl rfl (CL _) ?_;intro wq bq Ay;replace H:=Aa (H.AY 2 rfl Ay bq);(try simp only [LS] at H);have HG:=Aa Ay;clear Ay bq)
    (try simp only [Act.put,LP])
    refine Ce (Aq rfl Bh rfl (H.blk 2 rfl) rfl) rfl ?_
    rw [HO.Ab]
    exact ⟨x,Io.err 2,rfl,H.fr,H.blk 0 rfl,rfl,Jg _ H.fr,rfl,fun wz _=>CQ _ wz⟩
   |nil=>
    have HO:Hid (Eu x.Ac ⟨7,[]⟩=(⟨x.Ac.cat,x.Ac.rows,x.Ac.has,true⟩,⟨0,[],[]⟩)):=by show _=_;unfold Eu;simp [ZV.Ab]
    have f11:=(H.blk 0 rfl).frozen 11
    go_wp2_with fail
    clear c10 c11 c12 k0 k1 f11
    replace H:=Aa (H.setCell 0 rfl 11 (.bool true));(try simp only [LS] at H)
    refine (CF 0 _).mono ?_;rintro e wf ⟨rfl,hbf⟩
    replace H:=Aa (H.Au hbf)
    clear hbf
    go_wp2_with ((with_reducible refine OS 4 ?_);refine AA rfl Bh (.tmp 4) (.tmp 66) rfl _ rfl (H.blk 2 rfl) rfl ((Io.err (0)).cs) rfl rfl (CL _) ?_;intro wq bq Ay;replace H:=Aa (H.AY 2 rfl Ay bq);(try simp only [LS] at H);have HG:=Aa Ay;clear Ay bq)
    (try simp only [Act.put,LP])
    refine Ce (Aq rfl Bh rfl (H.blk 2 rfl) rfl) rfl ?_
    rw [HO.Ab]
    exact ⟨⟨x.ct,x.rows,x.has,true⟩,Io.err 0,rfl,H.fr,H.blk 0 rfl,rfl,(Jg _ H.fr).imp (fun _ h=>⟨h.ct,h.sm,h.rows⟩),rfl,fun wz _=>CQ _ wz⟩
end Go.Proofs.YtijplolmkcdflaaGreat
namespace Go.Proofs.YtijplolmkcdflaaGreat
open Go.RowKit
section
variable {P : Program} {w : World}
end
end Go.Proofs.YtijplolmkcdflaaGreat
namespace Go.Proofs.YtijplolmkcdflaaGreat
open Tryz
open Go.RowKit
theorem KJ (k:Int) (b:List UInt8) (w:World):(Instr.build 41 #[(0,.int .i64 k),(1,.string ⟨b.toArray⟩)]).run prog w=.ok (.agg (NS.mk k b).cs) w:=by kernel_rfl
theorem mX (k:Int) (w:World):(Instr.build 41 #[(0,.int .i64 k)]).run prog w=.ok (.agg (NS.mk k []).cs) w:=by kernel_rfl
theorem xK (T:Nat→Prop) (w:World):ET T w fun w=>Py.nil.rd w:=fun w' _=>MU w'
theorem tN:Eu MC.nil ⟨5,[]⟩=(MC.nil,⟨10,[],[]⟩):=by unfold Eu;simp [MC.nil]
theorem VT {s:SC} (h:Ap s=0):Eu MC.nil ⟨1,Ie s⟩=(⟨⟨s,0,0,0,0,0,0,0⟩,[],true,false⟩,⟨0,[],[]⟩):=by
 have h1:Ff (Ie s)=(s,0):=by
  unfold Ff
  have h2:=yL h []
  rw [EZ] at h2
  rw [h2]
  simp
 unfold Eu Ij
 simp [MC.nil,h1]
theorem OV:Py.nil.Ac=MC.nil:=rfl
theorem El (w:World):Calls prog 10 #[] w fun e w'=>e=.returned (.bool true)∧Aj w w':=by
 have H:=Aa ((SL.start No w).alloc Py.nil.ms 86)
 (try simp only [LS] at H)
 go_enter func10,ntmps10
 go_wp2_with fail
 refine (VQ w).mono ?_;rintro e w1 ⟨rfl,rfl⟩
 obtain ⟨B,hB⟩:∃ B,B=w.heap.size:=⟨_,rfl⟩
 rw [←hB] at H ⊢
 clear hB
 generalize World.alloc w _=w0 at H ⊢
 go_wp2_with ((with_reducible refine OP 7 ?_);refine Fq (vx:=.int .i64 5) (v:=.agg (NS.mk 5 []).cs) rfl (.const _) rfl rfl (mX 5) ?_)
 refine (Kr (One B) B Py.nil ⟨5,[]⟩ w0 (H.blk 0 rfl) (fun g hg=>hg ▸ (H.blk 0 rfl).lt) rfl (xK _ _) ⟨by unfold AP;simp,by simp⟩ (OV ▸ MInv.nil)).mono ?_;rintro e w2 ⟨x,a,rfl,hfr,hbl,KD,hxs,hac,has⟩
 rw [OV,tN] at KD hac
 replace H:=Aa (H.AY 0 rfl hfr.grown hbl);(try simp only [LS] at H)
 have qB:=Aa KD
 have HXS:=Aa (fun w' (h:Fr (One B) w2 w')=>hxs.fr h)
 have hae:a.er=10:=Cm aG.er hac
 have HAE:=Aa hae
 clear hfr hbl KD hxs hac has hae
 go_upto_region 3 with ((with_reducible refine OS 2 ?_);(refine Fu Bh (a.cs) (CL a) ?_;replace H:=Aa (H.alloc (a.cs) 49);(try simp only [LS] at H)))
 (try simp only [Act.put,LP])
 (try simp only [LS] at H)
 have HF3:Hid (Aj w2 (World.alloc w2 (.cells a.cs 49))):=(Aj.refl w2).alloc _
 generalize w2.heap.size=z2 at H ⊢
 generalize World.alloc w2 _=w3 at H HF3 ⊢
 replace H:=Aa (((((H.alloc #[.string ⟨#[97]⟩] 9).alloc #[.string ⟨#[116]⟩,.slice (some ⟨w3.heap.size,0,none⟩) 1 1,.slice none 0 0] 75).alloc #[.string ⟨#[100]⟩,.slice (some ⟨w3.heap.size+1,0,none⟩) 1 1] 73).alloc #[.string ⟨#[109]⟩] 9).alloc #[.slice (some ⟨w3.heap.size+1+1,0,none⟩) 1 1,.slice (some ⟨w3.heap.size+1+1+1,0,none⟩) 1 1] 25);(try simp only [LS] at H)
 have HF4:Hid (Aj w3 (World.alloc (World.alloc (World.alloc (World.alloc (World.alloc w3 (.cells #[.string ⟨#[97]⟩] 9)) (.cells #[.string ⟨#[116]⟩,.slice (some ⟨w3.heap.size,0,none⟩) 1 1,.slice none 0 0] 75)) (.cells #[.string ⟨#[100]⟩,.slice (some ⟨w3.heap.size+1,0,none⟩) 1 1] 73)) (.cells #[.string ⟨#[109]⟩] 9)) (.cells #[.slice (some ⟨w3.heap.size+1+1,0,none⟩) 1 1,.slice (some ⟨w3.heap.size+1+1+1,0,none⟩) 1 1] 25))):=(((((Aj.refl w3).alloc _).alloc _).alloc _).alloc _).alloc _
 go_upto_region 4 with fail
 generalize w3.heap.size+1+1+1+1=y4 at H HF4 ⊢
 generalize w3.heap.size+1+1+1=y3 at H HF4 ⊢
 generalize w3.heap.size+1+1=y2 at H HF4 ⊢
 generalize w3.heap.size+1=y1 at H HF4 ⊢
 generalize w3.heap.size=y0 at H HF4 ⊢
 generalize World.alloc (World.alloc (World.alloc (World.alloc (World.alloc w3 _) _) _) _) _=w4 at H HF4 ⊢
 have hr1:=Ac0 H.Ab 2 3 4 5 rfl rfl rfl rfl
 obtain ⟨D,hD⟩:∃ D:Ev,D=⟨⟨some ⟨y2,0,none⟩,1,1,[⟨[100],⟨some ⟨y1,0,none⟩,1,1,[⟨[116],⟨some ⟨y0,0,none⟩,1,1,[[97]]⟩,⟨none,0,0,[]⟩⟩]⟩⟩]⟩,⟨some ⟨y3,0,none⟩,1,1,[[109]]⟩⟩:=⟨_,rfl⟩
 rw [←hD] at hr1
 have uP:D.Ac=exSC:=by rw [hD];rfl
 have hcs:D.cs=#[.slice (some ⟨y2,0,none⟩) 1 1,.slice (some ⟨y3,0,none⟩) 1 1]:=by rw [hD]
 rw [←hcs] at H
 have HPU:=Aa (TH D w4 hr1 (by rw [uP];exact F4))
 rw [uP] at HPU
 have hpl:=Vq (d:=exSC) F4
 obtain ⟨bs,hbs⟩:∃ bs,bs=Ie exSC:=⟨_,rfl⟩
 rw [←hbs] at HPU hpl
 have HBS:=Aa hbs
 clear hr1 hD uP hcs hbs
 go_wp2_with ((with_reducible refine OP 17 ?_);(refine Cx BL (H.blk 6 rfl) ?_))
 refine HPU.mono ?_;rintro e w5 ⟨rfl,hb5⟩
 replace H:=Aa (H.Au hb5)
 have HF5:=Aa hb5
 clear hb5 HPU
 go_wp2_with ((with_reducible refine OP 19 ?_);refine EA rfl (.const _) (.tmp 18) rfl (vx:=.int .i64 1) (vy:=.string ⟨bs.toArray⟩) (v:=.agg (NS.mk 1 bs).cs) rfl rfl (KJ 1 bs) ?_)
 refine (Kr (One B) B x ⟨1,bs⟩ w5 (H.blk 0 rfl) (fun g hg=>hg ▸ (H.blk 0 rfl).lt) rfl (HXS _ (Fr.QF ((HF3.trans HF4.Ab).trans HF5.Ab))) ⟨by unfold AP;simp,by show bs.length≤_;omega⟩ (by rw [qB.Ab];exact MInv.nil)).mono ?_;rintro e w6 ⟨x2,a2,rfl,hfr,hbl,KD,hxs,hac,has⟩
 rw [qB.Ab,HBS.Ab,VT F4] at KD hac
 replace H:=Aa (H.AY 0 rfl hfr.grown hbl);(try simp only [LS] at H)
 have hae:a2.er=0:=Cm aG.er hac
 have hxh:x2.has=true:=Cm MC.has KD
 clear hfr hbl KD hxs hac has
 go_upto_region 5 with ((with_reducible refine OS 4 ?_);(refine Fu Bh (a2.cs) (CL a2) ?_;replace H:=Aa (H.alloc (a2.cs) 49);(try simp only [LS] at H)))
 (try simp only [Act.put,LP])
 (try simp only [LS] at H)
 generalize w6.heap.size=z6 at H ⊢
 generalize World.alloc w6 _=w7 at H ⊢
 have ca:w7.cell? ⟨z2,0,none⟩=some (.int .i64 10):=by rw [←HAE.Ab];exact (H.blk 1 rfl).cell 0
 have cb:w7.cell? ⟨z6,0,none⟩=some (.int .i64 0):=by rw [←hae];exact (H.blk 7 rfl).cell 0
 have HHA:=Aa (dR B x2 w7 (H.blk 0 rfl))
 rw [hxh] at HHA
 clear hae hxh
 go_wp2_with fail
 refine HHA.mono ?_;rintro e w8 ⟨rfl,hb8⟩
 replace H:=Aa (H.Au hb8)
 clear hb8 HHA ca cb
 go_wp2_with fail
 go_ret
 exact ⟨rfl,H.to⟩
end Go.Proofs.YtijplolmkcdflaaGreat
namespace Go.Proofs.YtijplolmkcdflaaGreat
open Go.RowKit
theorem F6 {s:SC} (h:Ap s=0):MInv ⟨⟨s,0,0,0,0,0,0,0⟩,[],true,false⟩:=by
 have h2:=MInv.nil.step ⟨1,Ie s⟩
 rw [VT h] at h2
 exact h2
def EP (m:MC) (l:List RC):MC × Int:=
 if (BO m.cat (l.map (·.vs))).2≠0 then (m,(BO m.cat (l.map (·.vs))).2)
 else (⟨(BO m.cat (l.map (·.vs))).1,m.rows++l.map (Gz m.cat.sc),m.has,m.closed⟩,0)
theorem VS {m:MC} (hc:m.closed=false) (hh:m.has=true) {k:Int} (hk:k=2∨k=3) {l:List RC} (hE:BF m.cat.sc l=0) (hv:∀ r ∈ l,∀ v ∈ r.vs,AP v):
 Eu m ⟨k,FV l⟩=((EP m l).1,⟨(EP m l).2,[],[]⟩):=by
 have h1:=WJ hE hv
 have h2:Fv m (FV l)=EP m l:=by unfold Fv EP;rw [h1];simp
 unfold Eu
 rw [h2]
 rcases hk with rfl|rfl<;>simp [hc,hh]
theorem VW (m:MC) (l:List RC):(EP m l).2=(BO m.cat (l.map (·.vs))).2:=by
 unfold EP
 split
 ·rfl
 ·rename_i h;exact (Ob.1 h).symm
theorem VU (m:MC) (l:List RC):(EP m l).1.closed=m.closed∧(EP m l).1.has=m.has:=by
 unfold EP
 split<;>exact ⟨rfl,rfl⟩
theorem VV {m:MC} {l:List RC} (h:(BO m.cat (l.map (·.vs))).2=0):EP m l=(⟨(BO m.cat (l.map (·.vs))).1,m.rows++l.map (Gz m.cat.sc),m.has,m.closed⟩,0):=by
 unfold EP
 rw [Ah (by simp [h])]
theorem Ua {c:CC} (hE:Cj c=0) (hc:Pv c) {l:List (List Int)} (h:(BO c l).2=0):(BO c l).1.sc=c.sc:=by
 obtain ⟨a,b⟩:=GD hE hc l
 by_cases hg:Lx c l
 ·rw [a hg];rfl
 ·exact absurd h (b hg)
theorem zN {m:MC} (hi:MInv m) (hh:m.has=true) (l:List RC):(EP m l).1.cat.sc=m.cat.sc:=by
 unfold EP
 split
 ·rfl
 ·rename_i h;exact Ua (hi.err hh) hi.ok (Ob.1 h)
theorem dW {m:MC} (hi:MInv m) (hh:m.has=true) {L P Q:List RC} (hp:(P++Q).Perm L):
 ((EP m L).2=0↔(EP m P).2=0∧(EP (EP m P).1 Q).2=0)∧((EP m L).2=0→(EP (EP m P).1 Q).1.cat=(EP m L).1.cat∧(EP (EP m P).1 Q).1.rows.Perm (EP m L).1.rows):=by
 have hE:=hi.err hh
 have hv:(L.map (·.vs)).Perm (Q.map (·.vs)++P.map (·.vs)):=by
  rw [←BR]
  exact ((List.perm_append_comm.trans hp).symm).map _
 obtain ⟨p1,p2⟩:=RX hE hi.ok hv
 obtain ⟨t1,t2⟩:=fJ hE hi.ok (Q.map (·.vs)) (P.map (·.vs))
 rw [VW,VW,VW]
 by_cases hF:(BO m.cat (P.map (·.vs))).2=0
 ·rw [VV hF]
  simp only
  refine ⟨p1.trans t1,fun h=>?_⟩
  have h2:=p1.1 h
  have h3:=t2 h2
  have hG:=(t1.1 h2).2
  have hs:=Ua hE hi.ok hF
  rw [VV h,VV (by exact hG)]
  simp only
  refine ⟨by rw [h3,p2 h],?_⟩
  rw [hs,Dk,←BR]
  exact (hp.map _).append_left _
 ·refine ⟨⟨fun h=>absurd (t1.1 (p1.1 h)).1 hF,fun h=>absurd h.1 hF⟩,fun h=>absurd (t1.1 (p1.1 h)).1 hF⟩
theorem tO {a b:MC} (hi:MInv a) (hc:b.cat=a.cat) (hr:b.rows.Perm a.rows) (z:List UInt8):Mj b z=Mj a z:=by
 unfold Mj
 rw [hc]
 split
 ·rfl
 ·have h:=Wu (QN hi.fit) (l:=CW a.cat.sc (DR a.cat.sc z).1 a.rows) (m:=CW a.cat.sc (DR a.cat.sc z).1 b.rows) (hr.filterMap _)
  rw [h]
theorem UA (a:MC) (z:List UInt8):Eu a ⟨5,z⟩=(a,if a.closed=true then ⟨17,[],[]⟩ else if a.has=false then ⟨10,[],[]⟩ else Mj a z):=by
 unfold Eu
 split
 ·rfl
 ·split<;>simp_all
  split<;>rfl
def Ww (m:MC):List BS:=if m.has=true then Jm m.rows else []
theorem Ry {s:SC} {L q:List RC} (h:BF s L=0) (hs:q.Sublist L.reverse):BF s q=0:=
 vS h (fun r hr=>List.mem_reverse.1 (hs.subset hr)) (by have:=hs.length_le;rw [List.length_reverse] at this;exact this)
theorem sK {s:SC} {L:List RC} (hE:BF s L=0) (hv:∀ r ∈ L,∀ v ∈ r.vs,AP v) (j:Nat):
 ∃ (M A P Q:MC) (e f g:Int),Eu MC.nil ⟨1,Ie s⟩=(M,⟨0,[],[]⟩)∧Eu M ⟨2,FV L⟩=(A,⟨e,[],[]⟩)∧Eu M ⟨3,FV (L.reverse.take j)⟩=(P,⟨f,[],[]⟩)∧Eu P ⟨2,FV (L.reverse.drop j)⟩=(Q,⟨g,[],[]⟩)∧
  (e=0↔f=0∧g=0)∧(MInv M∧MInv A∧MInv P∧MInv Q)∧(e=0→(∀ z,(Eu Q ⟨5,z⟩).2=(Eu A ⟨5,z⟩).2)∧Ww Q=Ww A):=by
 have hS:=(DK hE).1
 have hM:=F6 hS
 have hc:=VT hS
 obtain ⟨M,hMe⟩:∃ M:MC,M=⟨⟨s,0,0,0,0,0,0,0⟩,[],true,false⟩:=⟨_,rfl⟩
 have hsc:M.cat.sc=s:=by rw [hMe]
 have hcl:M.closed=false:=by rw [hMe]
 have hh:M.has=true:=by rw [hMe]
 rw [←hMe] at hM hc
 have s1:(L.reverse.take j).Sublist L.reverse:=List.take_sublist ..
 have s2:(L.reverse.drop j).Sublist L.reverse:=List.drop_sublist ..
 have e1:=VS (k:=2) hcl hh (.inl rfl) (by rw [hsc];exact hE) hv
 have e2:=VS (k:=3) hcl hh (.inr rfl) (by rw [hsc];exact Ry hE s1) (fun r hr=>hv r (List.mem_reverse.1 (s1.subset hr)))
 have st:=VU M (L.reverse.take j)
 have e3:=VS (k:=2) (m:=(EP M (L.reverse.take j)).1) (st.1.trans hcl) (st.2.trans hh) (.inl rfl) (by rw [zN hM hh,hsc];exact Ry hE s2) (fun r hr=>hv r (List.mem_reverse.1 (s2.subset hr)))
 have st2:=VU (EP M (L.reverse.take j)).1 (L.reverse.drop j)
 have st3:=VU M L
 obtain ⟨o1,o2⟩:=dW hM hh (L:=L) (P:=L.reverse.take j) (Q:=L.reverse.drop j) (by rw [Ki];exact List.reverse_perm L)
 have i1:MInv (EP M L).1:=by have:=hM.step ⟨2,FV L⟩;rw [e1] at this;exact this
 have i2:MInv (EP M (L.reverse.take j)).1:=by have:=hM.step ⟨3,FV (L.reverse.take j)⟩;rw [e2] at this;exact this
 have i3:MInv (EP (EP M (L.reverse.take j)).1 (L.reverse.drop j)).1:=by have:=i2.step ⟨2,FV (L.reverse.drop j)⟩;rw [e3] at this;exact this
 refine ⟨M,_,_,_,_,_,_,hc,e1,e2,e3,o1,⟨hM,i1,i2,i3⟩,fun h=>?_⟩
 obtain ⟨c1,c2⟩:=o2 h
 refine ⟨fun z=>?_,?_⟩
 ·rw [UA,UA]
  simp only
  rw [tO i1 c1 c2,st2.1,st2.2,st3.1,st3.2,st.1,st.2]
 ·unfold Ww
  rw [Wu i1.fit c2,st2.2,st3.2,st.2]
theorem U8 {s:SC} {q:Qr} {w:World} (hq:q.rd w) (h:Bl s q.Ac=0):q.ps.n≤16:=by
 have hql:q.ps.l.length=q.ps.n:=Row.rd.len hq
 have h3:=Em h
 have h4:=(BA h3.1).2.1
 have h5:=h3.2.1
 simp only [Qr.Ac,Cq] at h5
 omega
theorem fZ {s:SC} {q:List PC} (h:Bl s q=0):(Tf q).length≤112000:=by
 have h1:=WL h
 have h2:(Tf q).length≤7000 * q.length:=Lb fun x hx=>VF (h1 x hx)
 have h3:=Em h
 have h4:=(BA h3.1).2.1
 have h5:=h3.2.1
 omega
theorem PQ {P:Program} {ops:Array Oper} {rest:List Oper} {o:Oper} {a:Act} {w:World} {Q:Exit→Act→World→Prop} (hgd:o.guard=none) {t:TypeId} (x:Operand) (lo hi:Option Operand) (ho:o.op=.slice t x lo hi none) {v:Value}
 (hr:∀ w,(Instr.sliceAt t (a.eval x) (lo.map a.eval) (hi.map a.eval) none).run P w=.ok v w) (h:wpList P ops Q rest (a.put o.dst v) w):wpList P ops Q (o::rest) a w:=by
 refine MO hgd fun K hK=>?_
 unfold Oper.wp execOp
 simp only [ho,Option.map_none,IP,hr,JK,JJ]
 exact hK _ _ h
end Go.Proofs.YtijplolmkcdflaaGreat
namespace Go.Proofs.YtijplolmkcdflaaGreat
open Tryz
open Go.RowKit
theorem Uj (w:World) (d:Ev) (hd:d.rd w) (x:Row Rw) (hx:x.ok w) (cut:Int) (hcut:(Lit.int .i64 cut).wf=true) (q:Qr) (hq:q.rd w):
 Calls prog 3 #[.agg d.cs,x.v,.int .i64 cut,.agg q.cs] w fun e w'=>e=.returned (.bool true)∧Aj w w':=by
 have HF:=Aa (fun w' (hb:Aj w w')=>jI d w' (hd.mono hb))
 have HF2:=Aa (fun w' (hb:Aj w w')=>qZ x w' (hx.Vw.mono hb))
 have HF3:=Aa (fun w' (hb:Aj w w')=>mY q w' (Row.rd.mono hq hb))
 have HW:=Aa (fun (hf:OH d) w' (hb:Aj w w')=>bQ d x w' (hd.mono hb) (hx.Vw.mono hb) (OH.hn hf) (OH.hm hf) (OH.hd hf))
 have HW2:=Aa (fun (hf:OH d) (hf2:wK q) w' (hb:Aj w w')=>ZI d q w' (hd.mono hb) (Row.rd.mono hq hb) (OH.hn hf) (OH.hm hf) (OH.hd hf) hf2.set)
 have HRP:=Aa (fun (hE:Bl d.Ac q.Ac=0) w' (hb:Aj w w')=>bT q w' (Row.rd.mono hq hb) (WL hE) (U8 hq hE))
 have HSP:=Aa (fun (hE:Ap d.Ac=0) w' (hb:Aj w w')=>TH d w' (hd.mono hb) hE)
 have HBP:=Aa (fun (X:Row Rw) w' (hX:X.rd w') (hE:BF d.Ac (X.l.map Rw.Ac)=0)=>bR d.Ac X w' hX hE)
 have HX:=Aa (fun w' (hb:Aj w w')=>hx.Vw.mono hb)
 have hxl:Hid (x.l.length=x.n):=hx.len
 have x63:=hx.size
 have hc1:cut≤9223372036854775807:=(zV hcut).2
 have hc0:-9223372036854775808≤cut:=(zV hcut).1
 have H:=Aa (((SL.start No w).alloc d.cs 25).alloc q.cs 29)
 (try simp only [LS] at H)
 simp only [Row.v] at *
 obtain ⟨C,hC⟩:∃ C,C=d.Ac:=⟨_,rfl⟩
 obtain ⟨D,hD⟩:∃ D,D=q.Ac:=⟨_,rfl⟩
 obtain ⟨E,hE⟩:∃ E,E=BF C (x.l.map Rw.Ac):=⟨_,rfl⟩
 obtain ⟨E2,hE2⟩:∃ E,E=Bl C D:=⟨_,rfl⟩
 rw [←hC,←hD] at HRP
 rw [←hC] at HSP HBP
 have HW':Hid (∀ (hf:OH d) w' (hb:Aj w w'),Calls prog 6 #[.agg d.cs,.slice x.A x.n x.c] w' fun e w''=>e=.returned (.int .i64 E)∧Aj w' w''):=fun hf w' hb=>by rw [hE,hC];exact HW hf w' hb
 have HW2':Hid (∀ (hf:OH d) (hf2:wK q) w' (hb:Aj w w'),Calls prog 9 #[.agg d.cs,.agg q.cs] w' fun e w''=>e=.returned (.int .i64 E2)∧Aj w' w''):=fun hf hf2 w' hb=>by rw [hE2,hC,hD];exact HW2 hf hf2 w' hb
 have nO:=Aa hE
 have HE2:=Aa hE2
 clear HW HW2
 have HW:=HW'
 have HW2:=HW2'
 clear HW' HW2' hE hE2 hC hD hd hx hcut hq
 obtain ⟨XA,xn,xc,rs⟩:=x
 simp only at *
 have hcs:d.cs=#[.slice d.dm.A d.dm.n d.dm.c,.slice d.ms.A d.ms.n d.ms.c]:=rfl
 have wJ:=Aa hcs
 have hqs:q.cs=#[.slice q.ps.A q.ps.n q.ps.c]:=rfl
 have HQS:=Aa hqs
 clear hcs hqs
 have hfld:∀ (x y z:Value) (w:World),(Instr.field 49 (.agg #[x,y,z]) 0).run prog w=.ok x w:=fun _ _ _ _=>by kernel_rfl
 go_enter func3,ntmps3
 rw [←wJ.Ab] at *
 go_wp2_with ((with_reducible refine OP 18 ?_);(refine Cx BL (H.blk 0 rfl) ?_))
 refine (HF _ H.to).mono ?_;rintro e w1 ⟨b,rfl,NP,hb1⟩
 replace H:=Aa (H.Au hb1)
 clear hb1 HF
 cases b with
 |false=>
  clear NP
  go_wp2_with fail
  refine (El _).mono ?_;rintro e w9 ⟨rfl,MM⟩
  go_wp2
  go_ret
  exact ⟨rfl,H.to.trans MM⟩
 |true=>
 have hf:=NP rfl
 replace HW:=Aa (HW hf)
 replace HW2:=Aa (HW2 hf)
 clear NP hf
 go_wp2_with ((with_reducible refine OP 22 ?_);refine Bj (by first|rfl|go_simp) BL (.tmp 4) (by rfl) _ (by rfl) (H.blk 0 rfl) rfl ?_)
 refine (HW _ H.to).mono ?_;rintro e w1 ⟨rfl,hb1⟩
 replace H:=Aa (H.Au hb1)
 clear hb1 HW
 by_cases hE:¬ E=0
 ·have z1:(E !=0)=true:=by simpa using hE
  clear hE
  go_wp2_with fail
  refine (El _).mono ?_;rintro e w9 ⟨rfl,MM⟩
  go_wp2
  go_ret
  exact ⟨rfl,H.to.trans MM⟩
 replace hE:E=0:=Ob.1 hE
 rw [hE] at nO
 rw [hE]
 clear hE
 go_wp2_with fail
 refine (HF2 _ H.to).mono ?_;rintro e w1 ⟨b,rfl,NP,hb1⟩
 replace H:=Aa (H.Au hb1)
 clear hb1 HF2
 cases b with
 |false=>
  clear NP
  go_wp2_with fail
  refine (El _).mono ?_;rintro e w9 ⟨rfl,MM⟩
  go_wp2
  go_ret
  exact ⟨rfl,H.to.trans MM⟩
 |true=>
 clear NP
 by_cases h60:60<xn
 ·have d1:decide ((60:Int)<xn)=true:=by simp<;>omega
  go_wp2_with fail
  refine (El _).mono ?_;rintro e w9 ⟨rfl,MM⟩
  go_wp2
  go_ret
  exact ⟨rfl,H.to.trans MM⟩
 have d1:decide ((60:Int)<xn)=false:=by simp<;>omega
 have eB:xn≤60:=by omega
 clear h60
 by_cases hc2:cut<0
 ·have z1:decide (cut<0)=true:=by simpa using hc2
  clear hc2
  go_wp2_with fail
  refine (El _).mono ?_;rintro e w9 ⟨rfl,MM⟩
  go_wp2
  go_ret
  exact ⟨rfl,H.to.trans MM⟩
 have z1:decide (cut<0)=false:=by simpa using hc2
 obtain ⟨j,rfl⟩:∃ j:Nat,cut=j:=⟨cut.toNat,by omega⟩
 clear hc2 hc0
 by_cases hjn:xn<j
 ·have z2:decide ((xn:Int)<j)=true:=by simp<;>omega
  go_wp2_with fail
  refine (El _).mono ?_;rintro e w9 ⟨rfl,MM⟩
  go_wp2
  go_ret
  exact ⟨rfl,H.to.trans MM⟩
 have z2:decide ((xn:Int)<j)=false:=by simp<;>omega
 have z3:decide (xn<j)=false:=by simp<;>omega
 have hj:j≤xn:=by omega
 clear hjn hc1
 go_wp2_with ((with_reducible refine OP 48 ?_);refine Bj (by first|rfl|go_simp) FH (.tmp 7) (by rfl) _ (by rfl) (H.blk 1 rfl) rfl ?_)
 refine (HF3 _ H.to).mono ?_;rintro e w1 ⟨b,rfl,NP,hb1⟩
 replace H:=Aa (H.Au hb1)
 clear hb1 HF3
 cases b with
 |false=>
  clear NP
  go_wp2_with fail
  refine (El _).mono ?_;rintro e w9 ⟨rfl,MM⟩
  go_wp2
  go_ret
  exact ⟨rfl,H.to.trans MM⟩
 |true=>
 have hf:=NP rfl
 replace HW2:=Aa (HW2 hf)
 clear NP hf
 go_wp2_with (first|((with_reducible refine OP 53 ?_);refine Bj (by first|rfl|go_simp) BL (.tmp 4) (by rfl) _ (by rfl) (H.blk 0 rfl) rfl ?_)|((with_reducible refine OP 54 ?_);refine Bj (by first|rfl|go_simp) FH (.tmp 7) (by rfl) _ (by rfl) (H.blk 1 rfl) rfl ?_))
 refine (HW2 _ H.to).mono ?_;rintro e w1 ⟨rfl,hb1⟩
 replace H:=Aa (H.Au hb1)
 clear hb1 HW2
 by_cases hE:¬ E2=0
 ·have z4:(E2 !=0)=true:=by simpa using hE
  clear hE
  go_wp2_with fail
  refine (El _).mono ?_;rintro e w9 ⟨rfl,MM⟩
  go_wp2
  go_ret
  exact ⟨rfl,H.to.trans MM⟩
 replace hE:E2=0:=Ob.1 hE
 rw [hE] at HE2
 rw [hE]
 clear hE
 replace HRP:=Aa (HRP HE2.symm)
 go_upto_region 3 with fail
 replace H:=Aa (H.ES 38 2)
 (try simp only [LS] at H)
 go_upto_region 4 with fail
 generalize w.heap.size+1=y at *
 generalize w.heap.size=x at *
 go_wp2_with fail
 go_loopg [9,10,61] xn (fun gg s9 s10 s61 wr=>∃ (k qc:Nat) (B:Option Addr),gg=xn - k∧k≤xn∧s9=.slice B k qc∧s61=.int .i64 k∧Hid (SL No w wr [Av x 25 #[.slice d.dm.A d.dm.n d.dm.c,.slice d.ms.A d.ms.n d.ms.c],Av y 29 q.cs,Cb 38 2 (.slice B k qc) k ((rs.reverse.take k).flatMap Ar.cells)]))
 case atStart=>exact ⟨0,0,none,rfl,by omega,rfl,rfl,H⟩
 case round=>
  clear H
  obtain ⟨k,qc,B,BG,hk,rfl,rfl,H⟩:=hrel
  have Cg:=Aa BG
  clear BG
  by_cases hlt:k<xn
  ·obtain ⟨i,hi⟩:∃ i:Nat,i+k+1=xn:=⟨xn - k - 1,by omega⟩
   have hi2:(xn:Int) - 1 - k=i:=by omega
   obtain ⟨bx,ox,t,hA,hbx,htk,htok,hrg⟩:=(HX _ H.to).jK (k:=i) (by show i<xn;omega)
   simp only at hA
   subst hA
   have h5:rs.reverse[k]?=some t:=by
    rw [List.getElem?_reverse (by rw [hxl.Ab];exact hlt),hxl.Ab,show xn - 1 - k=i by omega]
    exact htk
   have HREV:Hid ((rs.reverse.take (k+1)).flatMap Ar.cells=(rs.reverse.take k).flatMap Ar.cells++t.cs.toList):=by
    show _=_
    rw [Tw,h5]
    simp [Ar.cells]
   have HRG:=Aa hrg
   have i0:(0:Int)≤i:=by omega
   have i1:(i:Int)<xn:=by omega
   clear htk htok h5 hrg
   go_wp2_with (first|((with_reducible refine OP 72 ?_);(refine Ae rfl JO (.tmp 71) rfl bx (ox+i * 2) rfl t.cs rfl HRG.Ab ?_))|((with_reducible refine OP 73 ?_);(refine Cr rfl XB (.tmp 72) rfl (t.cs) rfl rfl (by omega) ?_;replace H:=Aa (H.CJ ((Aj.refl _).alloc _) (Dc _ 38 (t.cs) _ rfl));(try simp only [LS] at H)))|((with_reducible refine OP 74 ?_);(refine BI rfl (.tmp 64) (.tmp 73) _ rfl XB 0 (Bw _) _ k _ rfl (H.row 2 rfl) _ 1 1 t.cs.toList rfl (Rd.Bf (H.row 3 rfl)) (fun u hu=>by have:=NB.1 (SF t) u (by simpa using hu);exact this) (by unfold maxLen;omega) (by omega) ?_;intro vq wq AR Ay Bb;replace H:=Aa (H.setRow 2 rfl Ay AR Bb);(try simp only [LS] at H);clear AR Ay Bb;obtain ⟨B2,q2,rfl,_⟩:=Ao (H.row 2 rfl))))
   replace H:=Aa (H.Gh [0,1,2] (by decide) (by simp));(try simp only [LS] at H)
   rw [←HREV.Ab] at H
   go_roundg (xn - (k+1))
   case rel=>exact ⟨k+1,q2,B2,rfl,by omega,rfl,by go_num,H⟩
   case measure=>rw [Cg.Ab];omega
  ·obtain rfl:k=xn:=by omega
   have hback:Hid (rs.reverse.take k=rs.reverse):=DY (by rw [List.length_reverse,hxl.Ab];exact BZ _)
   rw [hback.Ab] at H
   have hrr:(⟨XA,k,xc,rs⟩:Row Rw).rd _:=HX _ H.to
   have HV:Hid (∀ r ∈ rs.map Rw.Ac,∀ v ∈ r.vs,AP v):=fun r hr v hv=>by
    obtain ⟨r',hr',rfl⟩:=GZ.1 hr
    exact (hrr.all r' hr').vs.all v hv
   have JB:=Aa (fun w' (hb:Aj w w') (ho:w'.ownsRow 0 38 2 (.slice B k qc) k (rs.reverse.flatMap Ar.cells))=>(QD (x:=⟨B,k,qc,rs.reverse⟩) ho (fun r hr=>(HX w' hb).all r (List.mem_reverse.1 hr)) (by show k * _≤_;unfold Ar.bytes;simp only [uC];omega):Row.ok w' (⟨B,k,qc,rs.reverse⟩:Row Rw)))
   have hkq:k≤qc:=(JB _ H.to (H.row 2 rfl)).le
   have HPT1:=Aa (fun w' (hb:Aj w w') (ho:w'.ownsRow 0 38 2 (.slice B k qc) k (rs.reverse.flatMap Ar.cells))=>oL (j:=0) (k:=j) (JB w' hb ho).Vw hkq (Bw _) hj)
   have HPT2:=Aa (fun w' (hb:Aj w w') (ho:w'.ownsRow 0 38 2 (.slice B k qc) k (rs.reverse.flatMap Ar.cells))=>oL (j:=j) (k:=k) (JB w' hb ho).Vw hkq hj (BZ _))
   have HSL1:=Aa (xX ⟨B,k,qc,rs.reverse⟩ j (by show j≤qc;omega))
   have HSL2:=Aa (xY ⟨B,k,qc,rs.reverse⟩ j hj)
   have hP1:((⟨B,k,qc,rs.reverse⟩:Row Rw).part 0 j).l=rs.reverse.take j:=by show (rs.reverse.drop 0).take (j - 0)=_;rw [Y5,Nat.sub_zero]
   have hP2:((⟨B,k,qc,rs.reverse⟩:Row Rw).part j k).l=rs.reverse.drop j:=by show (rs.reverse.drop j).take (k - j)=_;rw [DY (by rw [IA,List.length_reverse,hxl.Ab];exact BZ _)]
   have hq1:((⟨B,k,qc,rs.reverse⟩:Row Rw).part 0 j).l.map Rw.Ac=(rs.map Rw.Ac).reverse.take j:=by rw [hP1,List.map_take,List.map_reverse]
   have hq2:((⟨B,k,qc,rs.reverse⟩:Row Rw).part j k).l.map Rw.Ac=(rs.map Rw.Ac).reverse.drop j:=by rw [hP2,List.map_drop,List.map_reverse]
   have hS:=(DK nO.symm).1
   have hb1:BF C ((rs.map Rw.Ac).reverse.take j)=0:=Ry nO.symm (List.take_sublist ..)
   have hb2:BF C ((rs.map Rw.Ac).reverse.drop j)=0:=Ry nO.symm (List.drop_sublist ..)
   have HR1:=Aa (fun w' (hb:Aj w w')=>HBP ⟨XA,k,xc,rs⟩ w' (HX w' hb) nO.symm)
   have HR2:=Aa (fun w' hb ho=>HBP _ w' (HPT1 w' hb ho) (by rw [hq1];exact hb1))
   have HR3:=Aa (fun w' hb ho=>HBP _ w' (HPT2 w' hb ho) (by rw [hq2];exact hb2))
   rw [hq1] at HR2
   rw [hq2] at HR3
   replace HSP:=Aa (HSP hS)
   have l1:=QQ (s:=C) nO.symm
   have l2:=QQ hb1
   have l3:=QQ hb2
   have l4:=Vq hS
   have l5:=fZ HE2.symm
   obtain ⟨M,A,P,Q,e1,f1,g1,m0,m1,m2,m3,m4,⟨iM,iA,iP,iQ⟩,m5⟩:=sK (s:=C) (L:=rs.map Rw.Ac) nO.symm HV j
   simp only at HR1
   generalize FV (rs.map Rw.Ac)=b1 at *
   generalize FV ((rs.map Rw.Ac).reverse.take j)=b2 at *
   generalize FV ((rs.map Rw.Ac).reverse.drop j)=b3 at *
   generalize Ie C=sb at *
   generalize Tf D=qb at *
   have nP:Hid ((NS.mk 1 sb).ok):=⟨by show AP (1);unfold AP;simp,by show List.length sb≤_;have:=l4;omega⟩
   have HC2:Hid ((NS.mk 2 b1).ok):=⟨by show AP (2);unfold AP;simp,by show List.length b1≤_;have:=l1;omega⟩
   have HC3:Hid ((NS.mk 3 b2).ok):=⟨by show AP (3);unfold AP;simp,by show List.length b2≤_;have:=l2;omega⟩
   have HC4:Hid ((NS.mk 2 b3).ok):=⟨by show AP (2);unfold AP;simp,by show List.length b3≤_;have:=l3;omega⟩
   have HCQ:Hid ((NS.mk 5 qb).ok):=⟨by show AP (5);unfold AP;simp,by show List.length qb≤_;have:=l5;omega⟩
   have HM0:=Aa m0
   have HM1:=Aa m1
   have HM2:=Aa m2
   have HM3:=Aa m3
   have HM4:=Aa m4
   have HM5:=Aa m5
   have HIM:=Aa iM
   have HIA:=Aa iA
   have HIP:=Aa iP
   have HIB:=Aa iQ
   clear m0 m1 m2 m3 m4 m5 iM iA iP iQ l1 l2 l3 l4 l5 hP1 hP2 hq1 hq2 hS hb1 hb2 HBP HPT1 HPT2 JB hrr hback HV nO HE2 HX hxl
   simp only at HSL1 HSL2
   generalize (Row.mk B k qc rs.reverse:Row Rw).part 0 j=R3 at *
   generalize (Row.mk B k qc rs.reverse:Row Rw).part j k=R4 at *
   obtain ⟨PA,pn,pc,pl⟩:=R3
   obtain ⟨QA,qn,qd,ql⟩:=R4
   simp only at *
   go_wp2_with ((with_reducible refine OP 76 ?_);(refine Cx FH (H.blk 1 rfl) ?_))
   refine (HRP _ H.to).mono ?_;rintro e w1 ⟨rfl,hb1⟩
   replace H:=Aa (H.Au hb1)
   clear hb1
   clear HRP
   go_upto_region 10 with (first|((with_reducible refine OP 78 ?_);refine EA (vx:=.int .i64 5) (vy:=.string ⟨(qb).toArray⟩) (v:=.agg (NS.mk 5 qb).cs) rfl (.const _) (.tmp 77) rfl rfl rfl (KJ 5 qb) ?_)|((with_reducible refine OS 11 ?_);(refine Fu LU ((NS.mk 5 qb).cs) (pF _) ?_;replace H:=Aa (H.alloc ((NS.mk 5 qb).cs) 41);(try simp only [LS] at H))))
   (try simp only [Act.put,LP])
   (try simp only [LS] at H)
   generalize w1.heap.size=zq at H ⊢
   generalize World.alloc w1 _=w2 at H ⊢
   go_wp2_with fail
   refine (VQ w2).mono ?_;rintro e w3 ⟨rfl,rfl⟩
   replace H:=Aa (H.alloc Py.nil.ms 86);(try simp only [LS] at H)
   generalize w2.heap.size=B1 at H ⊢
   generalize World.alloc w2 _=w4 at H ⊢
   go_wp2_with fail
   refine (VQ w4).mono ?_;rintro e w3 ⟨rfl,rfl⟩
   replace H:=Aa (H.alloc Py.nil.ms 86);(try simp only [LS] at H)
   generalize w4.heap.size=B2 at H ⊢
   generalize World.alloc w4 _=w5 at H ⊢
   obtain ⟨T,hT⟩:∃ T:Nat→Prop,T=fun g=>g=B1∨g=B2:=⟨_,rfl⟩
   have HT1:Hid (T B1):=by show T B1;rw [hT];exact .inl rfl
   have HT2:Hid (T B2):=by show T B2;rw [hT];exact .inr rfl
   have HTX:Hid (∀ g,T g→g=B1∨g=B2):=by show ∀ g,_;rw [hT];exact fun g h=>h
   obtain ⟨sX,hsX⟩:∃ s,s=Py.nil:=⟨_,rfl⟩
   obtain ⟨sY,hsY⟩:∃ s,s=Py.nil:=⟨_,rfl⟩
   have Jg:Hid (ET T w5 fun w=>sX.rd w):=by rw [hsX];exact fun w' _=>MU w'
   have Pq:Hid (ET T w5 fun w=>sY.rd w):=by rw [hsY];exact fun w' _=>MU w'
   have HCX:Hid (sX.Ac=MC.nil):=by rw [hsX];exact OV
   have Y0:Hid (sY.Ac=MC.nil):=by rw [hsY];exact OV
   have HIX:Hid (MInv sX.Ac):=by rw [hsX];exact OV ▸ MInv.nil
   have L6:Hid (MInv sY.Ac):=by rw [hsY];exact OV ▸ MInv.nil
   replace H:Hid (SL No w w5 [Av x 25 #[.slice d.dm.A d.dm.n d.dm.c,.slice d.ms.A d.ms.n d.ms.c],Av y 29 q.cs,Cb 38 2 (.slice B k qc) k (rs.reverse.flatMap Ar.cells),Av zq 41 (NS.mk 5 qb).cs,Av B1 86 sX.ms,Av B2 86 sY.ms]):=by rw [hsX,hsY];exact H
   clear hT hsX hsY
   go_wp2_with ((with_reducible refine OP 81 ?_);(refine Cx BL (H.blk 0 rfl) ?_))
   refine (HSP _ H.to).mono ?_;rintro e w1 ⟨rfl,hb1⟩
   replace H:=Aa (H.Au hb1)
   replace Jg:=Aa (Jg.Au hb1)
   replace Pq:=Aa (Pq.Au hb1)
   clear hb1
   clear HSP
   have HW9:Hid (Aj w1 (World.alloc w1 (.cells (NS.mk 1 sb).cs 41))):=(Aj.refl w1).alloc _
   go_upto_region 12 with (first|((with_reducible refine OP 83 ?_);refine EA (vx:=.int .i64 1) (vy:=.string ⟨(sb).toArray⟩) (v:=.agg (NS.mk 1 sb).cs) rfl (.const _) (.tmp 82) rfl rfl rfl (KJ 1 sb) ?_)|((with_reducible refine OS 14 ?_);(refine Fu LU ((NS.mk 1 sb).cs) (pF _) ?_;replace H:=Aa (H.alloc ((NS.mk 1 sb).cs) 41);(try simp only [LS] at H))))
   (try simp only [Act.put,LP])
   (try simp only [LS] at H)
   generalize w1.heap.size=zc at H ⊢
   generalize World.alloc w1 _=w2 at H HW9 ⊢
   replace Jg:=Aa (Jg.Au HW9.Ab)
   replace Pq:=Aa (Pq.Au HW9.Ab)
   clear HW9
   go_wp2_with ((with_reducible refine OP 85 ?_);(refine Cx LU (H.blk 6 rfl) ?_))
   refine (Kr T B1 sX ⟨1,sb⟩ _ (H.blk 4 rfl) (fun g hg=>(HTX g hg).elim (fun e=>e ▸ (H.blk 4 rfl).lt) (fun e=>e ▸ (H.blk 5 rfl).lt)) HT1 Jg nP HIX.Ab).mono ?_;rintro e w8 ⟨nx,a,rfl,hfr,hbl,KD,hxs,hac,has⟩
   replace H:=Aa (H.AY 4 rfl hfr.grown hbl);(try simp only [LS] at H)
   replace Pq:=Aa (Pq.fr (hfr.mono fun g (hg:g=B1)=>hg ▸ HT1.Ab))
   rw [HCX.Ab,HM0.Ab] at KD hac
   replace HIX:Hid (MInv nx.Ac):=by show MInv _;rw [KD];exact HIM.Ab
   replace HCX:=Aa KD
   replace Jg:=Aa hxs
   have hae:a.er=0:=Cm aG.er hac
   have hcs:a.cs=#[.int .i64 a.er,.slice a.gs.A a.gs.n a.gs.c,.slice a.ns.A a.ns.n a.ns.c]:=rfl
   rw [hcs,hae]
   clear hfr hbl KD hxs hac has hae hcs
   clear sX
   obtain ⟨sX,hnx⟩:∃ s,s=nx:=⟨_,rfl⟩
   subst hnx
   go_wp2_with ((with_reducible refine OP 91 ?_);refine Bj (by first|rfl|go_simp) LU (.tmp 14) (by rfl) _ (by rfl) (H.blk 6 rfl) rfl ?_)
   refine (Kr T B2 sY ⟨1,sb⟩ _ (H.blk 5 rfl) (fun g hg=>(HTX g hg).elim (fun e=>e ▸ (H.blk 4 rfl).lt) (fun e=>e ▸ (H.blk 5 rfl).lt)) HT2 Pq nP L6.Ab).mono ?_;rintro e w8 ⟨nx,a,rfl,hfr,hbl,KD,hxs,hac,has⟩
   replace H:=Aa (H.AY 5 rfl hfr.grown hbl);(try simp only [LS] at H)
   replace Jg:=Aa (Jg.fr (hfr.mono fun g (hg:g=B2)=>hg ▸ HT2.Ab))
   rw [Y0.Ab,HM0.Ab] at KD hac
   replace L6:Hid (MInv nx.Ac):=by show MInv _;rw [KD];exact HIM.Ab
   replace Y0:=Aa KD
   replace Pq:=Aa hxs
   have hae:a.er=0:=Cm aG.er hac
   have hcs:a.cs=#[.int .i64 a.er,.slice a.gs.A a.gs.n a.gs.c,.slice a.ns.A a.ns.n a.ns.c]:=rfl
   rw [hcs,hae]
   clear hfr hbl KD hxs hac has hae hcs
   clear sY
   obtain ⟨sY,hnx⟩:∃ s,s=nx:=⟨_,rfl⟩
   subst hnx
   go_upto_region 14 with fail
   go_wp2_with fail
   refine (HR1 _ H.to).mono ?_;rintro e w1 ⟨rfl,hb1⟩
   replace H:=Aa (H.Au hb1)
   replace Jg:=Aa (Jg.Au hb1)
   replace Pq:=Aa (Pq.Au hb1)
   clear hb1
   clear HR1
   go_wp2_with ((with_reducible refine OP 99 ?_);refine EA (vx:=.int .i64 2) (vy:=.string ⟨(b1).toArray⟩) (v:=.agg (NS.mk 2 b1).cs) rfl (.const _) (.tmp 98) rfl rfl rfl (KJ 2 b1) ?_)
   refine (Kr T B1 sX ⟨2,b1⟩ _ (H.blk 4 rfl) (fun g hg=>(HTX g hg).elim (fun e=>e ▸ (H.blk 4 rfl).lt) (fun e=>e ▸ (H.blk 5 rfl).lt)) HT1 Jg HC2 HIX.Ab).mono ?_;rintro e w8 ⟨nx,a,rfl,hfr,hbl,KD,hxs,hac,has⟩
   replace H:=Aa (H.AY 4 rfl hfr.grown hbl);(try simp only [LS] at H)
   replace Pq:=Aa (Pq.fr (hfr.mono fun g (hg:g=B1)=>hg ▸ HT1.Ab))
   rw [HCX.Ab,HM1.Ab] at KD hac
   replace HIX:Hid (MInv nx.Ac):=by show MInv _;rw [KD];exact HIA.Ab
   replace HCX:=Aa KD
   replace Jg:=Aa hxs
   have hae:a.er=e1:=Cm aG.er hac
   have hcs:a.cs=#[.int .i64 a.er,.slice a.gs.A a.gs.n a.gs.c,.slice a.ns.A a.ns.n a.ns.c]:=rfl
   rw [hcs,hae]
   clear hfr hbl KD hxs hac has hae hcs
   clear sX
   obtain ⟨sX,hnx⟩:∃ s,s=nx:=⟨_,rfl⟩
   subst hnx
   go_wp2_with ((with_reducible refine OP 105 ?_);refine PQ rfl (.tmp 103) none (some (.tmp 104)) rfl (fun w=>HSL1 w) ?_)
   refine (HR2 _ H.to (H.row 2 rfl)).mono ?_;rintro e w1 ⟨rfl,hb1⟩
   replace H:=Aa (H.Au hb1)
   replace Jg:=Aa (Jg.Au hb1)
   replace Pq:=Aa (Pq.Au hb1)
   clear hb1
   clear HR2 HSL1
   go_wp2_with ((with_reducible refine OP 107 ?_);refine EA (vx:=.int .i64 3) (vy:=.string ⟨(b2).toArray⟩) (v:=.agg (NS.mk 3 b2).cs) rfl (.const _) (.tmp 106) rfl rfl rfl (KJ 3 b2) ?_)
   refine (Kr T B2 sY ⟨3,b2⟩ _ (H.blk 5 rfl) (fun g hg=>(HTX g hg).elim (fun e=>e ▸ (H.blk 4 rfl).lt) (fun e=>e ▸ (H.blk 5 rfl).lt)) HT2 Pq HC3 L6.Ab).mono ?_;rintro e w8 ⟨nx,a,rfl,hfr,hbl,KD,hxs,hac,has⟩
   replace H:=Aa (H.AY 5 rfl hfr.grown hbl);(try simp only [LS] at H)
   replace Jg:=Aa (Jg.fr (hfr.mono fun g (hg:g=B2)=>hg ▸ HT2.Ab))
   rw [Y0.Ab,HM2.Ab] at KD hac
   replace L6:Hid (MInv nx.Ac):=by show MInv _;rw [KD];exact HIP.Ab
   replace Y0:=Aa KD
   replace Pq:=Aa hxs
   have hae:a.er=f1:=Cm aG.er hac
   have hcs:a.cs=#[.int .i64 a.er,.slice a.gs.A a.gs.n a.gs.c,.slice a.ns.A a.ns.n a.ns.c]:=rfl
   rw [hcs,hae]
   clear hfr hbl KD hxs hac has hae hcs
   clear sY
   obtain ⟨sY,hnx⟩:∃ s,s=nx:=⟨_,rfl⟩
   subst hnx
   go_wp2_with ((with_reducible refine OP 113 ?_);refine PQ rfl (.tmp 111) (some (.tmp 112)) none rfl (fun w=>HSL2 w) ?_)
   refine (HR3 _ H.to (H.row 2 rfl)).mono ?_;rintro e w1 ⟨rfl,hb1⟩
   replace H:=Aa (H.Au hb1)
   replace Jg:=Aa (Jg.Au hb1)
   replace Pq:=Aa (Pq.Au hb1)
   clear hb1
   clear HR3 HSL2
   go_wp2_with ((with_reducible refine OP 115 ?_);refine EA (vx:=.int .i64 2) (vy:=.string ⟨(b3).toArray⟩) (v:=.agg (NS.mk 2 b3).cs) rfl (.const _) (.tmp 114) rfl rfl rfl (KJ 2 b3) ?_)
   refine (Kr T B2 sY ⟨2,b3⟩ _ (H.blk 5 rfl) (fun g hg=>(HTX g hg).elim (fun e=>e ▸ (H.blk 4 rfl).lt) (fun e=>e ▸ (H.blk 5 rfl).lt)) HT2 Pq HC4 L6.Ab).mono ?_;rintro e w8 ⟨nx,a,rfl,hfr,hbl,KD,hxs,hac,has⟩
   replace H:=Aa (H.AY 5 rfl hfr.grown hbl);(try simp only [LS] at H)
   replace Jg:=Aa (Jg.fr (hfr.mono fun g (hg:g=B2)=>hg ▸ HT2.Ab))
   rw [Y0.Ab,HM3.Ab] at KD hac
   replace L6:Hid (MInv nx.Ac):=by show MInv _;rw [KD];exact HIB.Ab
   replace Y0:=Aa KD
   replace Pq:=Aa hxs
   have hae:a.er=g1:=Cm aG.er hac
   have hcs:a.cs=#[.int .i64 a.er,.slice a.gs.A a.gs.n a.gs.c,.slice a.ns.A a.ns.n a.ns.c]:=rfl
   rw [hcs,hae]
   clear hfr hbl KD hxs hac has hae hcs
   clear sY
   obtain ⟨sY,hnx⟩:∃ s,s=nx:=⟨_,rfl⟩
   subst hnx
   by_cases he:e1=0
   ·have hfg:=HM4.1 he
    have HLK:=Aa (HM5 he).1
    have HFF:=Aa (HM5 he).2
    obtain ⟨hf0,hg0⟩:=hfg
    subst he hf0 hg0
    clear HM0 HM1 HM2 HM3 HM4 HM5
    go_upto_region 19 with fail
    refine EG (S:=fun W=>Br W zq 41 (NS.mk 5 qb).cs) (by kernel_rfl) (H.blk 3 rfl) fun hHeld=>?_
    replace H:=Aa (H.drew)
    replace Jg:=Aa (Jg.Au (Aj.refl _).drew)
    replace Pq:=Aa (Pq.Au (Aj.refl _).drew)
    generalize World.drew _=w8 at *
    refine BJ NG ?_
    refine QZ (i:=1) (v:=.agg (NS.mk 5 qb).cs) KG (by kernel_rfl) (by kernel_rfl) (by kernel_rfl) (by exact fun _ _ _ h=>h) (Fb LU (by rfl) (.tmp 11) rfl zq 0 rfl (fun w h=>Br.part h 0 (NS.mk 5 qb).cs.toList rfl) rfl) (by assumption) ?_
    try simp only [Act.put,LP]
    refine BJ KF ?_
    refine QZ (i:=4) (v:=.agg (NS.mk 5 qb).cs) Mr (by kernel_rfl) (by kernel_rfl) (by kernel_rfl) (by exact fun _ _ _ h=>h) (Fb LU (by rfl) (.tmp 11) rfl zq 0 rfl (fun w h=>Br.part h 0 (NS.mk 5 qb).cs.toList rfl) rfl) (by assumption) ?_
    try simp only [Act.put,LP]
    refine BD NW fun KK Ad=>?_
    go_simp
    refine (Kr T B1 sX ⟨5,qb⟩ _ (H.blk 4 rfl) (fun g hg=>(HTX g hg).elim (fun e=>e ▸ (H.blk 4 rfl).lt) (fun e=>e ▸ (H.blk 5 rfl).lt)) HT1 Jg HCQ HIX.Ab).mono ?_;rintro e' w8 ⟨nX,aX,rfl,hfr,hbl,KD,hxs,hac,has⟩
    replace H:=Aa (H.AY 4 rfl hfr.grown hbl);(try simp only [LS] at H)
    have HFR:=Aa (hfr.mono fun g (hg:g=B1)=>hg ▸ HT1.Ab)
    replace Pq:=Aa (Pq.fr HFR.Ab)
    rw [HCX.Ab] at KD hac
    rw [UA] at KD
    replace HIX:Hid (MInv nX.Ac):=by show MInv _;rw [KD];exact HIA.Ab
    replace HCX:=Aa KD
    replace Jg:=Aa hxs
    have HAX:=Aa has
    have HACX:=Aa hac
    clear hfr hbl KD hxs hac has HFR
    refine Ai Ad (H.blk 3 rfl) fun hHeld=>?_
    clear Ad KK
    refine BD Lv fun KK Ad=>?_
    go_simp
    refine (Kr T B2 sY ⟨5,qb⟩ _ (H.blk 5 rfl) (fun g hg=>(HTX g hg).elim (fun e=>e ▸ (H.blk 4 rfl).lt) (fun e=>e ▸ (H.blk 5 rfl).lt)) HT2 Pq HCQ L6.Ab).mono ?_;rintro e' w8 ⟨nY,aY,rfl,hfr,hbl,KD,hxs,hac,has⟩
    replace H:=Aa (H.AY 5 rfl hfr.grown hbl);(try simp only [LS] at H)
    have HFR:=Aa (hfr.mono fun g (hg:g=B2)=>hg ▸ HT2.Ab)
    replace Jg:=Aa (Jg.fr HFR.Ab)
    replace HAX:=Aa (HAX.fr HFR.Ab)
    rw [Y0.Ab] at KD hac
    rw [UA] at KD
    replace L6:Hid (MInv nY.Ac):=by show MInv _;rw [KD];exact HIB.Ab
    replace Y0:=Aa KD
    replace Pq:=Aa hxs
    have HAY:=Aa has
    have HACY:=Aa hac
    clear hfr hbl KD hxs hac has HFR
    refine Ai Ad (H.blk 3 rfl) fun hHeld=>?_
    clear Ad KK
    refine BD Mq fun KK Ad=>?_
    go_simp
    refine (bE aX aY _ HAX.now HAY.now (by rw [HACX.Ab,HACY.Ab];exact (HLK _).symm)).mono ?_;rintro e' w8 ⟨rfl,hb1⟩
    replace H:=Aa (H.Au hb1)
    replace Jg:=Aa (Jg.Au hb1)
    replace Pq:=Aa (Pq.Au hb1)
    clear hb1 HAX HAY HACX HACY HLK
    refine Ai Ad (H.blk 3 rfl) fun hHeld=>?_
    clear Ad KK
    refine BJ LX ?_
    refine BJ Px ?_
    refine BJ Jj ?_
    refine BD Qb fun KK Ad=>?_
    go_simp
    refine (QJ B1 nX _ (H.blk 4 rfl) Jg.now.rows (by have h1:=HIX.len;have h2:=Jg.now.rows.len;have h3:nX.Ac.rows.length=nX.rows.l.length:=AL _;omega) HIX.fit).mono ?_;rintro e' w8 ⟨⟨XA,Xn,Xc,Xl⟩,rfl,hfc,hfo,hfn,hb1⟩
    replace H:=Aa (H.Au hb1)
    replace Jg:=Aa (Jg.Au hb1)
    replace Pq:=Aa (Pq.Au hb1)
    have HFX:Hid (cons Xl=Ww nX.Ac):=hfc
    have HOX:=Aa hfo
    simp only at hfn
    have hXn:Xn≤1000000:=hfn
    simp only [Row.v]
    clear hfc hfo hfn hb1
    refine Ai Ad (H.blk 3 rfl) fun hHeld=>?_
    clear Ad KK
    refine BD IL fun KK Ad=>?_
    go_simp
    refine (QJ B2 nY _ (H.blk 5 rfl) Pq.now.rows (by have h1:=L6.len;have h2:=Pq.now.rows.len;have h3:nY.Ac.rows.length=nY.rows.l.length:=AL _;omega) L6.fit).mono ?_;rintro e' w8 ⟨⟨YA,Yn,Yc,Yl⟩,rfl,hfc,hfo,hfn,hb1⟩
    replace H:=Aa (H.Au hb1)
    replace Jg:=Aa (Jg.Au hb1)
    replace Pq:=Aa (Pq.Au hb1)
    have HFY:Hid (cons Yl=Ww nY.Ac):=hfc
    have HOY:=Aa hfo
    simp only at hfn
    have hYn:Yn≤1000000:=hfn
    replace HOX:=Aa (HOX.mono hb1)
    simp only [Row.v]
    clear hfc hfo hfn hb1
    refine Ai Ad (H.blk 3 rfl) fun hHeld=>?_
    clear Ad KK
    refine BD Ji fun KK Ad=>?_
    go_simp
    have HSA:=Aa (xW ⟨XA,Xn,Xc,Xl⟩ ⟨YA,Yn,Yc,Yl⟩ _ HOX HOY hXn hYn)
    have hs1:Mc Xl Yl=true:=bD (by rw [HFX.Ab,HFY.Ab,HCX.Ab,Y0.Ab];exact HFF.symm)
    simp only [Row.v] at HSA
    rw [hs1] at HSA
    clear hs1
    refine HSA.mono ?_;rintro e' w8 ⟨rfl,hb1⟩
    replace H:=Aa (H.Au hb1)
    clear hb1 HSA
    refine Ai Ad (H.blk 3 rfl) fun hHeld=>?_
    clear Ad KK
    refine BJ KZ ?_
    refine BJ Ms ?_
    refine BD R9 fun KK Ad=>?_
    go_simp
    refine (El _).mono ?_;rintro e' w8 ⟨rfl,hb1⟩
    replace H:=Aa (H.Au hb1)
    clear hb1
    refine Ai Ad (H.blk 3 rfl) fun hHeld=>?_
    clear Ad KK
    refine BJ gq16 ?_
    refine BJ gq17 ?_
    refine BX ?_
    clear hHeld
    go_wp2_with fail
    go_ret
    exact ⟨rfl,H.to⟩
   ·have z1:(e1 !=0)=true:=by simpa using he
    have z2:(e1==0)=false:=by simpa using he
    have hnfg:f1=0→¬ g1=0:=fun h1 h2=>he (HM4.2 ⟨h1,h2⟩)
    clear HM4 HM5 HM0 HM1 HM2 HM3
    by_cases hf0:f1=0
    ·have y1:(f1==0)=true:=by simpa using hf0
     have y2:(g1==0)=false:=by simpa using hnfg hf0
     clear he hnfg hf0
     go_wp2_with fail
     refine (El _).mono ?_;rintro e w9 ⟨rfl,MM⟩
     go_wp2
     go_ret
     exact ⟨rfl,H.to.trans MM⟩
    ·have y1:(f1==0)=false:=by simpa using hf0
     clear he hnfg hf0
     go_wp2_with fail
     refine (El _).mono ?_;rintro e w9 ⟨rfl,MM⟩
     go_wp2
     go_ret
     exact ⟨rfl,H.to.trans MM⟩
end Go.Proofs.YtijplolmkcdflaaGreat
