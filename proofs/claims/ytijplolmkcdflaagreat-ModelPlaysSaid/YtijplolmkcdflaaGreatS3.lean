/- What follows was written short by a program: the walks that lead to YtijplolmkcdflaaGreatModelPlays. -/
import Derived.ChangeKeysEq
import Derived.StillTailTactics
import Derived.Test.YtijplolmkcdflaaGreatS2
set_option maxHeartbeats 4000000
set_option maxRecDepth 100000
set_option linter.unusedVariables false
set_option linter.unusedSimpArgs false
namespace Go.Proofs.YtijplolmkcdflaaGreat
open Tryz
open Go.RowKit
theorem dH (x:Row (List UInt8)) (w:World) (hx:x.rd w) (hn:x.n≤1000000):
 Calls prog 137 #[.slice x.A x.n x.c] w fun e w'=>∃ (A:Option Addr) (c:Nat),e=.returned (.slice A x.n c)∧Ai w w'∧w'.ownsRow w.heap.size 9 1 (.slice A x.n c) x.n (x.l.map tx):=by
 have hr:Rd w 1 x.A x.n (x.l.map tx):=hx.texts;have hlen:Hid (x.l.length=x.n):=hx.len;obtain ⟨A,n,c,l⟩:=x;simp only at *;clear hx;cases A with
 |none=>
  obtain rfl:n=0:=by
   rcases Vk n with h|h
   ·exact h
   ·obtain ⟨ad,e,_⟩:=hr.2 h;cases e
  have hl:l=[]:=LD hlen.Ab;subst hl;have he:=fun (c:Nat) (w:World)=>Xv (P:=prog) w 23 9 none 0 c 0 0 underlying23
  go_enter func137,ntmps137;go_wp2;go_ret;exact ⟨none,0,rfl,Ai.refl _,Tw _ _ _ _⟩
 |some ad=>
  have he:=fun (n c:Nat) (w:World)=>Xv (P:=prog) w 23 9 (some ad) n c 0 0 underlying23
  have hbs:∀ w:World,(Instr.buildSlice 23 0 #[]).run prog w=.ok (.slice (some ⟨w.heap.size,0,none⟩) 0 0) (w.alloc (.cells #[] 9)):=fun _=>by kernel_rfl
  have hown:(w.alloc (.cells #[] 9)).ownsRow w.heap.size 9 1 (.slice (some ⟨w.heap.size,0,none⟩) 0 0) 0 []:=⟨rfl,.inr ⟨w.heap.size,0,#[],rfl,Ci _,PW w _,Ci _,Bj _,rfl,rfl⟩⟩;go_enter func137,ntmps137;go_wp2_with ((with_reducible refine OP 7 ?_);refine CL rfl (.tmp 5) (.tmp 6) _ rfl FB w ((Ai.refl w).alloc _) _ 0 [] rfl hown (some ad) n c (l.map tx) rfl (hr.Av ((Ai.refl w).alloc _)) (by simp [Value.oneCell',tx]) Za4 Xl ?_;intro v2 w2 hown2 hB2 hg2 hat2);go_ret;simp only [FI,FC] at hown2;obtain ⟨A2,c2,rfl,hc2⟩:=Ao hown2;exact ⟨A2,c2,rfl,hB2,hown2⟩
theorem yN (x:Row (Int)) (w:World) (hx:x.rd w) (hn:x.n≤1000000):
 Calls prog 69 #[.slice x.A x.n x.c] w fun e w'=>∃ (A:Option Addr) (c:Nat),e=.returned (.slice A x.n c)∧Ai w w'∧w'.ownsRow w.heap.size 3 1 (.slice A x.n c) x.n (x.l.map (Value.int .i64)):=by
 have hr:Rd w 1 x.A x.n (x.l.map (Value.int .i64)):=hx.ints;have hlen:Hid (x.l.length=x.n):=hx.len;obtain ⟨A,n,c,l⟩:=x;simp only at *;clear hx;cases A with
 |none=>
  obtain rfl:n=0:=by
   rcases Vk n with h|h
   ·exact h
   ·obtain ⟨ad,e,_⟩:=hr.2 h;cases e
  have hl:l=[]:=LD hlen.Ab;subst hl;have he:=fun (c:Nat) (w:World)=>Xv (P:=prog) w 47 3 none 0 c 0 0 underlying47
  go_enter func69,ntmps69;go_wp2;go_ret;exact ⟨none,0,rfl,Ai.refl _,Tw _ _ _ _⟩
 |some ad=>
  have he:=fun (n c:Nat) (w:World)=>Xv (P:=prog) w 47 3 (some ad) n c 0 0 underlying47
  have hbs:∀ w:World,(Instr.buildSlice 47 0 #[]).run prog w=.ok (.slice (some ⟨w.heap.size,0,none⟩) 0 0) (w.alloc (.cells #[] 3)):=fun _=>by kernel_rfl
  have hown:(w.alloc (.cells #[] 3)).ownsRow w.heap.size 3 1 (.slice (some ⟨w.heap.size,0,none⟩) 0 0) 0 []:=⟨rfl,.inr ⟨w.heap.size,0,#[],rfl,Ci _,PW w _,Ci _,Bj _,rfl,rfl⟩⟩;go_enter func69,ntmps69;go_wp2_with ((with_reducible refine OP 7 ?_);refine CL rfl (.tmp 5) (.tmp 6) _ rfl LM w ((Ai.refl w).alloc _) _ 0 [] rfl hown (some ad) n c (l.map (Value.int .i64)) rfl (hr.Av ((Ai.refl w).alloc _)) (by simp [Value.oneCell',tx]) Za4 Xl ?_;intro v2 w2 hown2 hB2 hg2 hat2);go_ret;simp only [FI,FC] at hown2;obtain ⟨A2,c2,rfl,hc2⟩:=Ao hown2;exact ⟨A2,c2,rfl,hB2,hown2⟩
theorem zR {s:SC} (h:Ay s=0):∀ d ∈ s.Dx,d.nm.length≤12∧d.Bi.length≤4∧∀ t ∈ d.Bi,t.nm.length≤12∧(∀ x ∈ t.ts,x.length≤16)∧t.ts.length≤200∧t.up.length≤200:=fun d hd=>by
 have h1:=(BH h).2.2.1 d hd;obtain ⟨h2,h3,h4,h5⟩:=ER h1;refine ⟨(Ev h2).2,h4,fun t ht=>?_⟩;obtain ⟨a,ha⟩:=Tc (Gq h5) ht;obtain ⟨e1,_,e3,e4,_⟩:=EK ha;exact ⟨(Ev e1).2,fun x hx=>II e4 hx,e3,PY ha⟩
theorem Zb2 {p:Prop} (h:p:=by exact ⟨(H.blk 10 rfl).cell 0,(H.blk 10 rfl).cell 1,(H.blk 10 rfl).cell 2⟩):p:=h
theorem Zi0 {p:Prop} (h:p:=by
 refine Aj Ad Zb2 fun hHeld=>?_;clear Ad KK;refine BG Hw fun KK Ad=>?_;refine AX rfl (.tmp 31) (.tmp 41) _ rfl OV 0 (Bj _) _ j _ rfl (H.row 8 rfl) _ 1 1 _ rfl (Rd.BC (H.row 13 rfl)) Za2 Za4 Xl ?_;intro vq wq AJ Aq AQ;replace H:=Aa (H.setRow 8 rfl Aq AJ AQ);(try simp only [LS] at H);clear AJ Aq AQ;obtain ⟨B9,e9,rfl,_⟩:=Ao (H.row 8 rfl);refine Aj Ad Zb2 fun hHeld=>?_;clear Ad KK;refine BG Jc fun KK Ad=>?_;go_simp;refine Aj Ad Zb2 fun hHeld=>?_;clear Ad KK;refine BG Jw fun KK Ad=>?_;have cv:=(H.blk 7 rfl).Ap 1;have fv:=(H.blk 7 rfl).frozen 1;go_simp;replace H:=Aa (H.setCell 7 rfl 1 (.slice B9 (j+1) e9));(try simp only [LS] at H);clear cv fv;refine Aj Ad Zb2 fun hHeld=>?_;clear Ad KK;refine BZ ?_;clear hHeld;clear HB;replace H:=Aa (H.both 11 12 Xl rfl rfl (RF ⟨QS,⟨A5,n3,c5,ts⟩,⟨A6,n4,c6,ups⟩⟩) (Ma (base:=0) (show EH 0 ⟨QS,⟨A5,n3,c5,ts⟩,⟨A6,n4,c6,ups⟩⟩ _ from ⟨H.row 11 rfl,H.row 12 rfl,MV.1,MV.2.1,MV.2.2.1,MV.2.2.2.1,MV.2.2.2.2⟩)) (fun g hg=>hg));(try simp only [LS] at H);replace H:=Aa (H.both 9 11 Xl rfl rfl (BS RF (Ol++[⟨QS,⟨A5,n3,c5,ts⟩,⟨A6,n4,c6,ups⟩⟩])) (Bl (H.get 9 rfl) (H.get 11 rfl)) Cg);(try simp only [LS] at H);replace H:=Aa (H.Fg [0,1,2,3,4,5,6,7,8,9] Za1 uH);(try simp only [LS] at H);go_wp2_with fail;go_roundg (tn - (j+1));case rel=>exact ⟨j+1,Ol++[⟨QS,⟨A5,n3,c5,ts⟩,⟨A6,n4,c6,ups⟩⟩],B9,e9,rfl,Xl,by go_num,by show _=_;rw [Cn,hjc.Ab];(try rfl),by rw [EM,Df,Gt,EO];exact H,Aa (HN _ rfl)⟩
 case measure=>rw [Lt.Ab];omega
):p:=h
theorem Zk4 {p:Prop} (h:p:=by refine Aj Ad Zb2 fun hHeld=>?_;clear Ad KK;refine BG Ga fun KK Ad=>?_;refine BU rfl OV (.tmp 40) rfl (#[.string ⟨QS.toArray⟩,.slice A5 n3 c5,.slice A6 n4 c6]) rfl rfl Xl ?_;replace H:=Aa (H.Co ((Ai.refl _).alloc _) (CE _ 75 (#[.string ⟨QS.toArray⟩,.slice A5 n3 c5,.slice A6 n4 c6]) _ rfl));(try simp only [LS] at H);exact Zi0):p:=h
theorem Zs3 {p:Prop} (h:p:=by refine Aj Ad Zb2 fun hHeld=>?_;clear Ad KK;refine BG FO fun KK Ad=>?_;go_simp;exact Zk4):p:=h
theorem Zm4 {p:Prop} (h:p:=by refine Aj Ad Zb2 fun hHeld=>?_;clear Ad KK;refine BG MH fun KK Ad=>?_;go_simp;refine (HCI _ HB.Ab).mono ?_;rintro e' w7 ⟨A6,c6,rfl,Pz,KT⟩;replace H:=Aa (H.Co Pz KT);(try simp only [LS] at H);replace HB:=Aa (HB.trans Pz);clear Pz KT;exact Zs3):p:=h
theorem VY (s:Ej) (w:World) (hs:s.rd w) (hE:Ay s.Ac=0):
 Calls prog 92 #[.agg s.cs] w fun e w'=>∃ D:Ej,e=.returned (.agg D.cs)∧D.Ac=s.Ac∧Ai w w'∧UY w w' (Kj D):=by
 obtain ⟨e1,e2,e3,e4,e5,e6⟩:=BH hE;have HTI:=Aa (zR hE);have hl1:Hid (s.dm.l.length=s.dm.n):=hs.dm.len;have hl2:Hid (s.ms.l.length=s.ms.n):=hs.ms.len;have hn16:s.dm.n≤16:=by have:=hl1.Ab;have:s.Ac.Dx.length=s.dm.l.length:=CQ ..;omega
 have Y0:s.ms.n≤3:=by have:=hl2.Ab;have:s.Ac.ms.length=s.ms.l.length:=rfl;omega
 have HD:=Aa hs.dm;have HCM:=Aa (fun w' (hb:Ai w w')=>dH s.ms w' (hs.ms.mono hb) Xl);have TW:Hid (∀ m ∈ s.ms.l,m.length≤12):=fun m hm=>(Ev (e6 m hm)).2
 have H:=Aa (((SL.start No w).alloc s.cs 25).alloc #[.slice none 0 0,.slice none 0 0] 25);(try simp only [LS] at H);obtain ⟨⟨DA,n,cn,ds⟩,⟨MA,mn,mc,ms⟩⟩:=s;simp only [Ej.cs,Ej.Ac] at *;clear hs hE e1 e2 e3 e4 e5 e6;go_enter func92,ntmps92;have cs1:=(H.blk 0 rfl).Ap 1;go_wp2_with fail;refine (HCM _ H.to).mono ?_;rintro e w1 ⟨MB,md,rfl,hb1,hown⟩;replace H:=Aa (H.Co hb1 hown);(try simp only [LS] at H);clear hb1 hown HCM cs1;generalize w.heap.size+1=y at *;generalize w.heap.size=x at *;have hbd:∀ w:World,(Instr.build 25 #[(1,.slice MB mn md)]).run prog w=.ok (.agg #[.slice none 0 0,.slice MB mn md]) w:=fun _=>by kernel_rfl
 have cs0:=(H.blk 0 rfl).Ap 0;go_upto_region 2 with (first|((with_reducible refine OP 12 ?_);refine Bv (vx:=.slice MB mn md) (v:=.agg #[.slice none 0 0,.slice MB mn md]) rfl (.tmp 11) rfl rfl hbd ?_)|((with_reducible refine OS 3 ?_);(refine DX Bb (#[.slice none 0 0,.slice MB mn md]) Za2 ?_;replace H:=Aa (H.alloc (#[.slice none 0 0,.slice MB mn md]) 25);(try simp only [LS] at H))));(try simp only [Act.put,LP]);clear hbd cs0;generalize w1.heap.size=z at *;generalize World.alloc w1 _=w2 at *;replace H:=Aa (H.Dw 73 2);(try simp only [LS] at H);replace H:=Aa (H.add (Ai.refl _) (BS Vb []) (Dk _ _) GZ);(try simp only [LS] at H);replace H:=Aa (H.Fg [0,1,3,4,5,2] Za1 uH);(try simp only [LS] at H);have cs0:=(H.blk 0 rfl).Ap 0;go_wp2_with fail;clear cs0;have HN:Hid (([]:List Dm).map Dm.Ac=(ds.map Dm.Ac).take 0):=rfl;go_loopg [16] n (fun gg i wr=>∃ (k:Nat) (acc:List Dm) (A:Option Addr) (c:Nat),gg=n - k∧k≤n∧i=.int .i64 k∧Hid (acc.length=k)∧Hid (SL No w wr [Aw x 25 #[.slice DA n cn,.slice MA mn mc],Aw y 25 #[.slice none 0 0,.slice none 0 0],Aw z 25 #[.slice A k c,.slice MB mn md],Ce 73 2 (.slice A k c) k (acc.flatMap AY.cells),BS Vb acc,Ce 9 1 (.slice MB mn md) mn (ms.map tx)])∧Hid (acc.map Dm.Ac=(ds.map Dm.Ac).take k));case atStart=>exact ⟨0,[],none,0,rfl,Xl,rfl,rfl,H,HN⟩
 case round=>
  clear H HN;obtain ⟨k,acc,A,c,BR,hk,rfl,hkc,H,HN⟩:=hrel;obtain ⟨W0,hW0⟩:∃ W0,W0=wr:=⟨_,rfl⟩;subst hW0;have Cs:=Aa BR;clear BR;by_cases hlt:k<n
  ·obtain ⟨b1,o1,D,hA,hb1,Ve,Fj,hrg1⟩:=(HD.mono H.to).Sd (k:=k) hlt;simp only at hA;subst hA;have EW:(ds.map Dm.Ac)[k]?=some D.Ac:=by rw [Ed,Ve];(try rfl)
   have HDC:=Aa EW;obtain ⟨hnm,htn4,htt⟩:=HTI D.Ac (CU EW);have Yw:=Aa htt;replace Fj:=HD.all D (CU Ve);have F3:=Aa (fun w' (hb:Ai w w')=>Fj.tr.mono hb);have tl:Hid (D.tr.l.length=D.tr.n):=Fj.tr.len;have HR:=Aa hrg1;have i0:(0:Int)≤k:=by omega
   have i1:(k:Int)<n:=by omega
   clear Ve Fj hrg1 hb1 EW htt;obtain ⟨nm,⟨TA,tn,tc,Bi⟩⟩:=D;simp only [Dm.cs,Dm.Ac,CQ] at *;have htn:tn≤4:=by have:=tl.Ab;omega
   go_upto_region 5 with (first|((with_reducible refine OP 19 ?_);(refine Af rfl CX (.tmp 18) rfl b1 (o1+k * 2) rfl #[.string ⟨nm.toArray⟩,.slice TA tn tc] rfl HR.Ab ?_))|((with_reducible refine OS 5 ?_);(refine DX CX (#[.string ⟨nm.toArray⟩,.slice TA tn tc]) Za2 ?_;replace H:=Aa (H.alloc (#[.string ⟨nm.toArray⟩,.slice TA tn tc]) 73);(try simp only [LS] at H))));(try simp only [Act.put,LP]);clear HR;generalize W0.heap.size=u at *;generalize World.alloc W0 _=w5 at *;have hbd:∀ w:World,(Instr.build 73 #[(0,.string ⟨nm.toArray⟩)]).run prog w=.ok (.agg #[.string ⟨nm.toArray⟩,.slice none 0 0]) w:=fun _=>by kernel_rfl
   have cn0:=(H.blk 6 rfl).Ap 0;go_upto_region 6 with (first|((with_reducible refine OP 22 ?_);refine Bv (vx:=.string ⟨nm.toArray⟩) (v:=.agg #[.string ⟨nm.toArray⟩,.slice none 0 0]) rfl (.tmp 21) rfl rfl hbd ?_)|((with_reducible refine OS 6 ?_);(refine DX CX (#[.string ⟨nm.toArray⟩,.slice none 0 0]) Za2 ?_;replace H:=Aa (H.alloc (#[.string ⟨nm.toArray⟩,.slice none 0 0]) 73);(try simp only [LS] at H))));(try simp only [Act.put,LP]);clear hbd cn0;generalize w5.heap.size=v at *;generalize World.alloc w5 _=w6 at *;replace H:=Aa (H.Dw 75 3);(try simp only [LS] at H);replace H:=Aa (H.add (Ai.refl _) (BS RF []) (Dk _ _) GZ);(try simp only [LS] at H);have cn1:=(H.blk 6 rfl).Ap 1;go_wp2_with fail;clear cn1;have H0N:=HN;clear HN;have JS:Hid (([]:List Bt).map Bt.Ac=(Bi.map Bt.Ac).take 0):=rfl;go_loopg [26] tn (fun gg i wr=>∃ (j:Nat) (Ol:List Bt) (B:Option Addr) (e:Nat),gg=tn - j∧j≤tn∧i=.int .i64 j∧Hid (Ol.length=j)∧Hid (SL No w wr [Aw x 25 #[.slice (some ⟨b1,o1,none⟩) n cn,.slice MA mn mc],Aw y 25 #[.slice none 0 0,.slice none 0 0],Aw z 25 #[.slice A k c,.slice MB mn md],Ce 73 2 (.slice A k c) k (acc.flatMap AY.cells),BS Vb acc,Ce 9 1 (.slice MB mn md) mn (ms.map tx),Aw u 73 #[.string ⟨nm.toArray⟩,.slice TA tn tc],Aw v 73 #[.string ⟨nm.toArray⟩,.slice B j e],Ce 75 3 (.slice B j e) j (Ol.flatMap AY.cells),BS RF Ol])∧Hid (Ol.map Bt.Ac=(Bi.map Bt.Ac).take j));case atStart=>exact ⟨0,[],none,0,rfl,Xl,rfl,rfl,H,JS⟩
   case round=>
    clear H JS;obtain ⟨j,Ol,B,e,hgj,hj,rfl,hjc,H,JS⟩:=hrel;have Lt:=Aa hgj;clear hgj;by_cases hjlt:j<tn
    ·obtain ⟨b2,o2,Tr,hB2,hb2,xW,hTr,hrg2⟩:=(F3 _ H.to).JO (k:=j) hjlt;simp only at hB2;subst hB2;have Tk:(Bi.map Bt.Ac)[j]?=some Tr.Ac:=by rw [Ed,xW];(try rfl)
     obtain ⟨f1,f2,f3,f4⟩:=Yw Tr.Ac (CU Tk);have l1:Tr.ts.l.length=Tr.ts.n:=hTr.ts.len;have l2:Tr.up.l.length=Tr.up.n:=hTr.up.len;simp only at f1 f2 f3 f4;have MV:Hid (Tr.nm.length≤12∧(∀ t ∈ Tr.ts.l,t.length≤16)∧(∀ z ∈ Tr.up.l,AZ z)∧Tr.ts.n≤200∧Tr.up.n≤200):=⟨f1,f2,hTr.up.all,Xl,Xl⟩;have HCT:=Aa (fun w' (hb:Ai wr w')=>dH Tr.ts w' (hTr.ts.mono hb) Xl);have HCI:=Aa (fun w' (hb:Ai wr w')=>yN Tr.up w' (hTr.up.mono hb) Xl);have hn3:Tr.ts.n≤200:=by omega
     have hn4:Tr.up.n≤200:=by omega
     have HN:Hid (∀ X:Bt,X.Ac=Tr.Ac→(Ol++[X]).map Bt.Ac=(Bi.map Bt.Ac).take (j+1)):=fun X hX=>by rw [Cf,JS.Ab,DR Tk,←hX];(try rfl)
     have HR:=Aa hrg2;have j0:(0:Int)≤j:=by omega
     have j1:(j:Int)<tn:=by omega
     clear xW hTr hrg2 hb2 Tk f1 f2 f3 f4 l1 l2 JS;obtain ⟨QS,⟨A3,n3,c3,ts⟩,⟨A4,n4,c4,ups⟩⟩:=Tr;simp only [Bt.cs] at *;go_upto_region 9 with (first|((with_reducible refine OP 29 ?_);(refine Af rfl Du (.tmp 28) rfl b2 (o2+j * 3) rfl #[.string ⟨QS.toArray⟩,.slice A3 n3 c3,.slice A4 n4 c4] rfl HR.Ab ?_))|((with_reducible refine OS 8 ?_);(refine DX Du (#[.string ⟨QS.toArray⟩,.slice A3 n3 c3,.slice A4 n4 c4]) Za2 ?_;replace H:=Aa (H.alloc (#[.string ⟨QS.toArray⟩,.slice A3 n3 c3,.slice A4 n4 c4]) 75);(try simp only [LS] at H))));(try simp only [Act.put,LP]);have HB:=Aa ((Ai.refl wr).alloc (.cells #[.string ⟨QS.toArray⟩,.slice A3 n3 c3,.slice A4 n4 c4] 75));clear HR;generalize wr.heap.size=t8 at *;generalize World.alloc wr _=w7 at *;refine Eo (S:=fun w=>w.cell? ⟨t8,0,none⟩=some (.string ⟨QS.toArray⟩)∧w.cell? ⟨t8,1,none⟩=some (.slice A3 n3 c3)∧w.cell? ⟨t8,2,none⟩=some (.slice A4 n4 c4)) Za0 Zb2 fun hHeld=>?_;replace H:=Aa (H.drew);refine Bd Ml ?_;refine Bd MN ?_;refine Bd Ky ?_;refine Bd LJ ?_;refine Bd KW ?_;refine Bd Lj ?_;refine Bd Mk ?_;refine Oh KF MI (fun KK Ad=>?_) fun KK Ad=>?_
     ·have cv:=(H.blk 7 rfl).Ap 1;go_simp;clear cv;refine Aj Ad Zb2 fun hHeld=>?_;clear Ad KK;refine BG MI fun KK Ad=>?_;go_simp;refine (HCT _ HB.drew).mono ?_;rintro e' w6 ⟨A5,c5,rfl,hb6,hown6⟩;replace H:=Aa (H.Co hb6 hown6);(try simp only [LS] at H);replace HB:=Aa (HB.drew.trans hb6);clear hb6 hown6;exact Zm4
     ·go_simp;refine (HCT _ HB.drew).mono ?_;rintro e' w6 ⟨A5,c5,rfl,hb6,hown6⟩;replace H:=Aa (H.Co hb6 hown6);(try simp only [LS] at H);replace HB:=Aa (HB.drew.trans hb6);clear hb6 hown6;refine Aj Ad Zb2 fun hHeld=>?_;clear Ad KK;refine Oh KF MH (fun KK Ad=>?_) fun KK Ad=>?_
      ·have cv:=(H.blk 7 rfl).Ap 1;go_simp;clear cv;exact Zm4
      ·go_simp;refine (HCI _ HB.Ab).mono ?_;rintro e' w7 ⟨A6,c6,rfl,Pz,KT⟩;replace H:=Aa (H.Co Pz KT);(try simp only [LS] at H);replace HB:=Aa (HB.trans Pz);clear Pz KT;refine Aj Ad Zb2 fun hHeld=>?_;clear Ad KK;refine Oh KF FO (fun KK Ad=>?_) fun KK Ad=>?_
       ·have cv:=(H.blk 7 rfl).Ap 1;go_simp;clear cv;exact Zs3
       ·go_simp;refine Aj Ad Zb2 fun hHeld=>?_;clear Ad KK;refine Oh KF Ga (fun KK Ad=>?_) fun KK Ad=>?_
        ·have cv:=(H.blk 7 rfl).Ap 1;go_simp;clear cv;exact Zk4
        ·refine BU rfl OV (.tmp 40) rfl (#[.string ⟨QS.toArray⟩,.slice A5 n3 c5,.slice A6 n4 c6]) rfl rfl Xl ?_;replace H:=Aa (H.Co ((Ai.refl _).alloc _) (CE _ 75 (#[.string ⟨QS.toArray⟩,.slice A5 n3 c5,.slice A6 n4 c6]) _ rfl));(try simp only [LS] at H);refine Aj Ad Zb2 fun hHeld=>?_;clear Ad KK;refine BG KF fun KK Ad=>?_;have cv:=(H.blk 7 rfl).Ap 1;go_simp;clear cv;exact Zi0
    ·obtain rfl:j=tn:=by omega
     have HN3:Hid ((acc++[(⟨nm,⟨B,j,e,Ol⟩⟩:Dm)]).map Dm.Ac=(ds.map Dm.Ac).take (k+1)):=by
      show _=_;rw [Cf,H0N.Ab,DR HDC.Ab];have h:=JS.Ab;rw [EU (by rw [CQ,tl.Ab];omega)] at h;show _++[(⟨nm,Ol.map Bt.Ac⟩:DC)]=_;rw [h]
     clear JS;replace H:=Aa (H.both 8 9 Xl rfl rfl (Vb ⟨nm,⟨B,j,e,Ol⟩⟩) (bF Xl Xl (H.get 8 rfl) (H.get 9 rfl)) (fun g hg=>hg));(try simp only [LS] at H);have cz0:=(H.blk 2 rfl).Ap 0;go_wp2_with (first|((with_reducible refine OP 47 ?_);(refine Bf CX (H.blk 7 rfl) ?_))|((with_reducible refine OP 48 ?_);(refine AP rfl fV (.tmp 47) rfl (#[.string ⟨nm.toArray⟩,.slice B j e]) rfl rfl Xl ?_;replace H:=Aa (H.Co ((Ai.refl _).alloc _) (CE _ 73 (#[.string ⟨nm.toArray⟩,.slice B j e]) _ rfl));(try simp only [LS] at H);clear cz0;have cz0:=(H.blk 2 rfl).Ap 0))|((with_reducible refine OP 49 ?_);(refine Az rfl (.tmp 46) (.tmp 48) _ rfl fV 0 (Bj _) _ k _ rfl (H.row 3 rfl) _ 1 1 _ rfl (Rd.BC (H.row 9 rfl)) (VV ⟨nm,⟨B,j,e,Ol⟩⟩) Za4 Xl ?_;intro vq wq AJ Aq AQ;replace H:=Aa (H.setRow 3 rfl Aq AJ AQ);(try simp only [LS] at H);clear AJ Aq AQ;obtain ⟨A9,c9,rfl,_⟩:=Ao (H.row 3 rfl);clear cz0;have cz0:=(H.blk 2 rfl).Ap 0;have fz0:=(H.blk 2 rfl).frozen 0)));replace H:=Aa (H.setCell 2 rfl 0 (.slice A9 (k+1) c9));(try simp only [LS] at H);replace H:=Aa (H.both 4 8 Xl rfl rfl (BS Vb (acc++[⟨nm,⟨B,j,e,Ol⟩⟩])) (Bl (H.get 4 rfl) (H.get 8 rfl)) Cg);(try simp only [LS] at H);replace H:=Aa (H.Fg [0,1,2,3,4,5] Za1 uH);(try simp only [LS] at H);clear cz0 fz0;go_wp2_with fail;go_roundg (n - (k+1));case rel=>exact ⟨k+1,acc++[⟨nm,⟨B,j,e,Ol⟩⟩],A9,c9,rfl,Xl,by go_num,by show _=_;rw [Cn,hkc.Ab];(try rfl),by rw [EM,Df,Gt,EO];exact H,HN3⟩
     case measure=>rw [Cs.Ab];omega
  ·obtain rfl:k=n:=by omega
   have HN3:Hid (acc.map Dm.Ac=ds.map Dm.Ac):=by
    have h:=HN.Ab;rw [EU (by rw [CQ,hl1.Ab];omega)] at h;exact h
   replace H:=Aa (H.both 3 4 Xl rfl rfl (rX acc A k c) (VO (H.get 3 rfl) (H.get 4 rfl)) (fun g hg=>hg));(try simp only [LS] at H);replace H:=Aa (H.both 3 4 Xl rfl rfl (Kj ⟨⟨A,k,c,acc⟩,⟨MB,mn,md,ms⟩⟩) (NB (fA (H.get 3 rfl)).1 (fA (H.get 3 rfl)).2 (H.get 4 rfl) TW Xl Xl) (fun g hg=>hg.elim (fun h=>.inl (.inl h)) (fun h=>h.elim (fun h=>.inl (.inr h)) .inr)));(try simp only [LS] at H);go_wp2_with (first|((with_reducible refine OP 52 ?_);(refine Bf Bb (H.blk 2 rfl) ?_))|((with_reducible refine OS 2 ?_);(refine Cj Bb H 1 rfl (#[.slice A k c,.slice MB mn md]) Za2 ?_;clear H;intro wq H;(try simp only [LS] at H))));refine Bc (AO rfl Bb rfl (H.blk 1 rfl) rfl) rfl ?_;exact ⟨⟨⟨A,k,c,acc⟩,⟨MB,mn,md,ms⟩⟩,rfl,by show (⟨_,_⟩:SC)=⟨_,_⟩;rw [HN3.Ab],H.to,H.get 3 rfl,H.new 3 rfl⟩
end Go.Proofs.YtijplolmkcdflaaGreat
namespace Go.Proofs.YtijplolmkcdflaaGreat
open Tryz
open Go.RowKit Go.ChangeShapes Go.WideShapes Go.Deep
structure Ct where
 sc:Ej
 fa:Int
 p0:Int
 q0:Int
 p1:Int
 q1:Int
 p2:Int
 q2:Int
abbrev Ct.cs (s:Ct):Array Value:=#[.slice s.sc.dm.A s.sc.dm.n s.sc.dm.c,.slice s.sc.ms.A s.sc.ms.n s.sc.ms.c,.int .i64 s.fa,.int .i64 s.p0,.int .i64 s.q0,.int .i64 s.p1,.int .i64 s.q1,.int .i64 s.p2,.int .i64 s.q2]
structure Ct.rd (w:World) (s:Ct):Prop where
 sc:s.sc.rd w
 fa:AZ s.fa
 p0:AZ s.p0
 q0:AZ s.q0
 p1:AZ s.p1
 q1:AZ s.q1
 p2:AZ s.p2
 q2:AZ s.q2
theorem Ct.rd.mono {w w':World} {s:Ct} (h:s.rd w) (hb:Ai w w'):s.rd w':=⟨h.sc.mono hb,h.fa,h.p0,h.q0,h.p1,h.q1,h.p2,h.q2⟩
@[ext] structure CC where
 sc:SC
 fa:Int
 p0:Int
 q0:Int
 p1:Int
 q1:Int
 p2:Int
 q2:Int
abbrev Ct.Ac (s:Ct):CC:=⟨s.sc.Ac,s.fa,s.p0,s.q0,s.p1,s.q1,s.p2,s.q2⟩
abbrev Ct.nil:Ct:=⟨Ej.nil,0,0,0,0,0,0,0⟩
abbrev CC.nil:CC:=⟨SC.nil,0,0,0,0,0,0,0⟩
theorem Oc (s:Ct):s.cs.all (·.oneCell')=true:=by simp [Value.oneCell']
theorem BN:AZ 0:=by unfold AZ;omega
theorem NF (w:World):Ct.nil.rd w:=⟨wE w,BN,BN,BN,BN,BN,BN,BN⟩
theorem BI:Ep prog 63 9:=⟨⟨_,underlying63,rfl⟩,by kernel_rfl⟩
theorem CO:Ep prog 60 2:=⟨⟨_,underlying60,rfl⟩,by kernel_rfl⟩
theorem wI:Ep prog 61 6:=⟨⟨_,underlying61,rfl⟩,by kernel_rfl⟩
theorem Bh.part {w:World} {g:Nat} {t:TypeId} {cs:Array Value} (h:Bh w g t cs) (o:Nat) (l:List Value) (hl:(cs.toList.drop o).take l.length=l):w.rangeAt g o l:=fun j v hv=>by
 rw [h.cell];rw [←hl,WE] at hv;split at hv
 ·rw [NJ] at hv;simpa using hv
 ·cases hv
def CV (m:Int) (i:Int) (p q:Int):Bool:=!(decide (0≤p) && decide (q≤0))||(decide (m≤i) && !(decide (p=0) && decide (q=0)))
def Bu (c:CC):Int:=
 if Ay c.sc≠0 then Ay c.sc
 else if c.fa<0∨4000<c.fa then 6
 else if CV c.sc.ms.length 0 c.p0 c.q0 then 2
 else if CV c.sc.ms.length 1 c.p1 c.q1 then 2
 else if CV c.sc.ms.length 2 c.p2 c.q2 then 2
 else 0
theorem Aw5:prog.cellsOf 60=2:=by kernel_rfl
theorem Ah8:(prog.info? 60).map (fun i=>(i.zero,i.size,i.bytes))=some (some (.agg #[.int .i64 0,.int .i64 0]),2,16):=by kernel_rfl
theorem SV:prog.eqGuardType prog.depth 60=false:=by kernel_rfl
theorem xZ:prog.eqGuardType prog.depth 61=false:=by kernel_rfl
theorem j4 (p q:Int) (W:World):(binOp .neq 60 (.agg #[.int .i64 p,.int .i64 q]) (.agg #[.int .i64 0,.int .i64 0])).run prog W=.ok (.bool (!(decide (p=0) && decide (q=0)))) W:=by
 by_cases h1:p=0<;>by_cases h2:q=0<;>go_simp
theorem Aj8 (p0 q0 p1 q1 p2 q2 a0 b0 a1 b1 a2 b2:Int) (W:World):(binOp .eql 61 (.agg #[.int .i64 p0,.int .i64 q0,.int .i64 p1,.int .i64 q1,.int .i64 p2,.int .i64 q2]) (.agg #[.int .i64 a0,.int .i64 b0,.int .i64 a1,.int .i64 b1,.int .i64 a2,.int .i64 b2])).run prog W=.ok (.bool (decide (p0=a0∧q0=b0∧p1=a1∧q1=b1∧p2=a2∧q2=b2))) W:=by
 obtain ⟨i0,hi0,hz0,hz1,hz2⟩:=info_parts Ah8;go_simp;rw [run_equalIn_array W 9999 _ _ underlying61 hi0,Aw5];simp only [show List.range 3=[0,1,2] from rfl,Op.eqItems];go_simp;clear hi0 hz0 hz1 hz2;repeat' split
 all_goals simp_all
theorem lQ (p q:Int) (w:World):
 Calls prog 142 #[.agg #[.int .i64 p,.int .i64 q]] w fun e w'=>e=.returned (.bool (decide (0≤p) && decide (q≤0)))∧Ai w w':=by
 by_cases h:0≤p
 ·have d0:decide (0≤p)=true:=by simp [h]
  go_enter func142,ntmps142;go_wp2;go_ret;exact ⟨by first|(rw [d0];rfl)|rfl,(Ai.refl w).alloc _⟩
 ·have d0:decide (0≤p)=false:=by simp [h]
  go_enter func142,ntmps142;go_wp2;go_ret;exact ⟨by first|(rw [d0];rfl)|rfl,(Ai.refl w).alloc _⟩
end Go.Proofs.YtijplolmkcdflaaGreat
namespace Go.Proofs.YtijplolmkcdflaaGreat
open Tryz
open Go.RowKit
def C9 (s:Ej):Prop:=s.dm.n≤1000000∧s.ms.n≤1000000∧∀ d ∈ s.dm.l,d.tr.n≤1000000∧∀ t ∈ d.tr.l,t.up.n≤100000
def JQ (c:CC):Int:=if CV c.sc.ms.length 2 c.p2 c.q2 then 2 else 0
def JR (c:CC):Int:=if CV c.sc.ms.length 1 c.p1 c.q1 then 2 else JQ c
def Si (c:CC):Int:=if CV c.sc.ms.length 0 c.p0 c.q0 then 2 else JR c
def IU (c:CC) (k:Nat):Int:=if k=0 then Si c else if k=1 then JR c else if k=2 then JQ c else 0
theorem Xj {c:CC} (h:Ay c.sc≠0):Bu c=Ay c.sc:=by unfold Bu;rw [Al h]
theorem Ta {c:CC} (h:Ay c.sc=0) (h2:c.fa<0∨4000<c.fa):Bu c=6:=by unfold Bu;rw [Ak (by simp [h]),Al h2]
theorem Yc {c:CC} (h:Ay c.sc=0) (h2:¬ (c.fa<0∨4000<c.fa)):Bu c=IU c 0:=by unfold Bu;rw [Ak (by simp [h]),Ak h2];(try rfl)
theorem IW {m i p q:Int} (h:(decide (0≤p) && decide (q≤0))=false):CV m i p q=true:=by unfold CV;rw [h];(try rfl)
theorem NI {m i p q:Int} (h:(decide (0≤p) && decide (q≤0))=true) (h2:¬ m≤i):CV m i p q=false:=by unfold CV;rw [h];simp [h2]
theorem Jy {m i p q:Int} (h:(decide (0≤p) && decide (q≤0))=true) (h2:m≤i) {b:Bool} (h3:(!(decide (p=0) && decide (q=0)))=b):CV m i p q=b:=by unfold CV;rw [h,h3];simp [h2]
theorem Zu6 {p:Prop} (h:p:=by
 go_roundg (3 - (1+1));case rel=>exact ⟨2,rfl,Xl,rfl,Aa (H.Fg [0] Za1 uH),Lu⟩
 case measure=>omega
):p:=h
theorem Zd9 {p:Prop} (h:p:=by rw [Nt.Ab];simp):p:=h
theorem Zg6 {p:Prop} (h:p:=by
 have Lu:Hid (Bu ⟨⟨ds.map Dm.Ac,ms⟩,fa,p0,q0,p1,q1,p2,q2⟩=IU ⟨⟨ds.map Dm.Ac,ms⟩,fa,p0,q0,p1,q1,p2,q2⟩ 2):=by show _=_;rw [HV.Ab];show JR _=_;unfold JR;rw [Ak Zd9];(try rfl)
 go_wp2_with fail;exact Zu6
):p:=h
theorem Zu7 {p:Prop} (h:p:=by
 go_roundg (3 - (2+1));case rel=>exact ⟨3,rfl,Xl,rfl,Aa (H.Fg [0] Za1 uH),Lu⟩
 case measure=>omega
):p:=h
theorem Zg7 {p:Prop} (h:p:=by
 have Lu:Hid (Bu ⟨⟨ds.map Dm.Ac,ms⟩,fa,p0,q0,p1,q1,p2,q2⟩=IU ⟨⟨ds.map Dm.Ac,ms⟩,fa,p0,q0,p1,q1,p2,q2⟩ 3):=by show _=_;rw [HV.Ab];show JQ _=_;unfold JQ;rw [Ak Zd9];(try rfl)
 go_wp2_with fail;exact Zu7
):p:=h
theorem Zn3 {p:Prop} (h:p:=by
 clear hin2;have Lu:Hid (Bu ⟨⟨ds.map Dm.Ac,ms⟩,fa,p0,q0,p1,q1,p2,q2⟩=IU ⟨⟨ds.map Dm.Ac,ms⟩,fa,p0,q0,p1,q1,p2,q2⟩ 1):=by show _=_;rw [HV.Ab];show Si _=_;unfold Si;rw [Ak Zd9];(try rfl)
 go_wp2_with fail;go_roundg (3 - (0+1));case rel=>exact ⟨1,rfl,Xl,rfl,Aa (H.Fg [0] Za1 uH),Lu⟩
 case measure=>omega
):p:=h
theorem Qw (s:Ct) (w:World) (hs:s.rd w) (hm:C9 s.sc):
 Calls prog 97 #[.agg s.cs] w fun e w'=>e=.returned (.int .i64 (Bu s.Ac))∧Ai w w':=by
 have HC:=Aa (fun w' (hb:Ai w w')=>GJ s.sc w' (hs.sc.mono hb) hm.1 hm.2.1 hm.2.2);have hl2:Hid (s.sc.ms.l.length=s.sc.ms.n):=hs.sc.ms.len;have H:=Aa ((SL.start No w).alloc s.cs 63);(try simp only [LS] at H);have f1:=hs.fa;unfold AZ at f1;obtain ⟨⟨⟨A,n,c,ds⟩,⟨MA,mn,mc,ms⟩⟩,fa,p0,q0,p1,q1,p2,q2⟩:=s;simp only [Ct.cs,Ej.cs,Ct.Ac,Ej.Ac] at *;obtain ⟨f1,f2⟩:=f1;clear hs hm;go_enter func97,ntmps97;go_wp2_with ((with_reducible refine OP 7 ?_);(refine Af rfl Bb (.tmp 6) rfl w.heap.size (0) rfl #[.slice A n c,.slice MA mn mc] rfl ((H.blk 0 rfl).part 0 _ rfl) ?_));generalize w.heap.size=x at *;generalize World.alloc _ _=w1 at *;refine (HC _ H.to).mono ?_;rintro e w2 ⟨rfl,hb2⟩;replace H:=Aa (H.Av hb2);clear hb2 HC;by_cases hE:Ay (⟨ds.map Dm.Ac,ms⟩:SC)=0
 ·have hm1:Hid (1≤mn):=by have h:1≤ms.length:=(BH hE).2.2.2.1;have h5:=hl2.Ab;show _≤_;omega
  rw [hE];have c2:=(H.blk 0 rfl).Ap 2;by_cases h1:fa<0
  ·have HV:Hid (Bu ⟨⟨ds.map Dm.Ac,ms⟩,fa,p0,q0,p1,q1,p2,q2⟩=6):=Ta hE (.inl h1);clear hE;go_wp2_with fail;go_ret;rw [HV.Ab];exact ⟨rfl,H.to⟩
  ·by_cases h2:4000<fa
   ·have HV:Hid (Bu ⟨⟨ds.map Dm.Ac,ms⟩,fa,p0,q0,p1,q1,p2,q2⟩=6):=Ta hE (.inr h2);clear hE;go_wp2_with fail;go_ret;rw [HV.Ab];exact ⟨rfl,H.to⟩
   ·have HV:Hid (Bu ⟨⟨ds.map Dm.Ac,ms⟩,fa,p0,q0,p1,q1,p2,q2⟩=IU ⟨⟨ds.map Dm.Ac,ms⟩,fa,p0,q0,p1,q1,p2,q2⟩ 0):=Yc hE (by rintro (h|h);exact h1 h;exact h2 h);clear hE;go_wp2_with ((with_reducible refine OP 21 ?_);(refine Af rfl wI (.tmp 20) rfl x (3) rfl #[.int .i64 p0,.int .i64 q0,.int .i64 p1,.int .i64 q1,.int .i64 p2,.int .i64 q2] rfl ((H.blk 0 rfl).part 3 _ rfl) ?_));clear c2 h1 h2 f1 f2;go_loopg [22] 3 (fun gg i wr=>∃ k:Nat,gg=3 - k∧k≤3∧i=.int .i64 k∧Hid (SL No w wr [Aw x 63 #[.slice A n c,.slice MA mn mc,.int .i64 fa,.int .i64 p0,.int .i64 q0,.int .i64 p1,.int .i64 q1,.int .i64 p2,.int .i64 q2]])∧Hid (Bu ⟨⟨ds.map Dm.Ac,ms⟩,fa,p0,q0,p1,q1,p2,q2⟩=IU ⟨⟨ds.map Dm.Ac,ms⟩,fa,p0,q0,p1,q1,p2,q2⟩ k));case atStart=>exact ⟨0,rfl,Xl,rfl,H,HV⟩
    case round=>
     clear H HV;obtain ⟨k,BR,hk,rfl,H,HV⟩:=hrel;obtain rfl|rfl|rfl|rfl:k=0∨k=1∨k=2∨k=3:=by omega
     ·have ix:∀ W,(Instr.index 61 (.agg #[.int .i64 p0,.int .i64 q0,.int .i64 p1,.int .i64 q1,.int .i64 p2,.int .i64 q2]) (.int .i64 0)).run prog W=.ok (.agg #[.int .i64 p0,.int .i64 q0]) W:=fun _=>by kernel_rfl
      rw [show ((0:Nat):Int)=0 from rfl];go_upto_region 9 with ((with_reducible refine OS 5 ?_);(refine DX CO (#[.int .i64 p0,.int .i64 q0]) Za2 ?_;replace H:=Aa (H.alloc (#[.int .i64 p0,.int .i64 q0]) 60);(try simp only [LS] at H)));(try simp only [Act.put,LP]);go_wp2_with ((with_reducible refine OP 26 ?_);(refine Bf CO (H.blk 1 rfl) ?_));clear ix;refine (lQ p0 q0 _).mono ?_;rintro e w5 ⟨rfl,hb5⟩;replace H:=Aa (H.Av hb5);clear hb5;obtain ⟨bm,hbm⟩:∃ b,(decide (0≤p0) && decide (q0≤0))=b:=⟨_,rfl⟩;rw [hbm];have HBM:=Aa hbm;clear hbm;cases bm with
      |false=>
       have Nt:Hid (CV ms.length 0 p0 q0=true):=IW HBM.Ab;have Lu:Hid (Bu ⟨⟨ds.map Dm.Ac,ms⟩,fa,p0,q0,p1,q1,p2,q2⟩=2):=by show _=_;rw [HV.Ab];show Si _=2;unfold Si;rw [Al Nt.Ab]
       go_wp2_with fail;go_ret;rw [Lu.Ab];exact ⟨rfl,H.to⟩
      |true=>
       have cm0:=(H.blk 0 rfl).Ap 1;by_cases hin:(mn:Int)≤0
       ·exact absurd hin (by have:=hm1.Ab;omega)
       ·have d1:decide ((mn:Int)≤0)=false:=by simp;omega
        have hin2:¬ (ms.length:Int)≤0:=by have:=hl2.Ab;omega
        have Nt:Hid (CV ms.length 0 p0 q0=false):=NI HBM hin2;exact Zn3
     ·have ix:∀ W,(Instr.index 61 (.agg #[.int .i64 p0,.int .i64 q0,.int .i64 p1,.int .i64 q1,.int .i64 p2,.int .i64 q2]) (.int .i64 1)).run prog W=.ok (.agg #[.int .i64 p1,.int .i64 q1]) W:=fun _=>by kernel_rfl
      rw [show ((1:Nat):Int)=1 from rfl];go_upto_region 9 with ((with_reducible refine OS 5 ?_);(refine DX CO (#[.int .i64 p1,.int .i64 q1]) Za2 ?_;replace H:=Aa (H.alloc (#[.int .i64 p1,.int .i64 q1]) 60);(try simp only [LS] at H)));(try simp only [Act.put,LP]);go_wp2_with ((with_reducible refine OP 26 ?_);(refine Bf CO (H.blk 1 rfl) ?_));clear ix;refine (lQ p1 q1 _).mono ?_;rintro e w5 ⟨rfl,hb5⟩;replace H:=Aa (H.Av hb5);clear hb5;obtain ⟨bm,hbm⟩:∃ b,(decide (0≤p1) && decide (q1≤0))=b:=⟨_,rfl⟩;rw [hbm];have HBM:=Aa hbm;clear hbm;cases bm with
      |false=>
       have Nt:Hid (CV ms.length 1 p1 q1=true):=IW HBM.Ab;have Lu:Hid (Bu ⟨⟨ds.map Dm.Ac,ms⟩,fa,p0,q0,p1,q1,p2,q2⟩=2):=by show _=_;rw [HV.Ab];show JR _=2;unfold JR;rw [Al Nt.Ab]
       go_wp2_with fail;go_ret;rw [Lu.Ab];exact ⟨rfl,H.to⟩
      |true=>
       have cm0:=(H.blk 0 rfl).Ap 1;by_cases hin:(mn:Int)≤1
       ·have d1:decide ((mn:Int)≤1)=true:=by simp [hin]
        have hin2:(ms.length:Int)≤1:=by have:=hl2.Ab;omega
        obtain ⟨bz,hbz⟩:∃ b,(!(decide (p1=0) && decide (q1=0)))=b:=⟨_,rfl⟩;have Nt:Hid (CV ms.length 1 p1 q1=bz):=Jy HBM hin2 hbz;have hneq:=j4 p1 q1;rw [hbz] at hneq;clear hbz hin2;cases bz with
        |true=>
         have Lu:Hid (Bu ⟨⟨ds.map Dm.Ac,ms⟩,fa,p0,q0,p1,q1,p2,q2⟩=2):=by show _=_;rw [HV.Ab];show JR _=2;unfold JR;rw [Al Nt.Ab]
         go_wp2_with (first|((with_reducible refine OP 37 ?_);refine Ca (by first|rfl|go_simp) CO (.tmp 5) (by rfl) _ (by rfl) (H.blk 1 rfl) rfl ?_)|((with_reducible refine OP 39 ?_);refine Jo (by first|rfl|go_simp) .neq 60 60 (.tmp 37) (.tmp 38) (by rfl) (by rfl) (by rfl) SV (hneq _) ?_));go_ret;rw [Lu.Ab];exact ⟨rfl,H.to⟩
        |false=>
         have Lu:Hid (Bu ⟨⟨ds.map Dm.Ac,ms⟩,fa,p0,q0,p1,q1,p2,q2⟩=IU ⟨⟨ds.map Dm.Ac,ms⟩,fa,p0,q0,p1,q1,p2,q2⟩ 2):=by show _=_;rw [HV.Ab];show JR _=_;unfold JR;rw [Ak Zd9];(try rfl)
         go_wp2_with (first|((with_reducible refine OP 37 ?_);refine Ca (by first|rfl|go_simp) CO (.tmp 5) (by rfl) _ (by rfl) (H.blk 1 rfl) rfl ?_)|((with_reducible refine OP 39 ?_);refine Jo (by first|rfl|go_simp) .neq 60 60 (.tmp 37) (.tmp 38) (by rfl) (by rfl) (by rfl) SV (hneq _) ?_));exact Zu6
       ·have d1:decide ((mn:Int)≤1)=false:=by simp;omega
        have hin2:¬ (ms.length:Int)≤1:=by have:=hl2.Ab;omega
        have Nt:Hid (CV ms.length 1 p1 q1=false):=NI HBM hin2;clear hin2;exact Zg6
     ·have ix:∀ W,(Instr.index 61 (.agg #[.int .i64 p0,.int .i64 q0,.int .i64 p1,.int .i64 q1,.int .i64 p2,.int .i64 q2]) (.int .i64 2)).run prog W=.ok (.agg #[.int .i64 p2,.int .i64 q2]) W:=fun _=>by kernel_rfl
      rw [show ((2:Nat):Int)=2 from rfl];go_upto_region 9 with ((with_reducible refine OS 5 ?_);(refine DX CO (#[.int .i64 p2,.int .i64 q2]) Za2 ?_;replace H:=Aa (H.alloc (#[.int .i64 p2,.int .i64 q2]) 60);(try simp only [LS] at H)));(try simp only [Act.put,LP]);go_wp2_with ((with_reducible refine OP 26 ?_);(refine Bf CO (H.blk 1 rfl) ?_));clear ix;refine (lQ p2 q2 _).mono ?_;rintro e w5 ⟨rfl,hb5⟩;replace H:=Aa (H.Av hb5);clear hb5;obtain ⟨bm,hbm⟩:∃ b,(decide (0≤p2) && decide (q2≤0))=b:=⟨_,rfl⟩;rw [hbm];have HBM:=Aa hbm;clear hbm;cases bm with
      |false=>
       have Nt:Hid (CV ms.length 2 p2 q2=true):=IW HBM.Ab;have Lu:Hid (Bu ⟨⟨ds.map Dm.Ac,ms⟩,fa,p0,q0,p1,q1,p2,q2⟩=2):=by show _=_;rw [HV.Ab];show JQ _=2;unfold JQ;rw [Al Nt.Ab]
       go_wp2_with fail;go_ret;rw [Lu.Ab];exact ⟨rfl,H.to⟩
      |true=>
       have cm0:=(H.blk 0 rfl).Ap 1;by_cases hin:(mn:Int)≤2
       ·have d1:decide ((mn:Int)≤2)=true:=by simp [hin]
        have hin2:(ms.length:Int)≤2:=by have:=hl2.Ab;omega
        obtain ⟨bz,hbz⟩:∃ b,(!(decide (p2=0) && decide (q2=0)))=b:=⟨_,rfl⟩;have Nt:Hid (CV ms.length 2 p2 q2=bz):=Jy HBM hin2 hbz;have hneq:=j4 p2 q2;rw [hbz] at hneq;clear hbz hin2;cases bz with
        |true=>
         have Lu:Hid (Bu ⟨⟨ds.map Dm.Ac,ms⟩,fa,p0,q0,p1,q1,p2,q2⟩=2):=by show _=_;rw [HV.Ab];show JQ _=2;unfold JQ;rw [Al Nt.Ab]
         go_wp2_with (first|((with_reducible refine OP 37 ?_);refine Ca (by first|rfl|go_simp) CO (.tmp 5) (by rfl) _ (by rfl) (H.blk 1 rfl) rfl ?_)|((with_reducible refine OP 39 ?_);refine Jo (by first|rfl|go_simp) .neq 60 60 (.tmp 37) (.tmp 38) (by rfl) (by rfl) (by rfl) SV (hneq _) ?_));go_ret;rw [Lu.Ab];exact ⟨rfl,H.to⟩
        |false=>
         have Lu:Hid (Bu ⟨⟨ds.map Dm.Ac,ms⟩,fa,p0,q0,p1,q1,p2,q2⟩=IU ⟨⟨ds.map Dm.Ac,ms⟩,fa,p0,q0,p1,q1,p2,q2⟩ 3):=by show _=_;rw [HV.Ab];show JQ _=_;unfold JQ;rw [Ak Zd9];(try rfl)
         go_wp2_with (first|((with_reducible refine OP 37 ?_);refine Ca (by first|rfl|go_simp) CO (.tmp 5) (by rfl) _ (by rfl) (H.blk 1 rfl) rfl ?_)|((with_reducible refine OP 39 ?_);refine Jo (by first|rfl|go_simp) .neq 60 60 (.tmp 37) (.tmp 38) (by rfl) (by rfl) (by rfl) SV (hneq _) ?_));exact Zu7
       ·have d1:decide ((mn:Int)≤2)=false:=by simp;omega
        have hin2:¬ (ms.length:Int)≤2:=by have:=hl2.Ab;omega
        have Nt:Hid (CV ms.length 2 p2 q2=false):=NI HBM hin2;clear hin2;exact Zg7
     ·rw [show ((3:Nat):Int)=3 from rfl];go_wp2_with fail;go_ret;rw [HV.Ab];exact ⟨rfl,H.to⟩
 ·have HV:Hid (Bu ⟨⟨ds.map Dm.Ac,ms⟩,fa,p0,q0,p1,q1,p2,q2⟩=Ay (⟨ds.map Dm.Ac,ms⟩:SC)):=Xj hE;have dE:(Ay (⟨ds.map Dm.Ac,ms⟩:SC)==0)=false:=by simpa using hE
  clear hE;go_wp2_with fail;go_ret;rw [HV.Ab];exact ⟨rfl,H.to⟩
theorem Ov {P:Program} {ops:Array Oper} {rest:List Oper} {op:Oper} {a:Act} {w:World} {Q:Exit→Act→World→Prop} (hw:Region.wanted op (yielded ops a.tmps)=true) {ty:TypeId} {n:Nat} (R:Ep P ty n) (x:Operand) (ho:op.op=.load ty x)
 (b o:Nat) (hx:a.eval x=.pointer (some ⟨b,o,none⟩)) (cs:Array Value) (hn:cs.size=n) (hc:w.rangeAt b o cs.toList)
 (h:wpList P ops Q rest (a.put op.dst (.agg cs)) w):wpList P ops Q (op::rest) a w:=by
 obtain ⟨d,hu,hd⟩:=R.hu;refine wpList_step fun K hK=>?_;rw [Al hw];exact wp_load_mid ty x ho b o hx cs.toList d hc hu hd Zb6 (hK _ _ Zb3)
theorem K5 (a b:SC):Ld a b=true↔a=b:=by
 obtain ⟨x,y⟩:=a;obtain ⟨u,v⟩:=b;unfold Ld;simp
theorem mI (s:Ct) (w:World) (hs:s.rd w) (hm:C9 s.sc):
 Calls prog 115 #[.agg s.cs] w fun e w'=>e=.returned (.int .i64 (Bu s.Ac))∧Ai w w':=by
 have HC:=Aa (fun w' (hb:Ai w w')=>GI s.sc w' (hs.sc.mono hb) hm.1 hm.2.1 (fun d hd=>(hm.2.2 d hd).1));have hl2:Hid (s.sc.ms.l.length=s.sc.ms.n):=hs.sc.ms.len;have H:=Aa ((SL.start No w).alloc s.cs 63);(try simp only [LS] at H);have f1:=hs.fa;unfold AZ at f1;obtain ⟨⟨⟨A,n,c,ds⟩,⟨MA,mn,mc,ms⟩⟩,fa,p0,q0,p1,q1,p2,q2⟩:=s;simp only [Ct.cs,Ej.cs,Ct.Ac,Ej.Ac] at *;obtain ⟨f1,f2⟩:=f1;clear hs hm;go_enter func115,ntmps115;go_wp2_with ((with_reducible refine OP 7 ?_);(refine Af rfl Bb (.tmp 6) rfl w.heap.size (0) rfl #[.slice A n c,.slice MA mn mc] rfl ((H.blk 0 rfl).part 0 _ rfl) ?_));generalize w.heap.size=x at *;generalize World.alloc _ _=w1 at *;refine (HC _ H.to).mono ?_;rintro e w2 ⟨rfl,hb2⟩;replace H:=Aa (H.Av hb2);clear hb2 HC;by_cases hE:Ay (⟨ds.map Dm.Ac,ms⟩:SC)=0
 ·have hm1:Hid (1≤mn):=by have h:1≤ms.length:=(BH hE).2.2.2.1;have h5:=hl2.Ab;show _≤_;omega
  rw [hE];have c2:=(H.blk 0 rfl).Ap 2;by_cases h1:fa<0
  ·have HV:Hid (Bu ⟨⟨ds.map Dm.Ac,ms⟩,fa,p0,q0,p1,q1,p2,q2⟩=6):=Ta hE (.inl h1);clear hE;go_wp2_with fail;go_ret;rw [HV.Ab];exact ⟨rfl,H.to⟩
  ·by_cases h2:4000<fa
   ·have HV:Hid (Bu ⟨⟨ds.map Dm.Ac,ms⟩,fa,p0,q0,p1,q1,p2,q2⟩=6):=Ta hE (.inr h2);clear hE;go_wp2_with fail;go_ret;rw [HV.Ab];exact ⟨rfl,H.to⟩
   ·have HV:Hid (Bu ⟨⟨ds.map Dm.Ac,ms⟩,fa,p0,q0,p1,q1,p2,q2⟩=IU ⟨⟨ds.map Dm.Ac,ms⟩,fa,p0,q0,p1,q1,p2,q2⟩ 0):=Yc hE (by rintro (h|h);exact h1 h;exact h2 h);clear hE;go_wp2_with fail;clear c2 h1 h2 f1 f2;go_loopg [4] 3 (fun gg i wr=>∃ k:Nat,gg=3 - k∧k≤3∧i=.int .i64 k∧Hid (SL No w wr [Aw x 63 #[.slice A n c,.slice MA mn mc,.int .i64 fa,.int .i64 p0,.int .i64 q0,.int .i64 p1,.int .i64 q1,.int .i64 p2,.int .i64 q2]])∧Hid (Bu ⟨⟨ds.map Dm.Ac,ms⟩,fa,p0,q0,p1,q1,p2,q2⟩=IU ⟨⟨ds.map Dm.Ac,ms⟩,fa,p0,q0,p1,q1,p2,q2⟩ k));case atStart=>exact ⟨0,rfl,Xl,rfl,H,HV⟩
    case round=>
     clear H HV;obtain ⟨k,BR,hk,rfl,H,HV⟩:=hrel;obtain rfl|rfl|rfl|rfl:k=0∨k=1∨k=2∨k=3:=by omega
     ·rw [show ((0:Nat):Int)=0 from rfl];go_upto_region 10 with (first|((with_reducible refine OP 27 ?_);(refine Af rfl CO (.tmp 26) rfl x (3) rfl #[.int .i64 p0,.int .i64 q0] rfl ((H.blk 0 rfl).part 3 _ rfl) ?_))|((with_reducible refine OS 5 ?_);(refine DX CO (#[.int .i64 p0,.int .i64 q0]) Za2 ?_;replace H:=Aa (H.alloc (#[.int .i64 p0,.int .i64 q0]) 60);(try simp only [LS] at H))));(try simp only [Act.put,LP]);have cm0:=(H.blk 0 rfl).Ap 1;have ct0:=(H.blk 1 rfl).Ap 0;have ct1:=(H.blk 1 rfl).Ap 1;have e1:decide (p0<0)=!decide (0≤p0):=by by_cases h:p0<0<;>simp [h]<;>omega
      clear e1;by_cases h1:p0<0
      ·have Nt:Hid (CV ms.length 0 p0 q0=true):=IW Za3;have Lu:Hid (Bu ⟨⟨ds.map Dm.Ac,ms⟩,fa,p0,q0,p1,q1,p2,q2⟩=2):=by show _=_;rw [HV.Ab];show Si _=2;unfold Si;rw [Al Nt.Ab]
       go_wp2_with fail;go_ret;rw [Lu.Ab];exact ⟨rfl,H.to⟩
      ·by_cases h2:0<q0
       ·have Nt:Hid (CV ms.length 0 p0 q0=true):=IW Za3;have Lu:Hid (Bu ⟨⟨ds.map Dm.Ac,ms⟩,fa,p0,q0,p1,q1,p2,q2⟩=2):=by show _=_;rw [HV.Ab];show Si _=2;unfold Si;rw [Al Nt.Ab]
        go_wp2_with fail;go_ret;rw [Lu.Ab];exact ⟨rfl,H.to⟩
       ·have d1:decide (p0<0)=false:=by simp;omega
        have d2:decide (0<q0)=false:=by simp;omega
        have hin:¬ (mn:Int)≤0:=by have:=hm1.Ab;omega
        have hin2:¬ (ms.length:Int)≤0:=by have:=hl2.Ab;omega
        have Nt:Hid (CV ms.length 0 p0 q0=false):=NI Za3 hin2;exact Zn3
     ·rw [show ((1:Nat):Int)=1 from rfl];go_upto_region 10 with (first|((with_reducible refine OP 27 ?_);(refine Af rfl CO (.tmp 26) rfl x (5) rfl #[.int .i64 p1,.int .i64 q1] rfl ((H.blk 0 rfl).part 5 _ rfl) ?_))|((with_reducible refine OS 5 ?_);(refine DX CO (#[.int .i64 p1,.int .i64 q1]) Za2 ?_;replace H:=Aa (H.alloc (#[.int .i64 p1,.int .i64 q1]) 60);(try simp only [LS] at H))));(try simp only [Act.put,LP]);have cm0:=(H.blk 0 rfl).Ap 1;have ct0:=(H.blk 1 rfl).Ap 0;have ct1:=(H.blk 1 rfl).Ap 1;have e1:decide (p1<0)=!decide (0≤p1):=by by_cases h:p1<0<;>simp [h]<;>omega
      clear e1;by_cases h1:p1<0
      ·have Nt:Hid (CV ms.length 1 p1 q1=true):=IW Za3;have Lu:Hid (Bu ⟨⟨ds.map Dm.Ac,ms⟩,fa,p0,q0,p1,q1,p2,q2⟩=2):=by show _=_;rw [HV.Ab];show JR _=2;unfold JR;rw [Al Nt.Ab]
       go_wp2_with fail;go_ret;rw [Lu.Ab];exact ⟨rfl,H.to⟩
      ·by_cases h2:0<q1
       ·have Nt:Hid (CV ms.length 1 p1 q1=true):=IW Za3;have Lu:Hid (Bu ⟨⟨ds.map Dm.Ac,ms⟩,fa,p0,q0,p1,q1,p2,q2⟩=2):=by show _=_;rw [HV.Ab];show JR _=2;unfold JR;rw [Al Nt.Ab]
        go_wp2_with fail;go_ret;rw [Lu.Ab];exact ⟨rfl,H.to⟩
       ·have d1:decide (p1<0)=false:=by simp;omega
        have d2:decide (0<q1)=false:=by simp;omega
        by_cases hin:(mn:Int)≤1
        ·have d1:decide ((mn:Int)≤1)=true:=by simp [hin]
         have hin2:(ms.length:Int)≤1:=by have:=hl2.Ab;omega
         by_cases h3:p1=0
         ·by_cases h4:q1=0
          ·have Nt:Hid (CV ms.length 1 p1 q1=false):=Jy Za3 hin2 (by simp [h3,h4]);clear hin2;have b3:(p1 !=0)=false:=by simp [h3]
           have b4:(q1 !=0)=false:=by simp [h4]
           clear h1 h2 h3 h4;exact Zg6
          ·have Nt:Hid (CV ms.length 1 p1 q1=true):=Jy Za3 hin2 (by simp [h3,h4]);clear hin2;have b3:(p1 !=0)=false:=by simp [h3]
           have b4:(q1 !=0)=true:=by simp [h4]
           clear h1 h2 h3 h4;have Lu:Hid (Bu ⟨⟨ds.map Dm.Ac,ms⟩,fa,p0,q0,p1,q1,p2,q2⟩=2):=by show _=_;rw [HV.Ab];show JR _=2;unfold JR;rw [Al Nt.Ab]
           go_wp2_with fail;go_ret;rw [Lu.Ab];exact ⟨rfl,H.to⟩
         ·have Nt:Hid (CV ms.length 1 p1 q1=true):=Jy Za3 hin2 (by simp [h3]);clear hin2;have b3:(p1 !=0)=true:=by simp [h3]
          clear h1 h2 h3;have Lu:Hid (Bu ⟨⟨ds.map Dm.Ac,ms⟩,fa,p0,q0,p1,q1,p2,q2⟩=2):=by show _=_;rw [HV.Ab];show JR _=2;unfold JR;rw [Al Nt.Ab]
          go_wp2_with fail;go_ret;rw [Lu.Ab];exact ⟨rfl,H.to⟩
        ·have hin2:¬ (ms.length:Int)≤1:=by have:=hl2.Ab;omega
         have Nt:Hid (CV ms.length 1 p1 q1=false):=NI Za3 hin2;clear hin2;exact Zg6
     ·rw [show ((2:Nat):Int)=2 from rfl];go_upto_region 10 with (first|((with_reducible refine OP 27 ?_);(refine Af rfl CO (.tmp 26) rfl x (7) rfl #[.int .i64 p2,.int .i64 q2] rfl ((H.blk 0 rfl).part 7 _ rfl) ?_))|((with_reducible refine OS 5 ?_);(refine DX CO (#[.int .i64 p2,.int .i64 q2]) Za2 ?_;replace H:=Aa (H.alloc (#[.int .i64 p2,.int .i64 q2]) 60);(try simp only [LS] at H))));(try simp only [Act.put,LP]);have cm0:=(H.blk 0 rfl).Ap 1;have ct0:=(H.blk 1 rfl).Ap 0;have ct1:=(H.blk 1 rfl).Ap 1;have e1:decide (p2<0)=!decide (0≤p2):=by by_cases h:p2<0<;>simp [h]<;>omega
      clear e1;by_cases h1:p2<0
      ·have Nt:Hid (CV ms.length 2 p2 q2=true):=IW Za3;have Lu:Hid (Bu ⟨⟨ds.map Dm.Ac,ms⟩,fa,p0,q0,p1,q1,p2,q2⟩=2):=by show _=_;rw [HV.Ab];show JQ _=2;unfold JQ;rw [Al Nt.Ab]
       go_wp2_with fail;go_ret;rw [Lu.Ab];exact ⟨rfl,H.to⟩
      ·by_cases h2:0<q2
       ·have Nt:Hid (CV ms.length 2 p2 q2=true):=IW Za3;have Lu:Hid (Bu ⟨⟨ds.map Dm.Ac,ms⟩,fa,p0,q0,p1,q1,p2,q2⟩=2):=by show _=_;rw [HV.Ab];show JQ _=2;unfold JQ;rw [Al Nt.Ab]
        go_wp2_with fail;go_ret;rw [Lu.Ab];exact ⟨rfl,H.to⟩
       ·have d1:decide (p2<0)=false:=by simp;omega
        have d2:decide (0<q2)=false:=by simp;omega
        by_cases hin:(mn:Int)≤2
        ·have d1:decide ((mn:Int)≤2)=true:=by simp [hin]
         have hin2:(ms.length:Int)≤2:=by have:=hl2.Ab;omega
         by_cases h3:p2=0
         ·by_cases h4:q2=0
          ·have Nt:Hid (CV ms.length 2 p2 q2=false):=Jy Za3 hin2 (by simp [h3,h4]);clear hin2;have b3:(p2 !=0)=false:=by simp [h3]
           have b4:(q2 !=0)=false:=by simp [h4]
           clear h1 h2 h3 h4;exact Zg7
          ·have Nt:Hid (CV ms.length 2 p2 q2=true):=Jy Za3 hin2 (by simp [h3,h4]);clear hin2;have b3:(p2 !=0)=false:=by simp [h3]
           have b4:(q2 !=0)=true:=by simp [h4]
           clear h1 h2 h3 h4;have Lu:Hid (Bu ⟨⟨ds.map Dm.Ac,ms⟩,fa,p0,q0,p1,q1,p2,q2⟩=2):=by show _=_;rw [HV.Ab];show JQ _=2;unfold JQ;rw [Al Nt.Ab]
           go_wp2_with fail;go_ret;rw [Lu.Ab];exact ⟨rfl,H.to⟩
         ·have Nt:Hid (CV ms.length 2 p2 q2=true):=Jy Za3 hin2 (by simp [h3]);clear hin2;have b3:(p2 !=0)=true:=by simp [h3]
          clear h1 h2 h3;have Lu:Hid (Bu ⟨⟨ds.map Dm.Ac,ms⟩,fa,p0,q0,p1,q1,p2,q2⟩=2):=by show _=_;rw [HV.Ab];show JQ _=2;unfold JQ;rw [Al Nt.Ab]
          go_wp2_with fail;go_ret;rw [Lu.Ab];exact ⟨rfl,H.to⟩
        ·have hin2:¬ (ms.length:Int)≤2:=by have:=hl2.Ab;omega
         have Nt:Hid (CV ms.length 2 p2 q2=false):=NI Za3 hin2;clear hin2;exact Zg7
     ·rw [show ((3:Nat):Int)=3 from rfl];go_wp2_with fail;go_ret;rw [HV.Ab];exact ⟨rfl,H.to⟩
 ·have HV:Hid (Bu ⟨⟨ds.map Dm.Ac,ms⟩,fa,p0,q0,p1,q1,p2,q2⟩=Ay (⟨ds.map Dm.Ac,ms⟩:SC)):=Xj hE;have dE:(Ay (⟨ds.map Dm.Ac,ms⟩:SC)==0)=false:=by simpa using hE
  clear hE;go_wp2_with fail;go_ret;rw [HV.Ab];exact ⟨rfl,H.to⟩
def XH (a b:CC):Bool:=Ld a.sc b.sc && decide (a.fa=b.fa) && decide (a.p0=b.p0∧a.q0=b.q0∧a.p1=b.p1∧a.q1=b.q1∧a.p2=b.p2∧a.q2=b.q2)
theorem Ya (s t:Ct) (w:World) (hs:s.rd w) (ht:t.rd w):
 Calls prog 46 #[.agg s.cs,.agg t.cs] w fun e w'=>e=.returned (.bool (XH s.Ac t.Ac))∧Ai w w':=by
 have HC:=Aa (fun w' (hb:Ai w w')=>oI s.sc t.sc w' (hs.sc.mono hb) (ht.sc.mono hb));have H:=Aa (((SL.start No w).alloc s.cs 63).alloc t.cs 63);(try simp only [LS] at H);have HE:=Aa (Aj8 s.p0 s.q0 s.p1 s.q1 s.p2 s.q2 t.p0 t.q0 t.p1 t.q1 t.p2 t.q2);have HV:Hid (XH s.Ac t.Ac=(Ld s.sc.Ac t.sc.Ac && decide (s.fa=t.fa) && decide (s.p0=t.p0∧s.q0=t.q0∧s.p1=t.p1∧s.q1=t.q1∧s.p2=t.p2∧s.q2=t.q2))):=rfl;generalize XH s.Ac t.Ac=R at *;obtain ⟨bt,hbt⟩:∃ b,decide (s.p0=t.p0∧s.q0=t.q0∧s.p1=t.p1∧s.q1=t.q1∧s.p2=t.p2∧s.q2=t.q2)=b:=⟨_,rfl⟩;obtain ⟨bs,hbs⟩:∃ b,Ld s.sc.Ac t.sc.Ac=b:=⟨_,rfl⟩;rw [hbt] at HE HV;rw [hbs] at HC HV;clear hbt hbs;obtain ⟨⟨⟨A,n,c,ds⟩,⟨MA,mn,mc,ms⟩⟩,fa,p0,q0,p1,q1,p2,q2⟩:=s;obtain ⟨⟨⟨B,m,d,es⟩,⟨MB,mm,md,mt⟩⟩,fb,a0,b0,a1,b1,a2,b2⟩:=t;simp only [Ct.cs,Ej.cs,Ct.Ac,Ej.Ac] at *;clear hs ht;go_enter func46,ntmps46;go_upto_region 1 with fail;generalize w.heap.size+1=y at *;generalize w.heap.size=x at *;generalize World.alloc (World.alloc _ _) _=w1 at *;go_wp2_with (first|((with_reducible refine OP 6 ?_);(refine Af rfl Bb (.tmp 5) rfl x (0) rfl #[.slice A n c,.slice MA mn mc] rfl ((H.blk 0 rfl).part 0 _ rfl) ?_))|((with_reducible refine OP 8 ?_);(refine Af rfl Bb (.tmp 7) rfl y (0) rfl #[.slice B m d,.slice MB mm md] rfl ((H.blk 1 rfl).part 0 _ rfl) ?_)));refine (HC _ H.to).mono ?_;rintro e w2 ⟨rfl,hb2⟩;replace H:=Aa (H.Av hb2);clear hb2 HC;have c2:=(H.blk 0 rfl).Ap 2;have c3:=(H.blk 1 rfl).Ap 2;cases bs with
 |false=>
  have Lu:Hid (R=false):=by show _=_;rw [HV.Ab];(try rfl)
  go_wp2_with fail;go_ret;rw [Lu.Ab];exact ⟨rfl,H.to⟩
 |true=>
  by_cases h1:fa=fb
  ·have Lu:Hid (R=bt):=by show _=_;rw [HV.Ab];simp [h1]
   have h1b:(fa==fb)=true:=by simp [h1]
   clear h1;go_wp2_with (first|((with_reducible refine OP 19 ?_);refine Ov (by first|rfl|go_simp) wI (.tmp 18) (by rfl) x 3 (by rfl) #[.int .i64 p0,.int .i64 q0,.int .i64 p1,.int .i64 q1,.int .i64 p2,.int .i64 q2] rfl ((H.blk 0 rfl).part 3 _ rfl) ?_)|((with_reducible refine OP 21 ?_);refine Ov (by first|rfl|go_simp) wI (.tmp 20) (by rfl) y 3 (by rfl) #[.int .i64 a0,.int .i64 b0,.int .i64 a1,.int .i64 b1,.int .i64 a2,.int .i64 b2] rfl ((H.blk 1 rfl).part 3 _ rfl) ?_)|((with_reducible refine OP 22 ?_);refine Jo (by first|rfl|go_simp) .eql 61 61 (.tmp 19) (.tmp 21) (by rfl) (by rfl) (by rfl) xZ (HE _) ?_));go_ret;rw [Lu.Ab];exact ⟨rfl,H.to⟩
  ·have Lu:Hid (R=false):=by show _=_;rw [HV.Ab];simp [h1]
   have h1b:(fa==fb)=false:=by simp [h1]
   clear h1;go_wp2_with fail;go_ret;rw [Lu.Ab];exact ⟨rfl,H.to⟩
theorem K6 (a b:CC):XH a b=true↔a=b:=by
 unfold XH;obtain ⟨s,f,x0,y0,x1,y1,x2,y2⟩:=a;obtain ⟨t,g,u0,v0,u1,v1,u2,v2⟩:=b;simp only [Vj,Rb,CC.mk.injEq,K5,and_assoc]
theorem GH {s:Ej} {w:World} (h:UX s w):C9 s:=⟨by have:=h.dn;omega,by have:=h.mn;omega,h.small⟩
theorem Sw:C9 Ej.nil:=⟨by show (0:Nat)≤_;omega,by show (0:Nat)≤_;omega,fun d hd=>by cases hd⟩
def Wo (o:CC × Int) (w:World) (e:Ending) (w':World):Prop:=
 ∃ D:Ct,e=.returned (.tuple #[.agg D.cs,.int .i64 o.2])∧D.Ac=o.1∧D.rd w'∧C9 D.sc∧Ai w w'∧UY w w' (Kj D.sc)
theorem Da {k:Int} {w w':World} (hb:Ai w w'):Wo (CC.nil,k) w (.returned (.tuple #[.agg #[.slice none 0 0,.slice none 0 0,.int .i64 0,.int .i64 0,.int .i64 0,.int .i64 0,.int .i64 0,.int .i64 0,.int .i64 0],.int .i64 k])) w':=⟨Ct.nil,rfl,rfl,NF w',Sw,hb,Ko w',Mv⟩
def dI (s:SC):CC × Int:=if Ay s≠0 then (CC.nil,Ay s) else (⟨s,0,0,0,0,0,0,0⟩,0)
theorem Zb9 {p:Prop} (h:p:=by simp [hE]):p:=h
theorem tN (s:Ej) (w:World) (hs:s.rd w) (hm:C9 s):
 Calls prog 57 #[.agg s.cs] w (Wo (dI s.Ac) w):=by
 have HC:=Aa (fun w' (hb:Ai w w')=>GJ s w' (hs.mono hb) hm.1 hm.2.1 hm.2.2);have HK:=Aa (fun hE w' (hb:Ai w w')=>VY s w' (hs.mono hb) hE);have H:=Aa (((SL.start No w).alloc s.cs 25).alloc #[.slice none 0 0,.slice none 0 0,.int .i64 0,.int .i64 0,.int .i64 0,.int .i64 0,.int .i64 0,.int .i64 0,.int .i64 0] 63);(try simp only [LS] at H);generalize hO:dI s.Ac=O;have HO:=Aa hO;clear hO;obtain ⟨⟨A,n,c,ds⟩,⟨MA,mn,mc,ms⟩⟩:=s;simp only [Ej.cs,Ej.Ac] at *;clear hs hm;go_enter func57,ntmps57;go_upto_region 1 with fail;generalize w.heap.size+1=y at *;generalize w.heap.size=x at *;generalize World.alloc (World.alloc _ _) _=w1 at *;go_wp2_with ((with_reducible refine OP 5 ?_);(refine Bf Bb (H.blk 0 rfl) ?_));refine (HC _ H.to).mono ?_;rintro e w2 ⟨rfl,hb2⟩;replace H:=Aa (H.Av hb2);clear hb2 HC;by_cases hE:Ay (⟨ds.map Dm.Ac,ms⟩:SC)=0
 ·have HK2:=Aa (HK hE);have dY:Hid ((⟨⟨ds.map Dm.Ac,ms⟩,0,0,0,0,0,0,0⟩,0)=O):=by have h:=HO.Ab;unfold dI at h;rw [Ak Zb9] at h;exact h
  rw [hE];clear hE HK HO;go_wp2_with ((with_reducible refine OP 11 ?_);(refine Bf Bb (H.blk 0 rfl) ?_));refine (HK2 _ H.to).mono ?_;rintro e w3 ⟨D,rfl,hD,hb3,hN⟩;replace H:=Aa (H.add hb3 _ hN.1 hN.2);(try simp only [LS] at H);have HDC:=Aa hD;clear hN hD HK2;obtain ⟨⟨B,m,d,es⟩,⟨MB,mm,md,mt⟩⟩:=D;simp only [Ej.cs,Ej.Ac] at *;have hbd:∀ w:World,(Instr.build 63 #[(0,.agg #[.slice B m d,.slice MB mm md])]).run prog w=.ok (.agg #[.slice B m d,.slice MB mm md,.int .i64 0,.int .i64 0,.int .i64 0,.int .i64 0,.int .i64 0,.int .i64 0,.int .i64 0]) w:=fun _=>by kernel_rfl
  go_wp2_with (first|((with_reducible refine OP 13 ?_);refine Bv (vx:=.agg #[.slice B m d,.slice MB mm md]) (v:=.agg #[.slice B m d,.slice MB mm md,.int .i64 0,.int .i64 0,.int .i64 0,.int .i64 0,.int .i64 0,.int .i64 0,.int .i64 0]) rfl (.tmp 12) rfl rfl hbd ?_)|((with_reducible refine OS 2 ?_);(refine Cj BI H 1 rfl (#[.slice B m d,.slice MB mm md,.int .i64 0,.int .i64 0,.int .i64 0,.int .i64 0,.int .i64 0,.int .i64 0,.int .i64 0]) Za2 ?_;clear H;intro wq H;(try simp only [LS] at H))));refine Bc (Au rfl BI rfl (H.blk 1 rfl) rfl) rfl ?_;rw [←dY.Ab];exact ⟨⟨⟨⟨B,m,d,es⟩,⟨MB,mm,md,mt⟩⟩,0,0,0,0,0,0,0⟩,rfl,CW (fun s=>(⟨s,0,0,0,0,0,0,0⟩:CC)) HDC.Ab,⟨(H.at_ 2 rfl).rd,BN,BN,BN,BN,BN,BN,BN⟩,GH (H.at_ 2 rfl),H.to,H.get 2 rfl,H.new 2 rfl⟩
 ·have dY:Hid ((CC.nil,Ay (⟨ds.map Dm.Ac,ms⟩:SC))=O):=by have h:=HO.Ab;unfold dI at h;rw [Al hE] at h;exact h
  have dE:(Ay (⟨ds.map Dm.Ac,ms⟩:SC)==0)=false:=by simpa using hE
  clear hE HK HO;go_wp2_with ((with_reducible refine OS 2 ?_);(refine Cj BI H 1 rfl (#[.slice none 0 0,.slice none 0 0,.int .i64 0,.int .i64 0,.int .i64 0,.int .i64 0,.int .i64 0,.int .i64 0,.int .i64 0]) Za2 ?_;clear H;intro wq H;(try simp only [LS] at H)));refine Bc (Au rfl BI rfl (H.blk 1 rfl) rfl) rfl ?_;rw [←dY.Ab];exact Da H.to
def BO (p q v:Int):(Int × Int) × Bool:=if v<0 then (if (Cu q v).2 then (p,(Cu q v).1) else (0,0),(Cu q v).2) else (if (Cu p v).2 then ((Cu p v).1,q) else (0,0),(Cu p v).2)
theorem JI (p q v:Int) (w:World) (hp:AZ p) (hq:AZ q) (hv:AZ v):
 Calls prog 98 #[.agg #[.int .i64 p,.int .i64 q],.int .i64 v] w fun e w'=>e=.returned (.tuple #[.agg #[.int .i64 (BO p q v).1.1,.int .i64 (BO p q v).1.2],.bool (BO p q v).2])∧Ai w w':=by
 have H:=Aa (((SL.start No w).alloc #[.int .i64 p,.int .i64 q] 60).alloc #[.int .i64 0,.int .i64 0] 60);(try simp only [LS] at H);go_enter func98,ntmps98;go_upto_region 2 with fail;generalize w.heap.size+1=y at *;generalize w.heap.size=x at *;generalize World.alloc (World.alloc _ _) _=w1 at *;by_cases h:v<0
 ·have dY:Hid ((if (Cu q v).2 then (p,(Cu q v).1) else (0,0),(Cu q v).2)=BO p q v):=by show _=_;unfold BO;rw [Al h]
  have HX:=Aa (fun w=>Wi q v w hq hv);generalize (Cu q v)=X at *;obtain ⟨r,ok⟩:=X;simp only at HX dY;have c0:=(H.blk 0 rfl).Ap 1;have f0:=(H.blk 0 rfl).frozen 1;go_wp2_with fail;refine (HX _).mono ?_;rintro e w2 ⟨rfl,rfl⟩;cases ok with
  |true=>
   go_wp2_with (first|((with_reducible refine OP 28 ?_);(replace H:=Aa (H.setCell 0 rfl 1 (.int .i64 r));(try simp only [LS] at H);clear c0 f0;refine Bf CO (H.blk 0 rfl) ?_))|((with_reducible refine OS 4 ?_);(refine Cj CO H 1 rfl (#[.int .i64 p,.int .i64 r]) Za2 ?_;clear H;intro wq H;(try simp only [LS] at H))));refine Bc (Au rfl CO rfl (H.blk 1 rfl) rfl) rfl ?_;rw [←dY.Ab];exact ⟨rfl,H.to⟩
  |false=>
   go_wp2_with ((with_reducible refine OS 4 ?_);(replace H:=Aa (H.setCell 0 rfl 1 (.int .i64 r));(try simp only [LS] at H);clear c0 f0;refine Cj CO H 1 rfl (#[.int .i64 0,.int .i64 0]) Za2 ?_;clear H;intro wq H;(try simp only [LS] at H)));refine Bc (Au rfl CO rfl (H.blk 1 rfl) rfl) rfl ?_;rw [←dY.Ab];exact ⟨rfl,H.to⟩
 ·have dY:Hid ((if (Cu p v).2 then ((Cu p v).1,q) else (0,0),(Cu p v).2)=BO p q v):=by show _=_;unfold BO;rw [Ak h]
  have HX:=Aa (fun w=>Wi p v w hp hv);generalize (Cu p v)=X at *;obtain ⟨r,ok⟩:=X;simp only at HX dY;have c0:=(H.blk 0 rfl).Ap 0;have f0:=(H.blk 0 rfl).frozen 0;go_wp2_with fail;refine (HX _).mono ?_;rintro e w2 ⟨rfl,rfl⟩;cases ok with
  |true=>
   go_wp2_with (first|((with_reducible refine OP 28 ?_);(replace H:=Aa (H.setCell 0 rfl 0 (.int .i64 r));(try simp only [LS] at H);clear c0 f0;refine Bf CO (H.blk 0 rfl) ?_))|((with_reducible refine OS 4 ?_);(refine Cj CO H 1 rfl (#[.int .i64 r,.int .i64 q]) Za2 ?_;clear H;intro wq H;(try simp only [LS] at H))));refine Bc (Au rfl CO rfl (H.blk 1 rfl) rfl) rfl ?_;rw [←dY.Ab];exact ⟨rfl,H.to⟩
  |false=>
   go_wp2_with ((with_reducible refine OS 4 ?_);(replace H:=Aa (H.setCell 0 rfl 0 (.int .i64 r));(try simp only [LS] at H);clear c0 f0;refine Cj CO H 1 rfl (#[.int .i64 0,.int .i64 0]) Za2 ?_;clear H;intro wq H;(try simp only [LS] at H)));refine Bc (Au rfl CO rfl (H.blk 1 rfl) rfl) rfl ?_;rw [←dY.Ab];exact ⟨rfl,H.to⟩
theorem Bp {α:Type} {l:List α} {k:Nat} {a:α} (h:l[k]?=some a):l.drop k=a::l.drop (k+1):=by
 obtain ⟨h1,rfl⟩:=CB.1 h;exact Eg h1
theorem Mo {a b:Int}:AZ (Cu a b).1:=by
 unfold Cu Uf;split
 ·assumption
 ·exact BN
theorem JH {p q v:Int} (hp:AZ p) (hq:AZ q):AZ (BO p q v).1.1∧AZ (BO p q v).1.2:=by
 unfold BO;split
 ·simp only;split
  ·exact ⟨hp,Mo⟩
  ·exact ⟨BN,BN⟩
 ·simp only;split
  ·exact ⟨Mo,hq⟩
  ·exact ⟨BN,BN⟩
def Lm (c:CC) (i:Nat) (v:Int):CC × Bool:=
 if i=0 then (let g:=BO c.p0 c.q0 v;(⟨c.sc,c.fa,g.1.1,g.1.2,c.p1,c.q1,c.p2,c.q2⟩,g.2))
 else if i=1 then (let g:=BO c.p1 c.q1 v;(⟨c.sc,c.fa,c.p0,c.q0,g.1.1,g.1.2,c.p2,c.q2⟩,g.2))
 else (let g:=BO c.p2 c.q2 v;(⟨c.sc,c.fa,c.p0,c.q0,c.p1,c.q1,g.1.1,g.1.2⟩,g.2))
def DZ (c:CC) (i:Nat):List Int→Option CC
 |[]=>some c
 |v::l=>if (Lm c i v).2 then DZ (Lm c i v).1 (i+1) l else none
def EG (m:Nat) (c:CC):List (List Int)→CC × Int
 |[]=>(c,0)
 |r::l=>if r.length≠m then (CC.nil,2) else match DZ c 0 r with
  |none=>(CC.nil,12)
  |some d=>EG m d l
def Xh (n:Nat) (o:CC × Int):CC × Int:=if o.2=0 then (⟨o.1.sc,o.1.fa+n,o.1.p0,o.1.q0,o.1.p1,o.1.q1,o.1.p2,o.1.q2⟩,0) else o
def Fx (c:CC) (rows:List (List Int)):CC × Int:=
 if Bu c≠0 then (CC.nil,Bu c)
 else if 4000<c.fa+rows.length then (CC.nil,6)
 else Xh rows.length (EG c.sc.ms.length c rows)
theorem MM {c:CC} (h:Bu c=0):Ay c.sc=0∧0≤c.fa∧c.fa≤4000:=by
 unfold Bu at h;split at h
 ·rename_i h1;exact absurd h h1
 ·rename_i h1;split at h
  ·cases h
  ·rename_i h2;exact ⟨by simpa using h1,Xl,Xl⟩
theorem PG {m:Nat} {c:CC} {r:List Int} {l:List (List Int)} (h:r.length≠m):EG m c (r::l)=(CC.nil,2):=by rw [EG,Al h]
theorem Ew {m:Nat} {c:CC} {r:List Int} {l:List (List Int)} (h:r.length=m) (h2:DZ c 0 r=none):EG m c (r::l)=(CC.nil,12):=by rw [EG,Ak (by simp [h]),h2]
theorem Sg {m:Nat} {c d:CC} {r:List Int} {l:List (List Int)} (h:r.length=m) (h2:DZ c 0 r=some d):EG m c (r::l)=EG m d l:=by rw [EG,Ak (by simp [h]),h2]
theorem Fq {c:CC} {i:Nat} {v:Int} {l:List Int} (h:(Lm c i v).2=true):DZ c i (v::l)=DZ (Lm c i v).1 (i+1) l:=by rw [DZ,Al h]
theorem Fs {c:CC} {i:Nat} {v:Int} {l:List Int} (h:(Lm c i v).2=false):DZ c i (v::l)=none:=by rw [DZ,Ak (by simp [h])]
def QR (c:CC):List (Int × Int):=[(c.p0,c.q0),(c.p1,c.q1),(c.p2,c.q2)]
def JU (t:Int × Int):List UInt8:=Cx (FV t.1)++Cx (FV t.2)
def Qx (c:CC):List UInt8:=Gh c.sc++Cx c.fa.toNat++((QR c).take c.sc.ms.length).flatMap JU
def OM (c:CC):List UInt8 × Int:=if Bu c=0 then (Qx c,0) else ([],Bu c)
theorem len3:prog.arrayLen 61=3:=by kernel_rfl
theorem slice3 (a:Addr) (s:Nat) (hs:s≤3) (W:World):(Instr.sliceAt 61 (.pointer (some a)) none (some (.int .i64 s)) none).run prog W=.ok (.slice (some a) s 3) W:=by
 have hz:∀ w,(sizeOf (prog.elem 61)).run prog w=.ok 2 w:=fun _=>by kernel_rfl
 rw [run_sliceAt_array_h W 61 a Za0 .i64 s Xl (by rw [len3];omega),hz];simp [len3,slicedAt,Addr.add]
theorem yR (s:Ct) (w:World) (hs:s.rd w) (hm:C9 s.sc):
 Calls prog 81 #[.agg s.cs] w fun e w'=>e=.returned (.tuple #[.string ⟨(OM s.Ac).1.toArray⟩,.int .i64 (OM s.Ac).2])∧Ai w w':=by
 have HC:=Aa (fun w' (hb:Ai w w')=>Qw s w' (hs.mono hb) hm);have HP:=Aa (fun w' (hb:Ai w w')=>wD s.sc w' (hs.sc.mono hb) hm.1 hm.2.1 hm.2.2);have HI:Hid (AZ s.p0∧AZ s.q0∧AZ s.p1∧AZ s.q1∧AZ s.p2∧AZ s.q2):=⟨hs.p0,hs.q0,hs.p1,hs.q1,hs.p2,hs.q2⟩;have WZ:Hid (s.sc.ms.l.length=s.sc.ms.n):=hs.sc.ms.len;have H:=Aa ((SL.start No w).alloc s.cs 63);(try simp only [LS] at H);have hfa:=hs.fa;unfold AZ at hfa;obtain ⟨⟨⟨A,n,c,ds⟩,⟨MA,mn,mc,ms⟩⟩,fa,p0,q0,p1,q1,p2,q2⟩:=s;simp only [Ct.cs,Ej.cs,Ct.Ac,Ej.Ac] at *;obtain ⟨f1,f2⟩:=hfa;clear hs hm;go_enter func81,ntmps81;go_upto_region 1 with fail;generalize w.heap.size=x at *;generalize World.alloc _ _=w1 at *;go_wp2_with ((with_reducible refine OP 9 ?_);(refine Bf BI (H.blk 0 rfl) ?_));refine (HC _ H.to).mono ?_;rintro e w2 ⟨rfl,hb2⟩;replace H:=Aa (H.Av hb2);clear hb2 HC;by_cases hE:Bu ⟨⟨ds.map Dm.Ac,ms⟩,fa,p0,q0,p1,q1,p2,q2⟩=0
 ·obtain ⟨g1,g2,g3⟩:=MM hE;have Y0:mn≤3:=by have h:ms.length≤3:=(BH g1).2.2.2.2.1;have:=WZ.Ab;omega
  simp only at g1 g2 g3;have HV:Hid (OM ⟨⟨ds.map Dm.Ac,ms⟩,fa,p0,q0,p1,q1,p2,q2⟩=(Gh ⟨ds.map Dm.Ac,ms⟩++Cx fa.toNat++((QR ⟨⟨ds.map Dm.Ac,ms⟩,fa,p0,q0,p1,q1,p2,q2⟩).take mn).flatMap JU,0)):=by show _=_;unfold OM;rw [Al hE,←WZ.Ab];(try rfl)
  have HPV:Ox ⟨ds.map Dm.Ac,ms⟩=(Gh ⟨ds.map Dm.Ac,ms⟩,0):=by unfold Ox;rw [Al g1]
  rw [HPV] at HP;rw [hE];clear hE HPV;have hX:(Gh (⟨ds.map Dm.Ac,ms⟩:SC)).length≤900000:=Uh g1;generalize Gh (⟨ds.map Dm.Ac,ms⟩:SC)=X at *;go_wp2_with ((with_reducible refine OP 16 ?_);(refine Af rfl Bb (.tmp 15) rfl x (0) rfl #[.slice A n c,.slice MA mn mc] rfl ((H.blk 0 rfl).part 0 _ rfl) ?_));refine (HP _ H.to).mono ?_;rintro e w3 ⟨rfl,hb3⟩;replace H:=Aa (H.Av hb3);clear hb3 HP;clear g1;have hF:=Cc fa.toNat;have c2:=(H.blk 0 rfl).Ap 2;go_wp2_with fail;refine (Jt fa _ Xl Xl).mono ?_;rintro e w4 ⟨rfl,hb4⟩;replace H:=Aa (H.Av hb4);clear hb4 c2;have c1:=(H.blk 0 rfl).Ap 1;have sl:=slice3 ⟨x,3,none⟩ mn Y0;go_wp2_with fail;rw [Ch];clear c1 sl;have hY:(X++Cx fa.toNat).length≤900010:=by rw [Cn];omega
  clear hF hX;generalize X++Cx fa.toNat=Y at *;have HY:Hid (Y=Y++((QR ⟨⟨ds.map Dm.Ac,ms⟩,fa,p0,q0,p1,q1,p2,q2⟩).take 0).flatMap JU):=by show _=_;simp
  go_loopg [5,32] mn (fun gg v i wr=>∃ (k:Nat) (l:List UInt8),gg=mn - k∧k≤mn∧v=.string ⟨l.toArray⟩∧i=.int .i64 k∧l.length≤900010+20 * k∧Hid (l=Y++((QR ⟨⟨ds.map Dm.Ac,ms⟩,fa,p0,q0,p1,q1,p2,q2⟩).take k).flatMap JU)∧Hid (SL No w wr [Aw x 63 #[.slice A n c,.slice MA mn mc,.int .i64 fa,.int .i64 p0,.int .i64 q0,.int .i64 p1,.int .i64 q1,.int .i64 p2,.int .i64 q2]]));case atStart=>exact ⟨0,Y,rfl,Xl,rfl,rfl,Xl,HY,H⟩
  case round=>
   clear H HY hY;obtain ⟨k,l,BR,hk,rfl,rfl,hl,HY,H⟩:=hrel;have Cs:=Aa BR;clear BR;by_cases hlt:k<mn
   ·have j1:(k:Int)<mn:=by omega
    obtain rfl|rfl|rfl:k=0∨k=1∨k=2:=by omega
    ·rw [show ((0:Nat):Int)=0 from rfl] at j1 ⊢;have la:=Cc (FV p0);have lb:=Cc (FV q0);have HN:Hid (l++(Cx (FV p0)++Cx (FV q0))=Y++((QR ⟨⟨ds.map Dm.Ac,ms⟩,fa,p0,q0,p1,q1,p2,q2⟩).take (0+1)).flatMap JU):=by show _=_;rw [HY.Ab];simp [QR,JU]
     go_upto_region 9 with (first|((with_reducible refine OP 35 ?_);(refine Af rfl CO (.tmp 34) rfl x (3) rfl #[.int .i64 p0,.int .i64 q0] rfl ((H.blk 0 rfl).part 3 _ rfl) ?_))|((with_reducible refine OS 8 ?_);(refine DX CO (#[.int .i64 p0,.int .i64 q0]) Za2 ?_;replace H:=Aa (H.alloc (#[.int .i64 p0,.int .i64 q0]) 60);(try simp only [LS] at H))));(try simp only [Act.put,LP]);generalize wr.heap.size=z at *;generalize World.alloc wr _=w5 at *;have ct0:=(H.blk 1 rfl).Ap 0;have ct1:=(H.blk 1 rfl).Ap 1;have sQ:=fun u:Over w5=>Over.cell ct0 u
     have sP:=fun u:Over w5=>Over.cell ct1 u
     refine Am ?_;(try simp only [Act.put,LP]);repeat (go_big_quiet_step ((first|(go_at_call 124;rename_i u;exact AB (KO p0 _ HI.1.1 HI.1.2))|(go_at_call 124;rename_i u;exact AB (KO q0 _ HI.2.1.1 HI.2.1.2)))))
     refine CS ?_;rintro w5 ⟨⟨_,Gd⟩,rfl⟩;(try dsimp only);replace H:=Aa (H.Av Gd);clear sQ sP ct0 ct1;replace H:=Aa (H.Fg [0] Za1 uH);(try simp only [LS] at H);rw [Ch,Ch];go_wp2_with fail;go_roundg (mn - (0+1));case rel=>exact ⟨0+1,_,rfl,Xl,rfl,rfl,by simp only [Cn];omega,HN,H⟩
     case measure=>rw [Cs.Ab];omega
    ·rw [show ((1:Nat):Int)=1 from rfl] at j1 ⊢;have la:=Cc (FV p1);have lb:=Cc (FV q1);have HN:Hid (l++(Cx (FV p1)++Cx (FV q1))=Y++((QR ⟨⟨ds.map Dm.Ac,ms⟩,fa,p0,q0,p1,q1,p2,q2⟩).take (1+1)).flatMap JU):=by show _=_;rw [HY.Ab];simp [QR,JU]
     go_upto_region 9 with (first|((with_reducible refine OP 35 ?_);(refine Af rfl CO (.tmp 34) rfl x (5) rfl #[.int .i64 p1,.int .i64 q1] rfl ((H.blk 0 rfl).part 5 _ rfl) ?_))|((with_reducible refine OS 8 ?_);(refine DX CO (#[.int .i64 p1,.int .i64 q1]) Za2 ?_;replace H:=Aa (H.alloc (#[.int .i64 p1,.int .i64 q1]) 60);(try simp only [LS] at H))));(try simp only [Act.put,LP]);generalize wr.heap.size=z at *;generalize World.alloc wr _=w5 at *;have ct0:=(H.blk 1 rfl).Ap 0;have ct1:=(H.blk 1 rfl).Ap 1;have sQ:=fun u:Over w5=>Over.cell ct0 u
     have sP:=fun u:Over w5=>Over.cell ct1 u
     refine Am ?_;(try simp only [Act.put,LP]);repeat (go_big_quiet_step ((first|(go_at_call 124;rename_i u;exact AB (KO p1 _ HI.2.2.1.1 HI.2.2.1.2))|(go_at_call 124;rename_i u;exact AB (KO q1 _ HI.2.2.2.1.1 HI.2.2.2.1.2)))))
     refine CS ?_;rintro w5 ⟨⟨_,Gd⟩,rfl⟩;(try dsimp only);replace H:=Aa (H.Av Gd);clear sQ sP ct0 ct1;replace H:=Aa (H.Fg [0] Za1 uH);(try simp only [LS] at H);rw [Ch,Ch];go_wp2_with fail;go_roundg (mn - (1+1));case rel=>exact ⟨1+1,_,rfl,Xl,rfl,rfl,by simp only [Cn];omega,HN,H⟩
     case measure=>rw [Cs.Ab];omega
    ·rw [show ((2:Nat):Int)=2 from rfl] at j1 ⊢;have la:=Cc (FV p2);have lb:=Cc (FV q2);have HN:Hid (l++(Cx (FV p2)++Cx (FV q2))=Y++((QR ⟨⟨ds.map Dm.Ac,ms⟩,fa,p0,q0,p1,q1,p2,q2⟩).take (2+1)).flatMap JU):=by show _=_;rw [HY.Ab];simp [QR,JU]
     go_upto_region 9 with (first|((with_reducible refine OP 35 ?_);(refine Af rfl CO (.tmp 34) rfl x (7) rfl #[.int .i64 p2,.int .i64 q2] rfl ((H.blk 0 rfl).part 7 _ rfl) ?_))|((with_reducible refine OS 8 ?_);(refine DX CO (#[.int .i64 p2,.int .i64 q2]) Za2 ?_;replace H:=Aa (H.alloc (#[.int .i64 p2,.int .i64 q2]) 60);(try simp only [LS] at H))));(try simp only [Act.put,LP]);generalize wr.heap.size=z at *;generalize World.alloc wr _=w5 at *;have ct0:=(H.blk 1 rfl).Ap 0;have ct1:=(H.blk 1 rfl).Ap 1;have sQ:=fun u:Over w5=>Over.cell ct0 u
     have sP:=fun u:Over w5=>Over.cell ct1 u
     refine Am ?_;(try simp only [Act.put,LP]);repeat (go_big_quiet_step ((first|(go_at_call 124;rename_i u;exact AB (KO p2 _ HI.2.2.2.2.1.1 HI.2.2.2.2.1.2))|(go_at_call 124;rename_i u;exact AB (KO q2 _ HI.2.2.2.2.2.1 HI.2.2.2.2.2.2)))))
     refine CS ?_;rintro w5 ⟨⟨_,Gd⟩,rfl⟩;(try dsimp only);replace H:=Aa (H.Av Gd);clear sQ sP ct0 ct1;replace H:=Aa (H.Fg [0] Za1 uH);(try simp only [LS] at H);rw [Ch,Ch];go_wp2_with fail;go_roundg (mn - (2+1));case rel=>exact ⟨2+1,_,rfl,Xl,rfl,rfl,by simp only [Cn];omega,HN,H⟩
     case measure=>rw [Cs.Ab];omega
   ·obtain rfl:k=mn:=by omega
    rw [←HY.Ab] at HV;go_wp2_with fail;go_ret2;rw [HV.Ab];exact ⟨rfl,H.to⟩
 ·have HV:Hid (OM ⟨⟨ds.map Dm.Ac,ms⟩,fa,p0,q0,p1,q1,p2,q2⟩=([],Bu ⟨⟨ds.map Dm.Ac,ms⟩,fa,p0,q0,p1,q1,p2,q2⟩)):=by show _=_;unfold OM;rw [Ak hE]
  have dE:(Bu ⟨⟨ds.map Dm.Ac,ms⟩,fa,p0,q0,p1,q1,p2,q2⟩==0)=false:=by simpa using hE
  generalize Bu ⟨⟨ds.map Dm.Ac,ms⟩,fa,p0,q0,p1,q1,p2,q2⟩=E at *;clear HP;go_wp2_with fail;go_ret2;rw [HV.Ab];exact ⟨rfl,H.to⟩
def Vd (c:CC):Prop:=AZ c.p0∧AZ c.q0∧AZ c.p1∧AZ c.q1∧AZ c.p2∧AZ c.q2
instance (c:CC):Decidable (Vd c):=by unfold Vd;infer_instance
def Yu (c:CC) (a b z:Int):CC:=⟨c.sc,c.fa,c.p0+max a 0,c.q0+min a 0,c.p1+max b 0,c.q1+min b 0,c.p2+max z 0,c.q2+min z 0⟩
def JL (c:CC) (r:List Int):CC:=Yu c (r.getD 0 0) (r.getD 1 0) (r.getD 2 0)
theorem Z9 {p q v:Int} (hp:AZ p) (hq:AZ q):((BO p q v).2=true↔AZ (p+max v 0)∧AZ (q+min v 0))∧((BO p q v).2=true→(BO p q v).1=(p+max v 0,q+min v 0)):=by
 unfold BO Cu Uf;by_cases h:v<0
 ·rw [Al h,show max v 0=0 by omega,show min v 0=v by omega,Int.add_zero];by_cases hf:AZ (q+v)
  ·rw [Al hf];exact ⟨⟨fun _=>⟨hp,hf⟩,fun _=>rfl⟩,fun _=>rfl⟩
  ·rw [Ak hf];exact ⟨⟨fun h=>(by cases h),fun h=>absurd h.2 hf⟩,fun h=>by cases h⟩
 ·rw [Ak h,show max v 0=v by omega,show min v 0=0 by omega,Int.add_zero];by_cases hf:AZ (p+v)
  ·rw [Al hf];exact ⟨⟨fun _=>⟨hf,hq⟩,fun _=>rfl⟩,fun _=>rfl⟩
  ·rw [Ak hf];exact ⟨⟨fun h=>(by cases h),fun h=>absurd h.1 hf⟩,fun h=>by cases h⟩
theorem SX {p q v:Int} (hp:AZ p) (hq:AZ q):BO p q v=((p+max v 0,q+min v 0),true)∧AZ (p+max v 0)∧AZ (q+min v 0)∨(BO p q v).2=false∧¬ (AZ (p+max v 0)∧AZ (q+min v 0)):=by
 obtain ⟨h1,h2⟩:=Z9 (v:=v) hp hq;cases hb:(BO p q v).2
 ·right;exact ⟨rfl,fun h=>by have:=h1.2 h;rw [hb] at this;cases this⟩
 ·left;have h3:=h1.1 hb;exact ⟨Prod.ext (h2 hb) hb,h3.1,h3.2⟩
theorem add0 (x:Int):x+max 0 0=x:=by omega
theorem dW (x:Int):x+min 0 0=x:=by omega
theorem Aj9 {c:CC} (hc:Vd c) {r:List Int} (h3:r.length≤3):DZ c 0 r=if Vd (JL c r) then some (JL c r) else none:=by
 obtain ⟨h0,g0,h1,g1,h2,g2⟩:=hc
 match r,h3 with
 |[],_=>
  rw [DZ,Al (show Vd (JL c []) by unfold JL Yu Vd;simp only [List.getD_nil,add0,dW];exact ⟨h0,g0,h1,g1,h2,g2⟩)];unfold JL Yu;simp only [List.getD_nil,add0,dW]
 |[a],_=>
  have e:JL c [a]=⟨c.sc,c.fa,c.p0+max a 0,c.q0+min a 0,c.p1,c.q1,c.p2,c.q2⟩:=by unfold JL Yu;simp [add0,dW]
  rw [DZ,DZ,e];unfold Lm;rw [Al rfl];rcases SX (v:=a) h0 g0 with ⟨h,i1,i2⟩|⟨h,hn⟩
  ·rw [Al (show Vd ⟨_,_,_,_,_,_,_,_⟩ from ⟨i1,i2,h1,g1,h2,g2⟩)];simp only [h,Gu]
  ·rw [Ak (show ¬ Vd ⟨_,_,_,_,_,_,_,_⟩ from fun hk=>hn ⟨hk.1,hk.2.1⟩)];simp only [h]
   rfl
 |[a,b],_=>
  have e:JL c [a,b]=⟨c.sc,c.fa,c.p0+max a 0,c.q0+min a 0,c.p1+max b 0,c.q1+min b 0,c.p2,c.q2⟩:=by unfold JL Yu;simp [add0,dW]
  rw [DZ,DZ,DZ,e];unfold Lm;simp only [Gu,FI,Nat.one_ne_zero,if_false];rcases SX (v:=a) h0 g0 with ⟨h,i1,i2⟩|⟨h,hn⟩
  ·rcases SX (v:=b) h1 g1 with ⟨h',j1,j2⟩|⟨h',hn'⟩
   ·rw [Al (show Vd ⟨_,_,_,_,_,_,_,_⟩ from ⟨i1,i2,j1,j2,h2,g2⟩)];simp only [h,h',Gu]
   ·rw [Ak (show ¬ Vd ⟨_,_,_,_,_,_,_,_⟩ from fun hk=>hn' ⟨hk.2.2.1,hk.2.2.2.1⟩)];simp only [h,h',Gu]
    rfl
  ·rw [Ak (show ¬ Vd ⟨_,_,_,_,_,_,_,_⟩ from fun hk=>hn ⟨hk.1,hk.2.1⟩)];simp only [h]
   rfl
 |[a,b,z],_=>
  rw [DZ,DZ,DZ,DZ,show JL c [a,b,z]=Yu c a b z from rfl];unfold Lm Yu;simp only [Gu,FI,Nat.one_ne_zero,if_false];rcases SX (v:=a) h0 g0 with ⟨h,i1,i2⟩|⟨h,hn⟩
  ·rcases SX (v:=b) h1 g1 with ⟨h',j1,j2⟩|⟨h',hn'⟩
   ·rcases SX (v:=z) h2 g2 with ⟨h'',k1,k2⟩|⟨h'',hn''⟩
    ·rw [Al (show Vd ⟨_,_,_,_,_,_,_,_⟩ from ⟨i1,i2,j1,j2,k1,k2⟩)];simp [h,h',h'']
    ·rw [Ak (show ¬ Vd ⟨_,_,_,_,_,_,_,_⟩ from fun hk=>hn'' ⟨hk.2.2.2.2.1,hk.2.2.2.2.2⟩)];simp [h,h',h'']
   ·rw [Ak (show ¬ Vd ⟨_,_,_,_,_,_,_,_⟩ from fun hk=>hn' ⟨hk.2.2.1,hk.2.2.2.1⟩)];simp [h,h']
  ·rw [Ak (show ¬ Vd ⟨_,_,_,_,_,_,_,_⟩ from fun hk=>hn ⟨hk.1,hk.2.1⟩)];simp [h]
def Dl (c:CC) (l:List (List Int)):CC:=l.foldl JL c
theorem A7 (c:CC) (r:List Int):(JL c r).sc=c.sc∧(JL c r).fa=c.fa∧c.p0≤(JL c r).p0∧(JL c r).q0≤c.q0∧c.p1≤(JL c r).p1∧(JL c r).q1≤c.q1∧c.p2≤(JL c r).p2∧(JL c r).q2≤c.q2:=by
 unfold JL Yu;exact ⟨rfl,rfl,by simp only;omega,by simp only;omega,by simp only;omega,by simp only;omega,by simp only;omega,by simp only;omega⟩
theorem dU (l:List (List Int)):∀ c:CC,(Dl c l).sc=c.sc∧(Dl c l).fa=c.fa∧c.p0≤(Dl c l).p0∧(Dl c l).q0≤c.q0∧c.p1≤(Dl c l).p1∧(Dl c l).q1≤c.q1∧c.p2≤(Dl c l).p2∧(Dl c l).q2≤c.q2:=by
 induction l with
 |nil=>intro c;exact ⟨rfl,rfl,Oq _,Oq _,Oq _,Oq _,Oq _,Oq _⟩
 |cons r l ih=>
  intro c;have h1:=A7 c r;have h2:=ih (JL c r);have e:Dl c (r::l)=Dl (JL c r) l:=rfl;rw [e];exact ⟨h2.1.trans h1.1,h2.2.1.trans h1.2.1,Xl,Xl,Xl,Xl,Xl,Xl⟩
theorem Ag4 {c d:CC} (hc:Vd c) (h:c.p0≤d.p0∧d.q0≤c.q0∧c.p1≤d.p1∧d.q1≤c.q1∧c.p2≤d.p2∧d.q2≤c.q2) {e:CC} (he:Vd e) (h2:d.p0≤e.p0∧e.q0≤d.q0∧d.p1≤e.p1∧e.q1≤d.q1∧d.p2≤e.p2∧e.q2≤d.q2):Vd d:=by
 unfold Vd AZ at *;omega
def Y9 (m:Nat) (c:CC) (l:List (List Int)):Prop:=(∀ r ∈ l,r.length=m)∧Vd (Dl c l)
theorem Aa1 {m:Nat} (hm:m≤3) (l:List (List Int)):∀ c:CC,Vd c→(Y9 m c l→EG m c l=(Dl c l,0))∧(¬ Y9 m c l→(EG m c l).2≠0):=by
 induction l with
 |nil=>
  intro c hc;exact ⟨fun _=>rfl,fun h=>absurd ⟨fun r hr=>(by cases hr),hc⟩ h⟩
 |cons r l ih=>
  intro c hc;have e:Dl c (r::l)=Dl (JL c r) l:=rfl;by_cases hr:r.length=m
  ·have hv:=Aj9 (c:=c) hc (r:=r) Xl;by_cases hk:Vd (JL c r)
   ·rw [Al hk] at hv;rw [Sg hr hv];have ih':=ih _ hk;have hiff:Y9 m c (r::l)↔Y9 m (JL c r) l:=by
     unfold Y9;rw [e];exact ⟨fun h=>⟨fun x hx=>h.1 x (Ii _ hx),h.2⟩,fun h=>⟨fun x hx=>by rcases FJ.1 hx with rfl|hx;exact hr;exact h.1 x hx,h.2⟩⟩
    rw [hiff,e];exact ih'
   ·rw [Ak hk] at hv;rw [Ew hr hv];refine ⟨fun h=>?_,fun _=>by decide⟩;have h1:=(A7 c r).2.2;have h2:=(dU l (JL c r)).2.2;exact absurd (Ag4 hc h1 (e ▸ h.2) h2) hk
  ·rw [PG hr];exact ⟨fun h=>absurd (h.1 r Gg) hr,fun _=>by decide⟩
def sF (c:CC) (l:List (List Int)):Prop:=c.fa+l.length≤4000∧Y9 c.sc.ms.length c l
def Z0 (c:CC) (l:List (List Int)):CC:=⟨c.sc,c.fa+l.length,(Dl c l).p0,(Dl c l).q0,(Dl c l).p1,(Dl c l).q1,(Dl c l).p2,(Dl c l).q2⟩
theorem Yb {c:CC} (hE:Bu c=0) (hc:Vd c) (l:List (List Int)):(sF c l→Fx c l=(Z0 c l,0))∧(¬ sF c l→(Fx c l).2≠0):=by
 have hm:=(BH (MM hE).1).2.2.2.2.1;obtain ⟨v1,v2⟩:=Aa1 hm l c hc;unfold Fx;rw [Ak Zb9];by_cases h4:4000<c.fa+l.length
 ·rw [Al h4];exact ⟨fun h=>absurd h.1 Xl,fun _=>by decide⟩
 ·rw [Ak h4];refine ⟨fun h=>?_,fun h=>?_⟩
  ·rw [v1 h.2];have hl:=dU l c;unfold Xh Z0;rw [Al rfl];simp only [hl.1,hl.2.1]
  ·have hn:=v2 (fun hf=>h ⟨Xl,hf⟩);unfold Xh;rw [Ak hn];exact hn
theorem Lr {m i p q:Int} (h:CV m i p q=false):0≤p∧q≤0∧(m≤i→p=0∧q=0):=by
 unfold CV at h;simp at h;refine ⟨h.1.1,h.1.2,fun hm=>?_⟩;have:=h.2 hm;exact this
theorem NH {m i p q:Int} (h0:0≤p) (h1:q≤0) (h:m≤i→p=0∧q=0):CV m i p q=false:=by
 unfold CV;by_cases hm:m≤i
 ·obtain ⟨rfl,rfl⟩:=h hm;simp
 ·simp [h0,h1,hm]
theorem Lp {c:CC}:Bu c=0↔Ay c.sc=0∧0≤c.fa∧c.fa≤4000∧CV c.sc.ms.length 0 c.p0 c.q0=false∧CV c.sc.ms.length 1 c.p1 c.q1=false∧CV c.sc.ms.length 2 c.p2 c.q2=false:=by
 constructor
 ·intro h;obtain ⟨a,b,d⟩:=MM h;unfold Bu at h;rw [Ak (by simp [a]),Ak Xl] at h;cases h0:CV c.sc.ms.length 0 c.p0 c.q0<;>rw [h0] at h
  ·cases h1:CV c.sc.ms.length 1 c.p1 c.q1<;>rw [h1] at h
   ·cases h2:CV c.sc.ms.length 2 c.p2 c.q2<;>rw [h2] at h
    ·exact ⟨a,b,d,rfl,rfl,rfl⟩
    ·simp at h
   ·simp at h
  ·simp at h
 ·rintro ⟨a,b,d,h0,h1,h2⟩;unfold Bu;rw [Ak (by simp [a]),Ak Xl,h0,h1,h2]
  rfl
theorem bW {r:List Int} {i:Nat} (h:r.length≤i):r.getD i 0=0:=by simp [List.getD,Jj h]
theorem Ab5 (l:List (List Int)) {m:Nat}:∀ c:CC,(∀ r ∈ l,r.length=m)→(m≤0→(Dl c l).p0=c.p0∧(Dl c l).q0=c.q0)∧(m≤1→(Dl c l).p1=c.p1∧(Dl c l).q1=c.q1)∧(m≤2→(Dl c l).p2=c.p2∧(Dl c l).q2=c.q2):=by
 induction l with
 |nil=>intro c _;exact ⟨fun _=>⟨rfl,rfl⟩,fun _=>⟨rfl,rfl⟩,fun _=>⟨rfl,rfl⟩⟩
 |cons r l ih=>
  intro c h;have hr:=h r Gg;obtain ⟨i0,i1,i2⟩:=ih (JL c r) (fun x hx=>h x (Ii _ hx));have e:Dl c (r::l)=Dl (JL c r) l:=rfl;rw [e];refine ⟨fun hm=>?_,fun hm=>?_,fun hm=>?_⟩
  ·rw [(i0 hm).1,(i0 hm).2];unfold JL Yu;rw [bW (r:=r) (i:=0) Xl];exact ⟨add0 _,dW _⟩
  ·rw [(i1 hm).1,(i1 hm).2];unfold JL Yu;rw [bW (r:=r) (i:=1) Xl];exact ⟨add0 _,dW _⟩
  ·rw [(i2 hm).1,(i2 hm).2];unfold JL Yu;rw [bW (r:=r) (i:=2) Xl];exact ⟨add0 _,dW _⟩
theorem Zh7 {p:Prop} (h:p:=by simp only [Z0] at hm;omega):p:=h
theorem Aj0 {c:CC} (hE:Bu c=0) {l:List (List Int)} (hg:sF c l):Bu (Z0 c l)=0:=by
 obtain ⟨a,b,d,h0,h1,h2⟩:=Lp.1 hE;have hl:=(dU l c).2.2;obtain ⟨o0,o1,o2⟩:=Ab5 l c hg.2.1;have hf:=hg.1;refine Lp.2 ⟨a,?_,?_,?_,?_,?_⟩
 ·show 0≤c.fa+(l.length:Int);omega
 ·show c.fa+(l.length:Int)≤4000;omega
 ·obtain ⟨x,y,z⟩:=Lr h0;exact NH (by show 0≤(Dl c l).p0;omega) (by show (Dl c l).q0≤0;omega) (fun hm=>by show (Dl c l).p0=0∧(Dl c l).q0=0;have:=o0 Zh7;have:=z hm;omega)
 ·obtain ⟨x,y,z⟩:=Lr h1;exact NH (by show 0≤(Dl c l).p1;omega) (by show (Dl c l).q1≤0;omega) (fun hm=>by show (Dl c l).p1=0∧(Dl c l).q1=0;have:=o1 Zh7;have:=z hm;omega)
 ·obtain ⟨x,y,z⟩:=Lr h2;exact NH (by show 0≤(Dl c l).p2;omega) (by show (Dl c l).q2≤0;omega) (fun hm=>by show (Dl c l).p2=0∧(Dl c l).q2=0;have:=o2 Zh7;have:=z hm;omega)
theorem Ah5 {x:Int} (hx:AZ x) (t:List UInt8):GY (Cx (FV x)++t)=.ok (x,t):=by
 unfold GY;rw [iD (qP hx.1 hx.2)];simp only;rw [fB]
theorem KR {l r:List UInt8} {x:Int} (h:GY l=.ok (x,r)):l=Cx (FV x)++r∧AZ x:=by
 exact Zp0
theorem aY {l:List UInt8} {k:Int} (h:GY l=.error k):k=3:=by
 exact Zt4
def Mw (l:List UInt8):PR (Int × Int):=
 match GY l with
 |.error k=>.error k
 |.ok (a,l1)=>match GY l1 with
  |.error k=>.error k
  |.ok (b,l2)=>.ok ((a,b),l2)
def mkCC (s:SC) (fa:Nat) (ts:List (Int × Int)):CC:=⟨s,fa,(ts.getD 0 (0,0)).1,(ts.getD 0 (0,0)).2,(ts.getD 1 (0,0)).1,(ts.getD 1 (0,0)).2,(ts.getD 2 (0,0)).1,(ts.getD 2 (0,0)).2⟩
def iL (c:CC) (l:List UInt8):PR CC:=if Bu c=0 then .ok (c,l) else .error (Bu c)
def zX (s:SC) (fa:Nat):PR (List (Int × Int))→PR CC
 |.error k=>.error k
 |.ok (ts,l)=>iL (mkCC s fa ts) l
def zY (s:SC):PR Nat→PR CC
 |.error k=>.error k
 |.ok (fa,l)=>zX s fa (Bw Mw s.ms.length [] l)
def NT (l:List UInt8):PR CC:=
 match GU l with
 |.error k=>.error k
 |.ok (s,l1)=>zY s (DD 4000 l1)
theorem Af3 {t:Int × Int} (h:AZ t.1∧AZ t.2) (r:List UInt8):Mw (JU t++r)=.ok (t,r):=by
 unfold Mw JU;rw [Ef,Ah5 h.1];simp only;rw [Ah5 h.2]
theorem Am1 {c:CC} (hE:Bu c=0) {n:Nat} (hn:c.fa=n):mkCC c.sc n ((QR c).take c.sc.ms.length)=c:=by
 obtain ⟨g,_,_,h0,h1,h2⟩:=Lp.1 hE;obtain ⟨_,_,_,m1,m3,_⟩:=BH g;obtain ⟨_,_,z1⟩:=Lr h1;obtain ⟨_,_,z2⟩:=Lr h2;obtain ⟨s,fa,p0,q0,p1,q1,p2,q2⟩:=c;simp only at *;subst hn;generalize s.ms.length=m at *;obtain rfl|rfl|rfl:m=1∨m=2∨m=3:=by omega
 ·obtain ⟨rfl,rfl⟩:=z1 Xl;obtain ⟨rfl,rfl⟩:=z2 Xl
  rfl
 ·obtain ⟨rfl,rfl⟩:=z2 Xl
  rfl
 ·rfl
theorem Af8 {c:CC} (hE:Bu c=0) (hc:Vd c) (r:List UInt8):NT (Qx c++r)=.ok (c,r):=by
 obtain ⟨g,f0,f1,_⟩:=Lp.1 hE;obtain ⟨_,_,_,m1,m3,_⟩:=BH g;obtain ⟨n,hn⟩:∃ n:Nat,c.fa=n:=⟨c.fa.toNat,Xl⟩;have hl:((QR c).take c.sc.ms.length).length=c.sc.ms.length:=by rw [FK];show min _ 3=_;omega
 have e:Qx c++r=Gh c.sc++(Cx n++(((QR c).take c.sc.ms.length).flatMap JU++r)):=by unfold Qx;rw [hn,Db];simp only [Ef]
 unfold NT;rw [e,pW g];simp only;rw [RG Xl Xl];simp only [zY];have hm:=WT (p:=Mw) (put:=JU) (xs:=(QR c).take c.sc.ms.length) (acc:=[]) r (fun t ht r=>Af3 (by
  obtain ⟨a,b,d,e,f,k⟩:=hc;have ht2:=Ud ht;simp [QR] at ht2;rcases ht2 with rfl|rfl|rfl
  ·exact ⟨a,b⟩
  ·exact ⟨d,e⟩
  ·exact ⟨f,k⟩) r)
 rw [hl] at hm;rw [hm];simp only [zX,FC];rw [Am1 hE hn];unfold iL;rw [Al hE]
def Nr (s:List UInt8):CC × Int:=
 match NT s with
 |.error k=>(CC.nil,k)
 |.ok (t,l)=>if l=[] then (t,0) else (CC.nil,3)
theorem tL {c:CC} (hE:Bu c=0) (hc:Vd c):Nr (Qx c)=(c,0):=by
 have h:=Af8 hE hc [];rw [EO] at h;unfold Nr;rw [h]
 rfl
end Go.Proofs.YtijplolmkcdflaaGreat
namespace Go.Proofs.YtijplolmkcdflaaGreat
open Go.RowKit
def Ag.sum (a:Ag) (k:Int):Int:=if k=0 then a.p.s else if k=1 then a.q.s else a.r.s
end Go.Proofs.YtijplolmkcdflaaGreat
namespace Go.Proofs.YtijplolmkcdflaaGreat
open Tryz
open Go.RowKit
theorem Am9 (A:Option Addr) (n c:Nat) (zs:List Int) (w:World) (hr:Rd w 1 A n (zs.map (Value.int .i64))) (hn:n≤3):
 Calls prog 117 #[.slice A n c] w fun e w'=>e=.returned (.agg (Ag.of zs).cs)∧Ai w w':=by
 have hlen:Hid (zs.length=n):=by have:=hr.len;show _=_;simpa using this
 go_enter func117,ntmps117;go_wp2;rw [←zZ zs];have BB:Ai w ((w.alloc (.cells Ag.zero.cs 95)).alloc (.cells (Ag.of (zs.take 0)).cs 95)):=((Ai.refl w).alloc _).alloc _;have B0:Bh ((w.alloc (.cells Ag.zero.cs 95)).alloc (.cells (Ag.of (zs.take 0)).cs 95)) w.heap.size 95 Ag.zero.cs:=(Bh.new w _ _).alloc _;have B1:Bh ((w.alloc (.cells Ag.zero.cs 95)).alloc (.cells (Ag.of (zs.take 0)).cs 95)) (w.heap.size+1) 95 (Ag.of (zs.take 0)).cs:=by
  have:=Bh.new (w.alloc (.cells Ag.zero.cs 95)) 95 (Ag.of (zs.take 0)).cs;rw [Gf] at this;exact this
 go_loopg [4] n (fun g i wr=>∃ k:Nat,g=n - k∧k≤n∧k≤3∧i=.int .i64 k∧Ai w wr∧Bh wr w.heap.size 95 Ag.zero.cs∧Bh wr (w.heap.size+1) 95 (Ag.of (zs.take k)).cs);case atStart=>exact ⟨0,rfl,Xl,Xl,rfl,BB,B0,B1⟩
 case round=>
  clear B0 B1 BB;obtain ⟨k,BR,hk,hk3,rfl,hB,b0,b1⟩:=hrel;by_cases hlt:k<n
  ·obtain ⟨bb,oo,x,rfl,hx,hcx⟩:=(hr.Av hB).Pv hlt;have Hx:=Aa hx;clear hx;rcases (show k=0∨k=1∨k=2 by omega) with rfl|rfl|rfl
   ·try simp only [Kb] at hcx
    rw [show ((0:Nat):Int)=0 from rfl];have Hq:=Aa (And.intro hB b0);clear hB b0;go_wp2_with fail;obtain ⟨W,hW⟩:∃ W:World,Hid (W=wr.drew):=⟨_,rfl⟩;replace hcx:W.cell? ⟨bb,oo,none⟩=some (.int .i64 x):=by rw [hW.Ab];exact hcx
    replace b1:Bh W (w.heap.size+1) 95 (Ag.of (zs.take 0)).cs:=by rw [hW.Ab];exact b1
    have f0:=b1.cell 1;have f1:=b1.cell 2;have f2:=b1.cell 3;have z0:=b1.frozen 1;have z1:=b1.frozen 2;have z2:=b1.frozen 3;simp [Ag.cs] at f0 f1 f2;refine wp_region_still_tail 16 Za0 Za0 ?_
    change wpStill _ _ (wr.drew) _ _ _
    rw [←hW.Ab];simp only [Pn,Pm,Rc,Pj]
    iterate 16 still_step
    refine Wv ?_
    change wpList _ _ _ _ _ (wr.drew)
    rw [←hW.Ab];clear hcx;go_wp2;go_roundg (n - 1);case rel=>
     obtain ⟨hB,b0⟩:=Hq.Ab;replace hB:Ai w W:=by rw [hW.Ab];exact hB.drew
     replace b0:Bh W w.heap.size 95 Ag.zero.cs:=by rw [hW.Ab];exact b0
     exact ⟨1,rfl,Xl,Xl,rfl,Ai.Qf hB Xl _ _ _,Bh.UO b0 Xl _ _ _,Bh.Qf b1 1 2 3 (.int .i64 x) (.int .i64 x) (.int .i64 x) (qM zs x Hx.Ab)⟩
    case measure=>omega
   ·try simp only [Kb] at hcx
    rw [show ((1:Nat):Int)=1 from rfl];have Hq:=Aa (And.intro hB b0);clear hB b0;go_wp2_with fail;obtain ⟨W,hW⟩:∃ W:World,Hid (W=wr.drew):=⟨_,rfl⟩;replace hcx:W.cell? ⟨bb,oo+1,none⟩=some (.int .i64 x):=by rw [hW.Ab];exact hcx
    replace b1:Bh W (w.heap.size+1) 95 (Ag.of (zs.take 1)).cs:=by rw [hW.Ab];exact b1
    have f0:=b1.cell 4;have f1:=b1.cell 5;have f2:=b1.cell 6;have z0:=b1.frozen 4;have z1:=b1.frozen 5;have z2:=b1.frozen 6;simp [Ag.cs] at f0 f1 f2;refine wp_region_still_tail 16 Za0 Za0 ?_
    change wpStill _ _ (wr.drew) _ _ _
    rw [←hW.Ab];simp only [Pn,Pm,Rc,Pj]
    iterate 16 still_step
    refine Wv ?_
    change wpList _ _ _ _ _ (wr.drew)
    rw [←hW.Ab];clear hcx;go_wp2;go_roundg (n - 2);case rel=>
     obtain ⟨hB,b0⟩:=Hq.Ab;replace hB:Ai w W:=by rw [hW.Ab];exact hB.drew
     replace b0:Bh W w.heap.size 95 Ag.zero.cs:=by rw [hW.Ab];exact b0
     exact ⟨2,rfl,Xl,Xl,rfl,Ai.Qf hB Xl _ _ _,Bh.UO b0 Xl _ _ _,Bh.Qf b1 4 5 6 (.int .i64 x) (.int .i64 x) (.int .i64 x) (qL zs x Hx.Ab)⟩
    case measure=>omega
   ·try simp only [Kb] at hcx
    rw [show ((2:Nat):Int)=2 from rfl];have Hq:=Aa (And.intro hB b0);clear hB b0;go_wp2_with fail;obtain ⟨W,hW⟩:∃ W:World,Hid (W=wr.drew):=⟨_,rfl⟩;replace hcx:W.cell? ⟨bb,oo+2,none⟩=some (.int .i64 x):=by rw [hW.Ab];exact hcx
    replace b1:Bh W (w.heap.size+1) 95 (Ag.of (zs.take 2)).cs:=by rw [hW.Ab];exact b1
    have f0:=b1.cell 7;have f1:=b1.cell 8;have f2:=b1.cell 9;have z0:=b1.frozen 7;have z1:=b1.frozen 8;have z2:=b1.frozen 9;simp [Ag.cs] at f0 f1 f2;refine wp_region_still_tail 16 Za0 Za0 ?_
    change wpStill _ _ (wr.drew) _ _ _
    rw [←hW.Ab];simp only [Pn,Pm,Rc,Pj]
    iterate 16 still_step
    refine Wv ?_
    change wpList _ _ _ _ _ (wr.drew)
    rw [←hW.Ab];clear hcx;go_wp2;go_roundg (n - 3);case rel=>
     obtain ⟨hB,b0⟩:=Hq.Ab;replace hB:Ai w W:=by rw [hW.Ab];exact hB.drew
     replace b0:Bh W w.heap.size 95 Ag.zero.cs:=by rw [hW.Ab];exact b0
     exact ⟨3,rfl,Xl,Xl,rfl,Ai.Qf hB Xl _ _ _,Bh.UO b0 Xl _ _ _,Bh.Qf b1 7 8 9 (.int .i64 x) (.int .i64 x) (.int .i64 x) (qK zs x Hx.Ab)⟩
    case measure=>omega
  ·have HE:Hid (zs.take k=zs):=by show _=_;exact EU Za9
   rw [HE.Ab] at b1;obtain ⟨m,Hm⟩:∃ m,Hid (Ag.of zs=m):=⟨_,rfl⟩;rw [Hm.Ab] at b1;clear HE;have x0:=b0.cell 0;have x1:=b0.cell 1;have x2:=b0.cell 2;have x3:=b0.cell 3;have x4:=b0.cell 4;have x5:=b0.cell 5;have x6:=b0.cell 6;have x7:=b0.cell 7;have x8:=b0.cell 8;have x9:=b0.cell 9;have y0:=b0.frozen 0;have y1:=b0.frozen 1;have y2:=b0.frozen 2;have y3:=b0.frozen 3;have y4:=b0.frozen 4;have y5:=b0.frozen 5;have y6:=b0.frozen 6;have y7:=b0.frozen 7;have y8:=b0.frozen 8;have y9:=b0.frozen 9;have d0:=b1.cell 0;have d1:=b1.cell 1;have d2:=b1.cell 2;have d3:=b1.cell 3;have d4:=b1.cell 4;have d5:=b1.cell 5;have d6:=b1.cell 6;have d7:=b1.cell 7;have d8:=b1.cell 8;have d9:=b1.cell 9;simp only [Ag.zero,Oi.zero,Ag.cs] at x0 x1 x2 x3 x4 x5 x6 x7 x8 x9 d0 d1 d2 d3 d4 d5 d6 d7 d8 d9;simp at x0 x1 x2 x3 x4 x5 x6 x7 x8 x9 d0 d1 d2 d3 d4 d5 d6 d7 d8 d9;go_wp2;refine Bc (v:=.agg m.cs) (by simp [results,Tryz.results117,go_sem,Ag.cs,x0,x1,x2,x3,x4,x5,x6,x7,x8,x9]) rfl ?_;rw [Hm.Ab];exact ⟨rfl,hB.Sn (g:=w.heap.size) Xl m⟩
section
variable {P : Program}
theorem Zv7 {p:Prop} (h:p:=by refine Rk hgd fun K hK=>?_;unfold Oper.wp execOp;simp only [ho,QD,Em,EX,hx,hy,KH,hr,LC,LB];exact hK _ _ h):p:=h
theorem Ke {ops:Array Oper} {rest:List Oper} {o:Oper} {a:Act} {w:World} {Q:Exit→Act→World→Prop} (hgd:o.guard=none) {t:TypeId} (x y:Operand) {i j:Nat} (ho:o.op=.build t #[(i,x),(j,y)])
 {vx vy v:Value} (hx:a.eval x=vx) (hy:a.eval y=vy) (hr:∀ w,(Instr.build t #[(i,vx),(j,vy)]).run P w=.ok v w)
 (h:wpList P ops Q rest (a.put o.dst v) w):wpList P ops Q (o::rest) a w:=by
 exact Zv7
end
def Gp (s:SC) (r:RC):List Int × Ag:=((match rowOf s r with|.ok ks=>ks|.error _=>[]),Ag.of r.vs)
theorem oZ {ds:List DC}:∀ {ts:List (List UInt8)} {ks:List Int},(∀ d ∈ ds,∀ tr ∈ d.Bi,tr.ts.length≤200)→Ec ds ts=.ok ks→(∀ k ∈ ks,AZ k)∧ks.length≤ds.length:=by
 induction ds with
 |nil=>intro ts ks _ h;cases ts<;>(simp only [Ec] at h;injection h with h;subst h;exact ⟨(fun k hk=>by cases hk),uH⟩)
 |cons d ds ih=>
  intro ts ks hd h;cases ts with
  |nil=>simp only [Ec] at h;injection h with h;subst h;exact ⟨(fun k hk=>by cases hk),uH⟩
  |cons a r=>
   rw [Ec] at h;split at h
   ·cases h
   ·rename_i tr rest htr;split at h
    ·cases h
    ·rename_i k hp;split at h
     ·cases h
     ·rename_i ks' hk;obtain ⟨h1,h2⟩:=ih (fun d' hd'=>hd d' (Ii _ hd')) hk;injection h with h;subst h;refine ⟨fun z hz=>?_,by simp;omega⟩;rcases FJ.1 hz with rfl|hz
      ·have h3:=VF hp;have h4:=hd d (Gg ..) tr (by rw [htr];exact Gg ..);unfold AZ;omega
      ·exact h1 z hz
theorem ZL {s:SC} {r:RC} {ks:List Int} (hE:Ay s=0) (h:rowOf s r=.ok ks):(∀ k ∈ ks,AZ k)∧ks.length≤16:=by
 obtain ⟨_,h2,h3,_,_,_⟩:=BH hE;unfold rowOf at h;split at h
 ·cases h
 ·obtain ⟨a,b⟩:=oZ (fun d hd tr htr=>(PE (h3 d hd) tr htr).2) h;exact ⟨a,Xl⟩
theorem Zo1 {p:Prop} (h:p:=by
 refine ⟨Rd.BC h,ha,?_,?_,hz⟩
 ·rcases h.2 with ⟨h0,h1⟩|⟨g',cap,cur,hv,hb,hh,hn,hm,hs,hx⟩
  ·omega
  ·injection hv with _ _ hv;omega
 ·rcases h.2 with ⟨h0,h1⟩|⟨g',cap,cur,hv,hb,hh,hn,hm,hs,hx⟩
  ·injection h0 with _ _ h0;omega
  ·injection hv with _ _ hv;omega
):p:=h
theorem RP {α:Type} [AY α] {w:World} {base:Nat} {e:TypeId} {x:Row α} (h:w.ownsRow base e (AY.size α) (.slice x.A x.n x.c) x.n (x.l.flatMap AY.cells)) (ha:∀ a ∈ x.l,AY.ok w a) (hz:x.n * AY.bytes α≤140737488351232):x.ok w:=by
 exact Zo1
theorem sM (f:Br):∀ u ∈ f.cs.toList,u.oneCell'=true:=fun u hu=>Nb.1 (EA f) u Zc2
abbrev iC (f:Br):FM:=⟨(Ce 3 1 (.slice f.ks.A f.ks.n f.ks.c) f.ks.n (f.ks.l.map (Value.int .i64))).D,fun w=>f.ok w⟩
theorem rF {KA:Option Addr} {kd:Nat} {ks vs:List Int} {f:Br} {w:World} (hf:f=⟨⟨KA,ks.length,kd,ks⟩,Ag.of vs⟩) (h:(Ce 3 1 (.slice KA ks.length kd) ks.length (ks.map (Value.int .i64))).holds w) (hk:(∀ k ∈ ks,AZ k)∧ks.length≤16) (ha:(Ag.of vs).ok):(iC f).holds w:=by
 subst hf;refine ⟨h.1,fun w' hs hkp=>⟨RP (e:=3) (base:=0) ?_ (fun k hk'=>hk.1 k hk') ?_,ha⟩⟩
 ·have:=h.2 w' hs hkp;rw [Gz];exact this
 ·show ks.length * 8≤_;omega
theorem fk_D {KA:Option Addr} {kd:Nat} {ks vs:List Int} {f:Br} (hf:f=⟨⟨KA,ks.length,kd,ks⟩,Ag.of vs⟩):∀ g,(iC f).D g→(Ce 3 1 (.slice KA ks.length kd) ks.length (ks.map (Value.int .i64))).D g:=by
 subst hf;exact fun g hg=>hg
abbrev wR (X:Row Br):FM:=⟨fun g=>(Ce 97 11 (.slice X.A X.n X.c) X.n (X.l.flatMap AY.cells)).D g∨(BS iC X.l).D g,fun w=>X.ok w∧X.n≤300⟩
theorem iW {X:Row Br} {w:World} (h1:(Ce 97 11 (.slice X.A X.n X.c) X.n (X.l.flatMap AY.cells)).holds w) (h2:(BS iC X.l).holds w) (h3:X.n≤300):(wR X).holds w:=
 ⟨fun g hg=>hg.elim (h1.1 g) (h2.1 g),fun w' hs hk=>⟨RP (base:=0) (e:=97) (h1.2 w' hs fun g hg=>hk g (.inl hg)) (fun r hr=>h2.2 w' hs (fun g hg=>hk g (.inr hg)) r hr) (by show X.n * 104≤_;omega),h3⟩⟩
def F8 (s:SC) (rows:List RC) (V:Row Br→Value) (w:World) (e:Ending) (w':World):Prop:=∃ X:Row Br,e=.returned (V X)∧X.n=rows.length∧X.l.map Br.Ac=rows.map (Gp s)∧Ai w w'∧UY w w' (wR X)
theorem Zl7 {p:Prop} (h:p:=by
 replace H:=Aa (H.turn 4 rfl (iC f) (rF HF (H.get 4 rfl) Al5 HAg.Ab) (fk_D HF.Ab));(try simp only [LS] at H);replace H:=Aa (H.both 2 4 Xl rfl rfl (BS iC (fs++[f])) (Bl (H.get 2 rfl) (H.get 4 rfl)) Cg);(try simp only [LS] at H);replace H:=Aa (H.Fg [0,1,2] Za1 uH);(try simp only [LS] at H);have HL2:Hid ((fs++[f]).map Br.Ac=((rows.map Rw.Ac).take (k+1)).map (Gp s.Ac)):=by
  show _=_;rw [Tg.Ab,Cf,Cf,HL.Ab,Em,Em,zM.Ab,HF.Ab]
  rfl
 clear HL;go_wp2_with fail;go_roundg (n - (k+1));case rel=>exact ⟨k+1,B9,c9,fs++[f],rfl,Xl,by go_num,rfl,by rw [EM,Df,Gt,EO];exact H,HL2⟩
 case measure=>rw [Cs.Ab];omega
):p:=h
theorem Zs8 {p:Prop} (h:p:=by have hl:=hlen.Ab;exact ⟨⟨B,k,c,fs⟩,rfl,by show k=(rows.map Rw.Ac).length;rw [CQ];omega,by rw [HL.Ab,EU Za3],H.to,H.get 1 rfl,H.new 1 rfl⟩):p:=h
theorem mR (s:Ej) (x:Row Rw) (w:World) (hs:s.rd w) (hx:x.rd w) (hn:s.dm.n≤1000000) (hm:s.ms.n≤1000000) (hd:∀ d ∈ s.dm.l,d.tr.n≤1000000∧∀ t ∈ d.tr.l,t.up.n≤100000) (hE:CR s.Ac (x.l.map Rw.Ac)=0):
 Calls prog 61 #[.agg s.cs,.slice x.A x.n x.c] w (F8 s.Ac (x.l.map Rw.Ac) (fun X=>.tuple #[.slice X.A X.n X.c,.int .i64 0]) w):=by
 have HC:=Aa (fun w' (hb:Ai w w')=>VZ s x w' (hs.mono hb) (hx.mono hb) hn hm hd);have HE:=Aa (IE hE).1;have KC:=Aa (IE hE).2.2;have Ai3:x.n≤300:=by have h1:=(IE hE).2.1;have h2:x.l.length=x.n:=hx.len;simp at h1;omega
 rw [hE] at HC;have HR:=Aa (fun r w' (hr:Rw.rd w' r) (hb:Ai w w')=>ZG s r w' (hs.mono hb) hr hn (ZH hs HE.Ab));have hlen:Hid (x.l.length=x.n):=hx.len;have HX:=Aa hx;have n63:=hx.n63;have H:=Aa ((SL.start No w).alloc s.cs 25);(try simp only [LS] at H);obtain ⟨A,n,c,rows⟩:=x;simp only at *;have hcs:s.cs=#[.slice s.dm.A s.dm.n s.dm.c,.slice s.ms.A s.ms.n s.ms.c]:=rfl;have HCS:=Aa hcs;clear hs hx hd hcs hE;have HR2:Hid True:=trivial;go_enter func61,ntmps61;rw [←HCS.Ab] at *;go_wp2_with ((with_reducible refine OP 14 ?_);(refine Bf Bb (H.blk 0 rfl) ?_));refine (HC _ H.to).mono ?_;rintro e w1 ⟨rfl,hb1⟩;replace H:=Aa (H.Av hb1);clear hb1 HC;generalize w.heap.size=x at *;go_wp2_with fail;replace H:=Aa (H.Dw 97 11);(try simp only [LS] at H);replace H:=Aa (H.add (Ai.refl _) (BS iC []) (Dk _ _) GZ);(try simp only [LS] at H);have HL:Hid (([]:List Br).map Br.Ac=((rows.map Rw.Ac).take 0).map (Gp s.Ac)):=rfl;go_loopg [7,22] n (fun gg s7 si wr=>∃ (k:Nat) (B:Option Addr) (c:Nat) (fs:List Br),gg=n - k∧k≤n∧si=.int .i64 k∧s7=.slice B k c∧Hid (SL No w wr [Aw x 25 s.cs,Ce 97 11 (.slice B k c) k (fs.flatMap AY.cells),BS iC fs])∧Hid (fs.map Br.Ac=((rows.map Rw.Ac).take k).map (Gp s.Ac)));case atStart=>exact ⟨0,none,0,[],rfl,Xl,rfl,rfl,H,HL⟩
 case round=>
  clear H HL;obtain ⟨k,B,c,fs,BR,hk,rfl,rfl,H,HL⟩:=hrel;have Cs:=Aa BR;clear BR;by_cases hlt:k<n
  ·obtain ⟨bb,oo,r,hA,hbb,nL,hrr,hrg⟩:=(HX.mono H.to).K8 (k:=k) hlt;simp only at hA;subst hA;have hrc:(rows.map Rw.Ac)[k]?=some r.Ac:=by rw [Ed,nL];(try rfl)
   obtain ⟨ks,hks⟩:=KC r.Ac (CU hrc);have zM:Hid (Gp s.Ac r.Ac=(ks,Ag.of r.vs.l)):=by show _=_;unfold Gp;rw [hks]
   obtain ⟨_,hvl,_⟩:=WM HE hks;have hv3:r.vs.n≤3:=by have h1:r.vs.l.length=r.vs.n:=hrr.vs.len;have h2:r.vs.l.length≤3:=hvl;omega
   have hkeys:=ZL HE hks;have Al5:=Aa hkeys;have rV:(Ag.of r.vs.l).ok:=Aq3 (fun z hz=>hrr.vs.all z hz);have HAg:=Aa rV;have Tg:=Aa (DR hrc);have nP:=Aa hrg;have HRr:=Aa hrr;have HVS:=Aa (fun w' (hb:Ai wr w')=>(hrr.mono hb).vs.ints);clear nL hrr hrg hrc hbb hvl hkeys rV;obtain ⟨W0,hW0⟩:∃ W0,W0=wr:=⟨_,rfl⟩;subst hW0;have HB:Hid (Ai W0 W0):=Ai.refl _;go_wp2_with (first|((with_reducible refine OP 25 ?_);(refine Af rfl KL (.tmp 24) rfl bb (oo+k * 2) rfl r.cs rfl nP.Ab ?_))|((with_reducible refine OS 9 ?_);(refine DX KL (r.cs) (Ui r) ?_;replace H:=Aa (H.alloc (r.cs) 38);(try simp only [LS] at H);replace HB:=Aa (HB.alloc (.cells r.cs 38))))|((with_reducible refine OP 27 ?_);(refine Bf Bb (H.blk 0 rfl) ?_))|((with_reducible refine OP 28 ?_);(refine Bf KL (H.blk 3 rfl) ?_)));have Yx:=Aa (HR r _ (HRr.mono HB.Ab) H.to);rw [hks] at Yx;refine Yx.mono ?_;rintro e w2 ⟨KA,kd,rfl,hb2,hown⟩;replace H:=Aa (H.Co hb2 hown);(try simp only [LS] at H);replace HB:=Aa (HB.trans hb2);clear hb2 hown Yx HR2;have c1:=(H.blk 3 rfl).Ap 1;obtain ⟨f,hf⟩:∃ f:Br,f=⟨⟨KA,ks.length,kd,ks⟩,Ag.of r.vs.l⟩:=⟨_,rfl⟩;have Hbf:Hid (∀ w:World,(Instr.build 97 #[(0,.slice KA ks.length kd),(1,.agg (Ag.of r.vs.l).cs)]).run prog w=.ok (.agg f.cs) w):=by show ∀ w,_;rw [hf];exact Xk ⟨KA,ks.length,kd,ks⟩ (Ag.of r.vs.l)
   have HF:=Aa hf;clear hf;go_wp2_with fail;refine (As7 _ _ _ _ _ (HVS _ HB.Ab) hv3).mono ?_;rintro e w7 ⟨rfl,Pz⟩;replace H:=Aa (H.Av Pz);clear Pz c1;go_upto_region 10 with ((with_reducible refine OS 12 ?_);(refine DX Dz ((Ag.of r.vs.l).cs) (Iq _) ?_;replace H:=Aa (H.alloc ((Ag.of r.vs.l).cs) 95);(try simp only [LS] at H)));generalize w7.heap.size=u9 at *;generalize w7.alloc (.cells (Ag.of r.vs.l).cs 95)=w8 at *;go_wp2_with (first|((with_reducible refine OP 40 ?_);(refine Bf Dz (H.blk 5 rfl) ?_))|((with_reducible refine OP 41 ?_);refine Ke (vx:=.slice KA ks.length kd) (vy:=.agg (Ag.of r.vs.l).cs) (v:=.agg f.cs) rfl (.tmp 39) (.tmp 40) rfl rfl rfl (Hbf.Ab) ?_)|((with_reducible refine OP 42 ?_);(refine AP rfl EI (.tmp 41) rfl (f.cs) rfl (FL f) Xl ?_;replace H:=Aa (H.Co ((Ai.refl _).alloc _) (CE _ 97 (f.cs) 11 (FL f)));(try simp only [LS] at H)))|((with_reducible refine OP 43 ?_);(refine Az rfl (.tmp 38) (.tmp 42) _ rfl EI 0 (Bj _) _ k _ rfl (H.row 1 rfl) _ 1 1 _ rfl (Rd.BC (H.row 6 rfl)) (sM f) Za4 Xl ?_;intro vq wq AJ Aq AQ;replace H:=Aa (H.setRow 1 rfl Aq AJ AQ);(try simp only [LS] at H);clear AJ Aq AQ;obtain ⟨B9,c9,rfl,_⟩:=Ao (H.row 1 rfl))));exact Zl7
  ·replace H:=Aa (H.both 1 2 Xl rfl rfl (wR ⟨B,k,c,fs⟩) (iW (H.get 1 rfl) (H.get 2 rfl) (by show k≤300;omega)) (fun g hg=>hg));(try simp only [LS] at H);go_wp2;go_ret2;exact Zs8
theorem eX (s:Ej) (x:Row Rw) (w:World) (hs:s.rd w) (hx:x.rd w) (hn:s.dm.n≤1000000) (hm:s.ms.n≤1000000) (hd:∀ d ∈ s.dm.l,d.tr.n≤1000000∧∀ t ∈ d.tr.l,t.up.n≤100000) (hE:CR s.Ac (x.l.map Rw.Ac)=0):
 Calls prog 74 #[.agg s.cs,.slice x.A x.n x.c] w (F8 s.Ac (x.l.map Rw.Ac) (fun X=>.slice X.A X.n X.c) w):=by
 have HE:=Aa (IE hE).1;have KC:=Aa (IE hE).2.2;have Ai3:x.n≤300:=by have h1:=(IE hE).2.1;have h2:x.l.length=x.n:=hx.len;simp at h1;omega
 have HR:=Aa (fun r w' (hr:Rw.rd w' r) (hb:Ai w w')=>gX s r w' (hs.mono hb) hr hn);have hlen:Hid (x.l.length=x.n):=hx.len;have HX:=Aa hx;have n63:=hx.n63;have H:=Aa ((SL.start No w).alloc s.cs 25);(try simp only [LS] at H);obtain ⟨A,n,c,rows⟩:=x;simp only at *;have hcs:s.cs=#[.slice s.dm.A s.dm.n s.dm.c,.slice s.ms.A s.ms.n s.ms.c]:=rfl;have HCS:=Aa hcs;clear hs hx hd hcs hE;have HR2:Hid True:=trivial;go_enter func74,ntmps74;rw [←HCS.Ab] at *;go_wp2_with fail;generalize w.heap.size=x at *;replace H:=Aa (H.Dw 97 11);(try simp only [LS] at H);replace H:=Aa (H.add (Ai.refl _) (BS iC []) (Dk _ _) GZ);(try simp only [LS] at H);have HL:Hid (([]:List Br).map Br.Ac=((rows.map Rw.Ac).take 0).map (Gp s.Ac)):=rfl;go_loopg [5,12] n (fun gg s7 si wr=>∃ (k:Nat) (B:Option Addr) (c:Nat) (fs:List Br),gg=n - k∧k≤n∧si=.int .i64 k∧s7=.slice B k c∧Hid (SL No w wr [Aw x 25 s.cs,Ce 97 11 (.slice B k c) k (fs.flatMap AY.cells),BS iC fs])∧Hid (fs.map Br.Ac=((rows.map Rw.Ac).take k).map (Gp s.Ac)));case atStart=>exact ⟨0,none,0,[],rfl,Xl,rfl,rfl,H,HL⟩
 case round=>
  clear H HL;obtain ⟨k,B,c,fs,BR,hk,rfl,rfl,H,HL⟩:=hrel;have Cs:=Aa BR;clear BR;by_cases hlt:k<n
  ·obtain ⟨bb,oo,r,hA,hbb,nL,hrr,hrg⟩:=(HX.mono H.to).K8 (k:=k) hlt;simp only at hA;subst hA;have hrc:(rows.map Rw.Ac)[k]?=some r.Ac:=by rw [Ed,nL];(try rfl)
   obtain ⟨ks,hks⟩:=KC r.Ac (CU hrc);have zM:Hid (Gp s.Ac r.Ac=(ks,Ag.of r.vs.l)):=by show _=_;unfold Gp;rw [hks]
   obtain ⟨_,hvl,_⟩:=WM HE hks;have hv3:r.vs.n≤3:=by have h1:r.vs.l.length=r.vs.n:=hrr.vs.len;have h2:r.vs.l.length≤3:=hvl;omega
   have hkeys:=ZL HE hks;have Al5:=Aa hkeys;have rV:(Ag.of r.vs.l).ok:=Aq3 (fun z hz=>hrr.vs.all z hz);have HAg:=Aa rV;have Tg:=Aa (DR hrc);have nP:=Aa hrg;have HRr:=Aa hrr;have HVS:=Aa (fun w' (hb:Ai wr w')=>(hrr.mono hb).vs.ints);clear nL hrr hrg hrc hbb hvl hkeys rV;obtain ⟨W0,hW0⟩:∃ W0,W0=wr:=⟨_,rfl⟩;subst hW0;have HB:Hid (Ai W0 W0):=Ai.refl _;go_wp2_with (first|((with_reducible refine OP 15 ?_);(refine Af rfl KL (.tmp 14) rfl bb (oo+k * 2) rfl r.cs rfl nP.Ab ?_))|((with_reducible refine OS 7 ?_);(refine DX KL (r.cs) (Ui r) ?_;replace H:=Aa (H.alloc (r.cs) 38);(try simp only [LS] at H);replace HB:=Aa (HB.alloc (.cells r.cs 38))))|((with_reducible refine OP 17 ?_);(refine Bf Bb (H.blk 0 rfl) ?_))|((with_reducible refine OP 18 ?_);(refine Bf KL (H.blk 3 rfl) ?_)));have Yx:=Aa (HR r _ (HRr.mono HB.Ab) H.to);rw [hks] at Yx;refine Yx.mono ?_;rintro e w2 ⟨KA,kd,rfl,hb2,hown⟩;replace H:=Aa (H.Co hb2 hown);(try simp only [LS] at H);replace HB:=Aa (HB.trans hb2);clear hb2 hown Yx HR2;have c1:=(H.blk 3 rfl).Ap 1;obtain ⟨f,hf⟩:∃ f:Br,f=⟨⟨KA,ks.length,kd,ks⟩,Ag.of r.vs.l⟩:=⟨_,rfl⟩;have Hbf:Hid (∀ w:World,(Instr.build 97 #[(0,.slice KA ks.length kd),(1,.agg (Ag.of r.vs.l).cs)]).run prog w=.ok (.agg f.cs) w):=by show ∀ w,_;rw [hf];exact Xk ⟨KA,ks.length,kd,ks⟩ (Ag.of r.vs.l)
   have HF:=Aa hf;clear hf;go_wp2_with fail;refine (Am9 _ _ _ _ _ (HVS _ HB.Ab) hv3).mono ?_;rintro e w7 ⟨rfl,Pz⟩;replace H:=Aa (H.Av Pz);clear Pz c1;go_wp2_with (first|((with_reducible refine OP 27 ?_);refine Ke (vx:=.slice KA ks.length kd) (vy:=.agg (Ag.of r.vs.l).cs) (v:=.agg f.cs) rfl (.tmp 23) (.tmp 26) rfl rfl rfl (Hbf.Ab) ?_)|((with_reducible refine OP 28 ?_);(refine AP rfl EI (.tmp 27) rfl (f.cs) rfl (FL f) Xl ?_;replace H:=Aa (H.Co ((Ai.refl _).alloc _) (CE _ 97 (f.cs) 11 (FL f)));(try simp only [LS] at H)))|((with_reducible refine OP 29 ?_);(refine Az rfl (.tmp 22) (.tmp 28) _ rfl EI 0 (Bj _) _ k _ rfl (H.row 1 rfl) _ 1 1 _ rfl (Rd.BC (H.row 5 rfl)) (sM f) Za4 Xl ?_;intro vq wq AJ Aq AQ;replace H:=Aa (H.setRow 1 rfl Aq AJ AQ);(try simp only [LS] at H);clear AJ Aq AQ;obtain ⟨B9,c9,rfl,_⟩:=Ao (H.row 1 rfl))));exact Zl7
  ·replace H:=Aa (H.both 1 2 Xl rfl rfl (wR ⟨B,k,c,fs⟩) (iW (H.get 1 rfl) (H.get 2 rfl) (by show k≤300;omega)) (fun g hg=>hg));(try simp only [LS] at H);go_wp2;go_ret;exact Zs8
end Go.Proofs.YtijplolmkcdflaaGreat
namespace Go.Proofs.YtijplolmkcdflaaGreat
abbrev CZ:=List Int × Ag
def Er (a b:CZ):Bool:=Fh a.1 b.1
def BM (f:CZ) (acc:List CZ):Nat→Nat
 |0=>0
 |k+1=>if (acc[k]?.any fun a=>Er f a) then BM f acc k else k+1
def JF (f:CZ) (acc:List CZ):List CZ:=acc.take (BM f acc acc.length)++f::acc.drop (BM f acc acc.length)
def Cm (acc:List CZ):List CZ→List CZ
 |[]=>acc
 |f::l=>Cm (JF f acc) l
def BK (l:List CZ):List CZ:=Cm [] l
theorem Ur (f:CZ) (acc:List CZ) (k:Nat):BM f acc k≤k:=by
 induction k with
 |zero=>exact Ci _
 |succ k ih=>rw [BM];split<;>omega
theorem Ah7 (f:CZ) (acc:List CZ):(JF f acc).length=acc.length+1:=by
 have:=Ur f acc acc.length;simp [JF];omega
theorem eG (acc l:List CZ) (f:CZ):Cm acc (l++[f])=JF f (Cm acc l):=by
 induction l generalizing acc with
 |nil=>rfl
 |cons a l ih=>exact ih _
theorem Qb (l:List CZ) (f:CZ):BK (l++[f])=JF f (BK l):=eG [] l f
theorem FD (l:List CZ):(BK l).length=l.length:=by
 have:∀ acc,(Cm acc l).length=acc.length+l.length:=by
  induction l with
  |nil=>intro acc;rfl
  |cons a l ih=>intro acc;rw [Cm,ih,Ah7,En];omega
 rw [BK,this];simp
theorem gL (l:List CZ) (h:l.length≤1):BK l=l:=by
 match l,h with
 |[],_=>rfl
 |[a],_=>rfl
def Yi (l:List CZ):Prop:=∀ (i j:Nat) (a b:CZ),i<j→l[i]?=some a→l[j]?=some b→Er b a=false
theorem Ez {a b c:CZ} (h1:Er b a=false) (h2:Er c b=false):Er c a=false:=by
 have r1:=Ia b.1 a.1;have r2:=Ia c.1 b.1;have s1:=Gb b.1 a.1;have s2:=Gb c.1 b.1;unfold Er Fh at *;simp at *;intro h;by_cases e1:Dn b.1 a.1=0
 ·rw [Qu e1] at h2;exact h2 h
 ·have e2:Dn a.1 b.1=-1:=by omega
  exact h2 (UR h e2)
theorem XQ {a b:CZ} (h:Er a b=true):Er b a=false:=by
 have s1:=Gb a.1 b.1;unfold Er Fh at *;simp at *;omega
theorem iH {f:CZ} {acc:List CZ} {k:Nat}:∀ i a,BM f acc k≤i→i<k→acc[i]?=some a→Er f a=true:=by
 induction k with
 |zero=>intro i a _ h;omega
 |succ k ih=>
  intro i a h1 h2 ha;rw [BM] at h1;split at h1
  ·rename_i hc;by_cases e:i=k
   ·subst e;rw [ha] at hc;exact hc
   ·exact ih i a h1 Xl ha
  ·omega
theorem pos_at {f:CZ} {acc:List CZ} {k:Nat} (hk:k≤acc.length) (h:0<BM f acc k):∃ a,acc[BM f acc k - 1]?=some a∧Er f a=false:=by
 induction k with
 |zero=>simp [BM] at h
 |succ k ih=>
  rw [BM] at h ⊢;split at h
  ·rename_i hc;rw [Al hc];exact ih Xl h
  ·rename_i hc;rw [Ak hc];refine ⟨acc[k]'Xl,by simp [Fp (show k<acc.length by omega)],?_⟩;rw [Fp Xl] at hc;simpa using hc
theorem Zb7 {p:Prop} (h:p:=by rw [FK];omega):p:=h
theorem YD {f:CZ} {acc:List CZ} (h:Yi acc):Yi (JF f acc):=by
 have hp:=Ur f acc acc.length;have get:∀ i,(JF f acc)[i]?=if i<BM f acc acc.length then acc[i]? else if i=BM f acc acc.length then some f else acc[i - 1]?:=by
  intro i;unfold JF;by_cases h1:i<BM f acc acc.length
  ·rw [Al h1,QH Zb7,Jk h1]
  ·rw [Ak h1,Rf Zb7,FK,Vi hp];by_cases h2:i=BM f acc acc.length
   ·rw [Al h2,h2,PU];(try rfl)
   ·rw [Ak h2,show i - BM f acc acc.length=(i - BM f acc acc.length - 1)+1 by omega,FR,NJ]
    congr 1
    omega
 intro i j a b hij ha hb;rw [get] at ha hb;by_cases i1:i<BM f acc acc.length
 ·rw [Al i1] at ha;by_cases j1:j<BM f acc acc.length
  ·rw [Al j1] at hb;exact h i j a b hij ha hb
  ·rw [Ak j1] at hb;by_cases j2:j=BM f acc acc.length
   ·rw [Al j2] at hb;injection hb with hb;subst hb;obtain ⟨x,hx,hl⟩:=pos_at (f:=f) (acc:=acc) (Ci _) Xl;by_cases e:i=BM f acc acc.length - 1
    ·subst e;rw [ha] at hx;injection hx with hx;subst hx;exact hl
    ·exact Ez (h i _ a x Xl ha hx) hl
   ·rw [Ak j2] at hb;exact h i (j - 1) a b Xl ha hb
 ·rw [Ak i1] at ha;rw [Ak Xl,Ak Xl] at hb;by_cases i2:i=BM f acc acc.length
  ·rw [Al i2] at ha;injection ha with ha;subst ha;have hj:=(CB.1 hb).1;exact XQ (iH (k:=acc.length) (j - 1) b Xl hj hb)
  ·rw [Ak i2] at ha;exact h (i - 1) (j - 1) a b Xl ha hb
theorem Vp (l:List CZ):Yi (BK l):=by
 have:∀ acc,Yi acc→Yi (Cm acc l):=by
  induction l with
  |nil=>intro acc h;exact h
  |cons a l ih=>intro acc h;exact ih _ (YD h)
 exact this [] fun i j a b _ ha=>by simp at ha
theorem lC {f:CZ} {acc:List CZ} {k:Nat} (h:∀ i a,i<k→acc[i]?=some a→Er f a=true) (hk:k≤acc.length):BM f acc k=0:=by
 induction k with
 |zero=>rfl
 |succ k ih=>
  rw [BM,Fp Xl];have h1:=h k (acc[k]'Xl) Xl (Fp Xl);simp only [Option.any_some,h1,Gu];exact ih (fun i a hi ha=>h i a Xl ha) Xl
theorem LZ {f:CZ} {acc:List CZ} (h:∀ a ∈ acc,Er f a=true):JF f acc=f::acc:=by
 unfold JF;rw [lC (fun i a hi ha=>h a (CU ha)) (Ci _)];simp
theorem lD {f x:CZ} {acc:List CZ} (h:Er f x=false) (k:Nat):BM f (x::acc) (k+1)=BM f acc k+1:=by
 induction k with
 |zero=>simp [BM,h]
 |succ k ih=>
  rw [BM,FR,ih,BM];split<;>rfl
theorem KS {f x:CZ} {acc:List CZ} (h:Er f x=false):JF f (x::acc)=x::JF f acc:=by
 unfold JF;rw [En,lD h];simp
theorem Qo (f:CZ) (acc:List CZ):JF f acc=acc.take (BM f acc acc.length)++f::acc.drop (BM f acc acc.length):=rfl
theorem GG (acc l m:List CZ):Cm acc (l++m)=Cm (Cm acc l) m:=by
 induction l generalizing acc with
 |nil=>rfl
 |cons a l ih=>exact ih _
theorem Vq {x:CZ} {acc l:List CZ} (h:∀ y ∈ l,Er y x=false):Cm (x::acc) l=x::Cm acc l:=by
 induction l generalizing acc with
 |nil=>rfl
 |cons y l ih=>
  rw [Cm,Cm,KS (h y (Gg ..)),ih fun z hz=>h z (Ii _ hz)]
theorem qU {f a:CZ} {acc:List CZ}:a ∈ JF f acc↔a=f∨a ∈ acc:=by
 have h:acc=acc.take (BM f acc acc.length)++acc.drop (BM f acc acc.length):=(Na _ _).symm;rw [Qo,Eb,FJ];constructor
 ·rintro (h1|h1|h1)
  ·exact .inr (Ud h1)
  ·exact .inl h1
  ·exact .inr (Tx h1)
 ·rintro (h1|h1)
  ·exact .inr (.inl h1)
  ·rw [h,Eb] at h1;rcases h1 with h1|h1
   ·exact .inl h1
   ·exact .inr (.inr h1)
theorem lM {a:CZ} {acc l:List CZ}:a ∈ Cm acc l↔a ∈ acc∨a ∈ l:=by
 induction l generalizing acc with
 |nil=>simp [Cm]
 |cons x l ih=>
  rw [Cm,ih,qU,FJ];constructor
  ·rintro ((h|h)|h)
   ·exact .inr (.inl h)
   ·exact .inl h
   ·exact .inr (.inr h)
  ·rintro (h|h|h)
   ·exact .inl (.inr h)
   ·exact .inl (.inl h)
   ·exact .inr h
theorem J7 {X Y:List CZ} {x:CZ} (hX:∀ a ∈ X,Er x a=true) (hY:∀ a ∈ Y,Er a x=false):BK (X++x::Y)=x::BK (X++Y):=by
 unfold BK;rw [GG,GG,Cm,LZ (fun a ha=>hX a ((lM.1 ha).elim (fun h=>by cases h) id)),Vq hY]
theorem Zu8 {p:Prop} (h:p:=by
 rcases FJ.1 hb with rfl|hb
 ·exact h1
 ·cases hq:Er y b with
  |true=>rfl
  |false=>rw [Ez (ha b hb) hq] at h1;cases h1
):p:=h
theorem X3 {x y:CZ} {acc:List CZ} (h:Er y x=true) (hs:Yi acc):JF x (JF y acc)=JF y (JF x acc):=by
 have hxy:=XQ h;induction acc with
 |nil=>rw [show JF y []=[y] from rfl,show JF x []=[x] from rfl,KS hxy,LZ (acc:=[x]) Zb3];(try rfl)
 |cons a acc ih=>
  have hs':Yi acc:=fun i j b c hij hb hc=>hs (i+1) (j+1) b c Xl (by rw [FR];exact hb) (by rw [FR];exact hc)
  have ha:∀ b ∈ acc,Er b a=false:=fun b hb=>by
   obtain ⟨j,hj⟩:=MZ.1 hb;exact hs 0 (j+1) a b Xl rfl (by rw [FR];exact hj)
  by_cases h1:Er y a=true
  ·
   have hy:JF y (a::acc)=y::a::acc:=LZ fun b hb=>by
    exact Zu8
   rw [hy,KS hxy];by_cases h2:Er x a=true
   ·have hx:JF x (a::acc)=x::a::acc:=LZ fun b hb=>by
     rcases FJ.1 hb with rfl|hb
     ·exact h2
     ·cases hq:Er x b with
      |true=>rfl
      |false=>rw [Ez (ha b hb) hq] at h2;cases h2
    rw [hx,LZ fun b hb=>?_];rcases FJ.1 hb with rfl|hb
    ·exact h
    ·exact Zu8
   ·have h2:Er x a=false:=by cases hq:Er x a with|true=>exact absurd hq h2|false=>rfl
    rw [KS h2];rw [LZ (acc:=a::JF x acc) fun b hb=>?_];rcases FJ.1 hb with rfl|hb
    ·exact h1
    ·rcases qU.1 hb with rfl|hb
     ·exact h
     ·cases hq:Er y b with
      |true=>rfl
      |false=>rw [Ez (ha b hb) hq] at h1;cases h1
  ·have h1:Er y a=false:=by cases hq:Er y a with|true=>exact absurd hq h1|false=>rfl
   have h2:Er x a=false:=Ez h1 hxy;rw [KS h1,KS h2,KS h2,KS h1,ih hs']
theorem Ad1 {acc:List CZ} (l:List CZ) (h:Yi acc):Yi (Cm acc l):=by
 induction l generalizing acc with
 |nil=>exact h
 |cons a l ih=>exact ih (YD h)
theorem kM {x:CZ} {acc l:List CZ} (hs:Yi acc) (h:∀ b ∈ l,Er x b=true):Cm (JF x acc) l=JF x (Cm acc l):=by
 induction l generalizing acc with
 |nil=>rfl
 |cons b l ih=>
  rw [Cm,Cm,←ih (YD hs) fun c hc=>h c (Ii _ hc),X3 (h b (Gg ..)) hs]
theorem eO {acc l:List CZ} (f:CZ) (hs:Yi acc) (hl:Yi l):Cm acc (JF f l)=JF f (Cm acc l):=by
 have e:l=l.take (BM f l l.length)++l.drop (BM f l l.length):=(Na _ _).symm;rw [Qo,GG,Cm];rw [kM (Ad1 _ hs) fun b hb=>?_]
 ·rw [←GG,←e]
 ·obtain ⟨j,hj⟩:=MZ.1 hb;rw [NJ] at hj;exact iH (k:=l.length) _ b Xl (CB.1 hj).1 hj
theorem TH {acc:List CZ} (l:List CZ) (hs:Yi acc):Cm acc (BK l)=Cm acc l:=by
 have:∀ m,Yi m→Cm acc (Cm m l)=Cm (Cm acc m) l:=by
  induction l with
  |nil=>intro m _;rfl
  |cons f l ih=>intro m hm;rw [Cm,ih _ (YD hm),eO f hs hm];(try rfl)
 rw [BK,this [] (fun i j a b _ ha=>by simp at ha)]
 rfl
theorem ZA (l m:List CZ):BK (l++BK m)=BK (l++m):=by
 unfold BK;rw [GG,GG];exact TH m (Vp l)
theorem Rv (l m:List CZ):BK (BK l++m)=BK (l++m):=by
 have h:=TH (acc:=[]) l (fun i j a b _ ha=>by simp at ha);unfold BK at *;rw [GG,GG,h]
theorem Zz (ls:List (List CZ)):BK (ls.map BK).flatten=BK ls.flatten:=by
 have:∀ acc:List CZ,BK (acc++(ls.map BK).flatten)=BK (acc++ls.flatten):=by
  induction ls with
  |nil=>intro acc;rfl
  |cons a ls ih=>
   intro acc;rw [Em,WC,WC,←Ef,ih,←Ef];rw [←Rv (acc++BK a),ZA,Rv]
 simpa using this []
theorem J6 {l:List CZ} (h:Yi l):BK l=l:=by
 have:∀ (acc m:List CZ),Yi (acc++m)→Cm acc m=acc++m:=by
  intro acc m;induction m generalizing acc with
  |nil=>intro _;simp [Cm]
  |cons f m ih=>
   intro hs;have hp:BM f acc acc.length=acc.length:=by
    cases hl:acc.length with
    |zero=>rfl
    |succ k=>
     rw [BM,Fp Xl];have:=hs k acc.length (acc[k]'Xl) f Xl (by rw [QH Xl,Fp]) (by rw [Rf (Ci _)];simp);simp [this]
   have hi:JF f acc=acc++[f]:=by rw [Qo,hp];simp
   rw [Cm,hi,ih _ (by simpa using hs)];simp
 have h2:=this [] l Zb3;rw [FC] at h2;exact h2
abbrev Hd:=List CZ × Nat
def Fb (a b:Hd):Bool:=match a.1,b.1 with
 |x::_,y::_=>decide (Dn x.1 y.1=-1)||(decide (Dn x.1 y.1=0) && decide (a.2<b.2))
 |_,_=>false
theorem MF {a b:Hd} (h:Fb a b=true):Fb b a=false:=by
 obtain ⟨l,i⟩:=a;obtain ⟨m,k⟩:=b;cases l with
 |nil=>cases m<;>simp [Fb] at h
 |cons x l=>
  cases m with
  |nil=>simp [Fb] at h
  |cons y m=>
   have:=Gb x.1 y.1;simp [Fb] at *;omega
theorem JE {a b c:Hd} (hb:b.1≠[]) (h1:Fb b a=false) (h2:Fb c b=false):Fb c a=false:=by
 obtain ⟨l,i⟩:=a;obtain ⟨m,k⟩:=b;obtain ⟨p,j⟩:=c;cases p with
 |nil=>simp [Fb]
 |cons z p=>
  cases l with
  |nil=>simp [Fb]
  |cons x l=>
   cases m with
   |nil=>exact absurd rfl hb
   |cons y m=>
    have s1:=Gb y.1 x.1;have s2:=Gb z.1 y.1;have r1:=Ia y.1 x.1;have r2:=Ia z.1 y.1;simp [Fb] at *;rcases r1 with r|r|r
    ·omega
    ·rcases r2 with q|q|q
     ·omega
     ·rw [Qu q,r];omega
     ·rw [←Qu r,q];omega
    ·have s:Dn x.1 y.1=-1:=by omega
     rcases r2 with q|q|q
     ·omega
     ·rw [Qu q,r];omega
     ·have t:Dn y.1 z.1=-1:=by omega
      have u:=UR s t;have v:=Gb x.1 z.1;omega
def nA (L:List Hd) (n:Nat) (P:Nat→Prop):Prop:=∀ k a b,0<k→k<n→¬ P k→L[k]?=some a→L[(k - 1) / 2]?=some b→Fb a b=false
abbrev Heap (L:List Hd) (n:Nat):Prop:=nA L n (fun _=>False)
structure fK (L:List Hd) (j:Nat):Prop where
 but:nA L L.length (fun k=>k=j)
 over:∀ k a b,0<j→0<k→(k - 1) / 2=j→L[k]?=some a→L[(j - 1) / 2]?=some b→Fb a b=false
structure Lv (L:List Hd) (n i:Nat):Prop where
 but:nA L n (fun k=>(k - 1) / 2=i)
 over:∀ k a b,0<i→0<k→k<n→(k - 1) / 2=i→L[k]?=some a→L[(i - 1) / 2]?=some b→Fb a b=false
def TG (L:List Hd) (i j:Nat) (a b:Hd):List Hd:=(L.set i b).set j a
theorem J3 {L:List Hd} {i j:Nat} {a b:Hd}:(TG L i j a b).length=L.length:=by simp [TG]
theorem gF {L:List Hd} {i j:Nat} {a b:Hd} (hi:i<L.length) (hj:j<L.length) (k:Nat):(TG L i j a b)[k]?=if k=j then some a else if k=i then some b else L[k]?:=by
 unfold TG;by_cases h1:k=j
 ·rw [Al h1,h1,NK (by simpa using hj)]
 ·rw [Ak h1,Ou (fun h=>h1 h.symm)];by_cases h2:k=i
  ·rw [Al h2,h2,NK hi]
  ·rw [Ak h2,Ou (fun h=>h2 h.symm)]
theorem Ac3 {L:List Hd} (h:fK L 0):Heap L L.length:=fun k a b h0 hk _ ha hb=>h.but k a b h0 hk Xl ha hb
theorem Al9 {L:List Hd} {j:Nat} {a b:Hd} (h:fK L j) (ha:L[j]?=some a) (hb:L[(j - 1) / 2]?=some b) (hl:Fb a b=false):Heap L L.length:=fun k c d h0 hk _ hc hd=>by
 by_cases e:k=j
 ·subst e;rw [ha] at hc;rw [hb] at hd;injection hc with hc;injection hd with hd;subst hc hd;exact hl
 ·exact h.but k c d h0 hk e hc hd
theorem Am0 {L:List Hd} {j:Nat} {a b:Hd} (hj:0<j) (h:fK L j) (hne:∀ x ∈ L,x.1≠[]) (ha:L[j]?=some a) (hb:L[(j - 1) / 2]?=some b) (hl:Fb a b=true):fK (TG L ((j - 1) / 2) j b a) ((j - 1) / 2):=by
 have jl:=(CB.1 ha).1;have il:=(CB.1 hb).1;have hba:=MF hl;have g:=fun k=>gF (a:=b) (b:=a) il jl k
 have nb:=hne b (CU hb);constructor
 ·intro k c d h0 hk hP hc hd;rw [J3] at hk;rw [g] at hc hd;by_cases e1:k=j
  ·subst e1;rw [Al rfl] at hc;rw [Ak Xl,Al rfl] at hd;injection hc with hc;injection hd with hd;subst hc hd;exact hba
  ·rw [Ak e1,Ak hP] at hc;by_cases e2:(k - 1) / 2=j
   ·rw [Al e2] at hd;injection hd with hd;subst hd;exact h.over k c b Xl h0 e2 hc hb
   ·rw [Ak e2] at hd;by_cases e3:(k - 1) / 2=(j - 1) / 2
    ·rw [Al e3] at hd;injection hd with hd;subst hd;have:=h.but k c b h0 hk e1 hc (by rw [e3];exact hb);exact JE nb hba this
    ·rw [Ak e3] at hd;exact h.but k c d h0 hk e1 hc hd
 ·intro k c d hi h0 hk hc hd;rw [g] at hc hd;rw [Ak Xl,Ak Xl] at hd;by_cases e1:k=j
  ·subst e1;rw [Al rfl] at hc;injection hc with hc;subst hc;exact h.but _ b d hi il Xl hb hd
  ·rw [Ak e1,Ak Xl] at hc;have h1:=h.but k c b h0 (CB.1 hc).1 e1 hc (by rw [hk];exact hb);have h2:=h.but _ b d hi il Xl hb hd;exact JE nb h2 h1
theorem SY {L:List Hd} {n i:Nat} (h:Lv L n i) (hl:∀ k a b,0<k→k<n→(k - 1) / 2=i→L[k]?=some a→L[i]?=some b→Fb a b=false):Heap L n:=fun k c d h0 hk _ hc hd=>by
 by_cases e:(k - 1) / 2=i
 ·exact hl k c d h0 hk e hc (by rw [←e];exact hd)
 ·exact h.but k c d h0 hk e hc hd
theorem Xf {L:List Hd} {n i j:Nat} {a b:Hd} (hn:n≤L.length) (hj:0<j) (hjn:j<n) (hij:(j - 1) / 2=i) (h:Lv L n i) (hne:∀ x ∈ L,x.1≠[]) (ha:L[j]?=some a) (hb:L[i]?=some b) (hl:Fb a b=true)
 (hmin:∀ k c,0<k→k<n→(k - 1) / 2=i→L[k]?=some c→Fb c a=false):Lv (TG L i j b a) n j:=by
 have jl:=(CB.1 ha).1;have il:=(CB.1 hb).1;have hba:=MF hl;have g:=fun k=>gF (a:=b) (b:=a) il jl k
 have na:=hne a (CU ha);constructor
 ·intro k c d h0 hk hP hc hd;rw [g] at hc hd;rw [Ak hP] at hd;by_cases e1:k=j
  ·subst e1;rw [Al rfl] at hc;rw [Al hij] at hd;injection hc with hc;injection hd with hd;subst hc hd;exact hba
  ·rw [Ak e1] at hc;by_cases e2:(k - 1) / 2=i
   ·rw [Al e2] at hd;injection hd with hd;subst hd;rw [Ak Xl] at hc;exact hmin k c h0 hk e2 hc
   ·rw [Ak e2] at hd;by_cases e3:k=i
    ·subst e3;rw [Al rfl] at hc;injection hc with hc;subst hc;exact h.over j a d h0 hj hjn hij ha hd
    ·rw [Ak e3] at hc;exact h.but k c d h0 hk e2 hc hd
 ·intro k c d _ h0 hk hkj hc hd;rw [g] at hc hd;rw [Ak Xl,Ak Xl] at hc;rw [Ak Xl,Al hij] at hd;injection hd with hd;subst hd;exact h.but k c a h0 hk Xl hc (by rw [hkj];exact ha)
theorem Ai4 {L:List Hd} {n:Nat} {r:Hd} (h:Heap L n) (hne:∀ x ∈ L,x.1≠[]) (hr:L[0]?=some r):∀ k a,k<n→L[k]?=some a→Fb a r=false:=by
 intro k;induction k using Nat.strongRecOn with
 |ind k ih=>
  intro a hk ha;cases k with
  |zero=>
   rw [hr] at ha;injection ha with ha;subst ha;cases hq:Fb r r with
   |false=>rfl
   |true=>have:=MF hq;rw [this] at hq;cases hq
  |succ k=>
   have hl:=(CB.1 ha).1;have hb:=Fp (show k / 2<L.length by omega);have h1:=h (k+1) a _ Xl hk (fun h=>h) ha hb;have h2:=ih (k / 2) Xl _ Xl hb;exact JE (hne _ (CU hb)) h2 h1
theorem TI {α:Type} {a b:α}:∀ {r:List α} {j:Nat},r[j]?=some a→(a::r.set j b).Perm (b::r)
 |[],j,h=>by simp at h
 |x::r,0,h=>by injection h with h;subst h;exact List.Perm.swap ..
 |x::r,j+1,h=>by
  have ih:=TI (b:=b) (r:=r) (j:=j) Zb3;exact (List.Perm.swap ..).trans ((ih.cons x).trans (List.Perm.swap ..))
theorem swap_perm {α:Type} {a b:α}:∀ {L:List α} {i j:Nat},i<j→L[i]?=some b→L[j]?=some a→((L.set i a).set j b).Perm L
 |[],i,j,_,h,_=>by simp at h
 |x::r,0,0,h,_,_=>by omega
 |x::r,0,j+1,_,h,h2=>by
  injection h with h;subst h;exact TI (by simpa using h2)
 |x::r,i+1,0,h,_,_=>by omega
 |x::r,i+1,j+1,hij,h,h2=>(swap_perm Xl Zb3 (by simpa using h2)).cons x
def Eh (k:Nat):List (List CZ)→List Hd
 |[]=>[]
 |l::r=>if l=[] then Eh (k+1) r else (l,k)::Eh (k+1) r
theorem UB (A B:List (List CZ)):∀ k,Eh k (A++B)=Eh k A++Eh (k+A.length) B:=by
 induction A with
 |nil=>intro k;rfl
 |cons a A ih=>
  intro k;rw [KZ,Eh,Eh,ih,En,show k+(A.length+1)=k+1+A.length by omega];split<;>rfl
theorem Zv2 {p:Prop} (h:p:=by obtain ⟨h1,h2,h3⟩:=ih hm;exact ⟨h1,Xl,by rw [show h.2 - k=(h.2 - (k+1))+1 by omega,FR];exact h3⟩):p:=h
theorem bL {R:List (List CZ)}:∀ {k:Nat} {h:Hd},h ∈ Eh k R→h.1≠[]∧k≤h.2∧R[h.2 - k]?=some h.1:=by
 induction R with
 |nil=>intro k h hm;cases hm
 |cons l R ih=>
  intro k h hm;rw [Eh] at hm;split at hm
  ·exact Zv2
  ·rename_i hl;rcases FJ.1 hm with rfl|hm
   ·exact ⟨hl,Ci _,uH⟩
   ·exact Zv2
theorem bM {R:List (List CZ)}:∀ {k j:Nat} {l:List CZ},R[j]?=some l→l≠[]→(l,k+j) ∈ Eh k R:=by
 induction R with
 |nil=>intro k j l h;simp at h
 |cons a R ih=>
  intro k j l h hl;rw [Eh];cases j with
  |zero=>
   injection h with h;subst h;rw [Ak hl];exact Gg ..
  |succ j=>
   have:=ih (k:=k+1) (j:=j) Zb3 hl;rw [show k+1+j=k+(j+1) by omega] at this;split
   ·exact this
   ·exact Ii _ this
theorem Zy {α:Type} {R:List α} {j:Nat} {x:α} (h:R[j]?=some x):R=R.take j++x::R.drop (j+1):=by
 obtain ⟨h1,rfl⟩:=CB.1 h;rw [List.getElem_cons_drop,Na]
theorem gP {α:Type} {R:List α} {j:Nat} {x y:α} (h:R[j]?=some x):R.set j y=R.take j++y::R.drop (j+1):=by
 have h1:=(CB.1 h).1
 conv=>lhs;rw [Zy h]
 rw [List.set_append_right _ _ Zb7,FK,Vi Xl,PU]
 rfl
theorem bK {R:List (List CZ)} {j:Nat} {l:List CZ} (h:R[j]?=some l) (hl:l≠[]):(Eh 0 R).Perm ((l,j)::Eh 0 (R.set j [])):=by
 have h1:=(CB.1 h).1;have e:(R.take j).length=j:=by rw [FK];omega
 conv=>lhs;rw [Zy h]
 rw [gP h,UB,UB,Eh,Eh,Ak hl,Al rfl,e,FI];exact List.perm_middle
theorem xQ {R:List (List CZ)} {j:Nat} {l t:List CZ} (h:R[j]?=some l) (ht:t≠[]):(Eh 0 (R.set j t)).Perm ((t,j)::Eh 0 (R.set j [])):=by
 have h1:=(CB.1 h).1;have:=bK (R:=R.set j t) (j:=j) (l:=t) (by rw [NK h1]) ht;rwa [List.set_set] at this
theorem xK {R:List (List CZ)} {L:List Hd} {x:CZ} {t:List CZ} {j:Nat} (hp:L.Perm (Eh 0 R)) (hh:Heap L L.length) (h0:L[0]?=some (x::t,j)) (hs:∀ l ∈ R,Yi l):
 R[j]?=some (x::t)∧BK R.flatten=x::BK (R.set j t).flatten:=by
 have hm:=bL (hp.mem_iff.1 (CU h0));simp only [Nat.sub_zero] at hm;have hj:=hm.2.2;have hne:∀ z ∈ L,z.1≠[]:=fun z hz=>(bL (hp.mem_iff.1 hz)).1
 have hmin:=Ai4 hh hne h0;have key:∀ (k:Nat) (a:CZ),(∃ l,R[k]?=some l∧a ∈ l)→Er a x=false∧(k<j→Er x a=true):=by
  rintro k a ⟨l,hl,ha⟩;obtain ⟨i,hi⟩:=MZ.1 ha;cases l with
  |nil=>cases ha
  |cons y l=>
   have h1:=bM (k:=0) hl uH;rw [FI] at h1;obtain ⟨p,hpL⟩:=MZ.1 (hp.mem_iff.2 h1);have h2:=hmin p _ (CB.1 hpL).1 hpL;have h3:Er a y=false:=by
    cases i with
    |zero=>
     injection hi with hi;subst hi;have:=Xg y.1;simp [Er,Fh,this]
    |succ i=>exact hs _ (CU hl) 0 (i+1) y a Xl rfl hi
   simp [Fb] at h2;have r1:=Ia y.1 x.1;have s1:=Gb y.1 x.1;have h4:Er y x=false:=by simp [Er,Fh,h2.1]
   refine ⟨Ez h4 h3,fun hk=>?_⟩;have h5:Er x y=true:=by simp [Er,Fh];omega
   cases hq:Er x a with
   |true=>rfl
   |false=>rw [Ez h3 hq] at h5;cases h5
 refine ⟨hj,?_⟩;have hjl:=(CB.1 hj).1
 conv=>lhs;rw [Zy hj]
 rw [gP hj,Zc,Zc,WC,WC,KZ];refine J7 (fun a ha=>?_) (fun a ha=>?_)
 ·obtain ⟨l,hl,hal⟩:=List.mem_flatten.1 ha;obtain ⟨k,hk⟩:=MZ.1 hl;rw [WE] at hk;split at hk
  ·rename_i hkj;exact (key k a ⟨l,hk,hal⟩).2 hkj
  ·cases hk
 ·rcases Eb.1 ha with ha|ha
  ·exact (key j a ⟨_,hj,Ii _ ha⟩).1
  ·obtain ⟨l,hl,hal⟩:=List.mem_flatten.1 ha;obtain ⟨k,hk⟩:=MZ.1 hl;rw [NJ] at hk;exact (key _ a ⟨l,hk,hal⟩).1
theorem oC {x:CZ} {t:List CZ} (h:Yi (x::t)):Yi t:=fun i j a b hij ha hb=>h (i+1) (j+1) a b Xl (by rw [FR];exact ha) (by rw [FR];exact hb)
theorem Am4 {R:List (List CZ)} {j:Nat} {x:CZ} {t:List CZ} (hs:∀ l ∈ R,Yi l) (h:R[j]?=some (x::t)):∀ l ∈ R.set j t,Yi l:=fun l hl=>by
 rcases Zi hl with h1|rfl
 ·exact hs l h1
 ·exact oC (hs _ (CU h))
theorem xL {R:List (List CZ)} {L:List Hd} {x:CZ} {t:List CZ} {j:Nat} (hp:L.Perm (Eh 0 R)) (h0:L[0]?=some (x::t,j)) (hj:R[j]?=some (x::t)):
 (t≠[]→(L.set 0 (t,j)).Perm (Eh 0 (R.set j t)))∧(t=[]→∀ M:List Hd,L.Perm (M++[(x::t,j)])→M.Perm (Eh 0 (R.set j t))):=by
 have h1:L=(x::t,j)::L.tail:=by
  cases L with
  |nil=>simp at h0
  |cons a L=>injection h0 with h0;subst h0;rfl
 have h2:L.tail.Perm (Eh 0 (R.set j [])):=by
  have:=(hp.trans (bK hj uH));rw [h1] at this;exact this.cons_inv
 refine ⟨fun ht=>?_,fun ht M hM=>?_⟩
 ·rw [h1];exact (h2.cons _).trans (xQ hj ht).symm
 ·subst ht;rw [h1] at hM;exact (((List.perm_append_comm (l₁:=M)).symm.trans hM.symm).cons_inv).trans h2
theorem flatten_nil {R:List (List CZ)} (h:([]:List Hd).Perm (Eh 0 R)):R.flatten=[]:=by
 rw [List.flatten_eq_nil_iff];intro l hl;obtain ⟨k,hk⟩:=MZ.1 hl;by_cases e:l=[]
 ·exact e
 ·have:=bM (k:=0) hk e;rw [←h.mem_iff] at this;cases this
def GN (acc:List CZ) (f:CZ):Option (List CZ):=
 match acc.getLast? with
 |none=>some (acc++[f])
 |some p=>if Dn p.1 f.1=0 then (if (p.2.join f.2).2=true then some (acc.dropLast++[(p.1,(p.2.join f.2).1)]) else none) else some (acc++[f])
def EF (acc:List CZ):List CZ→Option (List CZ)
 |[]=>some acc
 |f::l=>match GN acc f with|none=>none|some acc=>EF acc l
def Nc (l:List CZ):Option (List CZ):=EF [] l
theorem X0 (f:CZ) (acc:List CZ):(JF f acc).Perm (f::acc):=by
 rw [Qo];refine List.perm_middle.trans (List.Perm.cons _ ?_);rw [Na]
theorem eH (l:List CZ):∀ acc,(Cm acc l).Perm (acc++l):=by
 induction l with
 |nil=>intro acc;simp [Cm]
 |cons f l ih=>
  intro acc;refine (ih _).trans (((X0 f acc).append_right l).trans ?_);exact List.perm_middle.symm
theorem vW (l:List CZ):(BK l).Perm l:=by simpa [BK] using eH l []
def Yq (x y:Oi):Oi:=⟨x.s+y.s,min x.mn y.mn,max x.mx y.mx⟩
def eB (a b:Ag):Ag:=⟨a.c+b.c,Yq a.p b.p,Yq a.q b.q,Yq a.r b.r⟩
theorem WS (x y:Oi):Yq x y=Yq y x:=by simp only [Yq,Oi.mk.injEq];omega
theorem Uq (x y z:Oi):Yq (Yq x y) z=Yq x (Yq y z):=by simp only [Yq,Oi.mk.injEq];omega
theorem uE (a b:Ag):eB a b=eB b a:=by
 unfold eB;rw [WS a.p,WS a.q,WS a.r,Int.add_comm]
theorem Te (a b c:Ag):eB (eB a b) c=eB a (eB b c):=by
 simp only [eB];rw [Uq,Uq,Uq,Int.add_assoc]
def inB (c s:Int):Prop:=-(c * 1000000000000)≤s∧s≤c * 1000000000000
structure F7 (a:Ag):Prop where
 c:1≤a.c
 p:inB a.c a.p.s
 q:inB a.c a.q.s
 r:inB a.c a.r.s
theorem lS {c d s t:Int} (h1:inB c s) (h2:inB d t):inB (c+d) (s+t):=by unfold inB at *;omega
theorem F7.join {a b:Ag} (ha:F7 a) (hb:F7 b):F7 (eB a b):=⟨by have:=ha.c;have:=hb.c;show 1≤a.c+b.c;omega,lS ha.p hb.p,lS ha.q hb.q,lS ha.r hb.r⟩
theorem LU {x y:Int} (h:-9223372036854775808≤x+y∧x+y≤9223372036854775807):Cu x y=(x+y,true):=by unfold Cu;rw [Zl h]
def GD (k:List Int):List CZ→Option Ag
 |[]=>none
 |f::l=>if f.1=k then some (match GD k l with|none=>f.2|some a=>eB f.2 a) else GD k l
theorem J5 {l m:List CZ} (h:l.Perm m) (k:List Int):GD k l=GD k m:=by
 induction h with
 |nil=>rfl
 |cons x _ ih=>simp only [GD,ih]
 |swap x y l=>
  simp only [GD];by_cases h1:x.1=k<;>by_cases h2:y.1=k<;>simp only [h1,h2,Gu,if_false];cases GD k l with
  |none=>simp only;rw [uE]
  |some a=>simp only;rw [←Te,←Te,uE y.2]
 |trans _ _ ih1 ih2=>exact ih1.trans ih2
def Q9:Option Ag→Option Ag→Option Ag
 |none,y=>y
 |x,none=>x
 |some a,some b=>some (eB a b)
theorem NM (k:List Int) (l m:List CZ):GD k (l++m)=Q9 (GD k l) (GD k m):=by
 induction l with
 |nil=>rfl
 |cons f l ih=>
  rw [KZ,GD,GD,ih];split
  ·cases GD k l<;>cases GD k m<;>simp [Q9,Te]
  ·rfl
def cnt:List CZ→Int
 |[]=>0
 |f::l=>f.2.c+cnt l
theorem aW {α:Type} {l:List α} {p:α} (h:l.getLast?=some p):l=l.dropLast++[p]:=by
 obtain ⟨ys,rfl⟩:=List.getLast?_eq_some_iff.1 h;rw [List.dropLast_concat]
def mX (l:List CZ):Prop:=l.Pairwise fun a b=>Dn a.1 b.1=-1
theorem N9 {l:List CZ} {f:CZ} (h:mX l) (hf:∀ p,l.getLast?=some p→Dn p.1 f.1=-1):mX (l++[f]):=by
 unfold mX;rw [Ze];refine ⟨h,List.pairwise_singleton _ _,fun a ha b hb=>?_⟩;rw [Ee] at hb;subst hb;cases hq:l.getLast? with
 |none=>
  rw [List.getLast?_eq_none_iff] at hq;rw [hq] at ha;cases ha
 |some p=>
  have hl:=hf p hq;have e:=aW hq;rw [e] at ha h;rcases Eb.1 ha with h1|h1
  ·have h2:=(Ze.1 h).2.2 a h1 _ (Ee.2 rfl);exact UR h2 hl
  ·rw [Ee] at h1;rw [h1];exact hl
theorem gG {k:List Int} {l:List CZ} (h:∀ f ∈ l,f.1≠k):GD k l=none:=by
 induction l with
 |nil=>rfl
 |cons f l ih=>rw [GD,Ak (h f (Gg ..)),ih fun x hx=>h x (Ii _ hx)]
theorem J4 {k:List Int} {l:List CZ} {f:CZ} (h:f ∈ l) (hk:f.1=k):GD k l≠none:=by
 induction l with
 |nil=>cases h
 |cons g l ih=>
  rw [GD];split
  ·simp
  ·rename_i h1;rcases FJ.1 h with rfl|h
   ·exact absurd hk h1
   ·exact ih h
end Go.Proofs.YtijplolmkcdflaaGreat
namespace Go.Proofs.YtijplolmkcdflaaGreat
open Go.RowKit
theorem xM {a b:List UInt8}:Op.bytesLess a b=false→a≠b→Op.bytesLess b a=true:=by
 induction a generalizing b with
 |nil=>
  intro h hn;cases b with
  |nil=>exact absurd rfl hn
  |cons x l=>simp [Op.bytesLess] at h
 |cons x l ih=>
  intro h hn;cases b with
  |nil=>rfl
  |cons y m=>
   rw [Op.bytesLess,Bool.or_eq_false_iff] at h;rw [Op.bytesLess,Bool.or_eq_true];by_cases h2:y<x
   ·exact .inl (by simpa using h2)
   ·right;have h1:¬ x<y:=by simpa using h.1
    have hxy:x=y:=by
     apply UInt8.toNat_inj.1;have a1:¬ x.toNat<y.toNat:=fun h=>h1 h
     have a2:¬ y.toNat<x.toNat:=fun h=>h2 h
     omega
    subst hxy;have h3:=h.2;simp only [beq_self_eq_true,YT] at h3 ⊢;exact ih h3 (fun e=>hn (by rw [e]))
def within (lo hi u:List UInt8):Bool:=!Op.bytesLess u lo && !Op.bytesLess hi u
theorem Ab0 (s:List UInt8) (ts:List (List UInt8)):decide (0≤Sl s ts)=(posOf s ts).isSome:=by
 unfold Sl;cases posOf s ts with
 |none=>rfl
 |some i=>simp
def KQ (p:PC) (u:List UInt8):Bool:=if p.f=0 then true else if p.f=1 then within p.lo p.hi u else (posOf u p.set).isSome
end Go.Proofs.YtijplolmkcdflaaGreat
namespace Go.Proofs.YtijplolmkcdflaaGreat
open Tryz
open Go.RowKit
def QP (p:PC):Bool:=decide (p.t=0∧p.lo=[]∧p.hi=[]∧p.set.length=0)
theorem Ai6 (p:Pk) (w:World) (hp:p.rd w):
 Calls prog 178 #[.agg p.cs] w fun e w'=>e=.returned (.bool (QP p.Ac))∧Ai w w':=by
 have hl:Hid (p.set.l.length=p.set.n):=hp.set.len;have n63:=hp.set.n63;have H:=Aa ((SL.start No w).alloc p.cs 80);(try simp only [LS] at H);obtain ⟨pf,pt,lo,hi,⟨A,n,c,set⟩,g,pb⟩:=p;simp only [Pk.cs,Pk.Ac] at *;clear hp;have c1:=(H.blk 0 rfl).Ap 1;have c2:=(H.blk 0 rfl).Ap 2;have c3:=(H.blk 0 rfl).Ap 3;have c4:=(H.blk 0 rfl).Ap 4;by_cases ht:pt=0
 ·subst ht;cases lo with
  |nil=>
   cases hi with
   |nil=>
    by_cases hn:n=0
    ·have HF:Hid (QP ⟨pf,0,[],[],set,g,pb⟩=true):=by show _=_;unfold QP;have:=hl.Ab;simp;exact List.length_eq_zero_iff.1 Xl
     subst hn;go_enter func178,ntmps178;go_wp2;go_ret;rw [HF.Ab];exact ⟨rfl,H.to⟩
    ·have HF:Hid (QP ⟨pf,0,[],[],set,g,pb⟩=false):=by
      show _=_;unfold QP;have:=hl.Ab;exact WB (fun h=>hn (by have:=h.2.2.2;simp only at this;omega))
     have z1:((n:Int)==0)=false:=by simpa using hn
     have z2:(n==0)=false:=by simpa using hn
     go_enter func178,ntmps178;go_wp2;go_ret;rw [HF.Ab];exact ⟨rfl,H.to⟩
   |cons a r=>
    have HF:Hid (QP ⟨pf,0,[],a::r,set,g,pb⟩=false):=by show _=_;unfold QP;simp
    go_enter func178,ntmps178;go_wp2;go_ret;rw [HF.Ab];exact ⟨rfl,H.to⟩
  |cons a r=>
   have HF:Hid (QP ⟨pf,0,a::r,hi,set,g,pb⟩=false):=by show _=_;unfold QP;simp
   go_enter func178,ntmps178;go_wp2;go_ret;rw [HF.Ab];exact ⟨rfl,H.to⟩
 ·have z1:(pt==0)=false:=by simpa using ht
  have HF:Hid (QP ⟨pf,pt,lo,hi,set,g,pb⟩=false):=by show _=_;unfold QP;simp [ht]
  go_enter func178,ntmps178;go_wp2;go_ret;rw [HF.Ab];exact ⟨rfl,H.to⟩
theorem Ze0 {p:Prop} (h:p:=by simp only;omega):p:=h
theorem vH (p:Pk) (w:World) (hp:p.rd w):
 Calls prog 179 #[.agg p.cs] w fun e w'=>e=.returned (.int .i64 (Ib p.Ac))∧Ai w w':=by
 have hl:Hid (p.set.l.length=p.set.n):=hp.set.len;have n63:=hp.set.n63;have l63:=hp.lo;have h63:=hp.hi;have H:=Aa ((SL.start No w).alloc p.cs 80);(try simp only [LS] at H);obtain ⟨pf,pt,lo,hi,⟨A,n,c,set⟩,g,pb⟩:=p;simp only [Pk.cs,Pk.Ac] at *;clear hp;have c1:=(H.blk 0 rfl).Ap 2;have c2:=(H.blk 0 rfl).Ap 3;have c3:=(H.blk 0 rfl).Ap 4;by_cases hn:n=0
 ·have hs0:¬ 0<set.length:=by have:=hl.Ab;omega
  subst hn;by_cases h1:16<lo.length
  ·have d1:decide ((16:Int)<(lo.length:Int))=true:=by simp<;>omega
   have HF:Hid (Ib ⟨pf,pt,lo,hi,set,g,pb⟩=5):=by show _=_;unfold Ib;rw [Ak hs0,Al (.inl h1)]
   go_enter func179,ntmps179;go_wp2;go_ret;rw [HF.Ab];exact ⟨rfl,H.to⟩
  ·have d1:decide ((16:Int)<(lo.length:Int))=false:=by simp<;>omega
   by_cases h2:16<hi.length
   ·have d2:decide ((16:Int)<(hi.length:Int))=true:=by simp<;>omega
    have HF:Hid (Ib ⟨pf,pt,lo,hi,set,g,pb⟩=5):=by show _=_;unfold Ib;rw [Ak hs0,Al (.inr h2)]
    go_enter func179,ntmps179;go_wp2;go_ret;rw [HF.Ab];exact ⟨rfl,H.to⟩
   ·have d2:decide ((16:Int)<(hi.length:Int))=false:=by simp<;>omega
    have HF:Hid (Ib ⟨pf,pt,lo,hi,set,g,pb⟩=0):=by show _=_;unfold Ib;rw [Ak hs0,Ak Ze0]
    go_enter func179,ntmps179;go_wp2;go_ret;rw [HF.Ab];exact ⟨rfl,H.to⟩
 ·have d1:decide ((0:Int)<(n:Int))=true:=by simp<;>omega
  have HF:Hid (Ib ⟨pf,pt,lo,hi,set,g,pb⟩=2):=by show _=_;unfold Ib;rw [Al (by have:=hl.Ab;simp only;omega)]
  go_enter func179,ntmps179;go_wp2;go_ret;rw [HF.Ab];exact ⟨rfl,H.to⟩
theorem Ab1 (T:Bt) (p:Pk) (w:World) (hT:T.rd w) (hp:p.rd w) (hr:Nf T.ts.l) (hn:T.ts.n≤1000000) (hs:p.set.n≤100000):
 Calls prog 180 #[.agg T.cs,.agg p.cs] w fun e w'=>e=.returned (.int .i64 (FQ T.ts.l p.Ac))∧Ai w w':=by
 have hl:Hid (p.set.l.length=p.set.n):=hp.set.len;have HP:=Aa hp.set;have HT:=Aa hT.ts;have HR:=Aa hr;have H:=Aa (((SL.start No w).alloc T.cs 75).alloc p.cs 80);(try simp only [LS] at H);obtain ⟨pf,pt,lo,hi,⟨A,n,c,set⟩,g,pb⟩:=p;obtain ⟨nm,⟨A2,n2,c2,ts⟩,⟨A3,n3,c3,ups⟩⟩:=T;simp only [Pk.cs,Pk.Ac,Bt.cs] at *;clear hp hT hr;have c1:=(H.blk 1 rfl).Ap 2;have c2:=(H.blk 1 rfl).Ap 3;cases lo with
 |cons a r=>
  have HF:Hid (FQ ts ⟨pf,pt,a::r,hi,set,g,pb⟩=2):=by show _=_;unfold FQ;rw [Ak uH]
  go_enter func180,ntmps180;go_wp2;go_ret;rw [HF.Ab];exact ⟨rfl,H.to⟩
 |nil=>
  cases hi with
  |cons a r=>
   have HF:Hid (FQ ts ⟨pf,pt,[],a::r,set,g,pb⟩=2):=by show _=_;unfold FQ;rw [Ak uH]
   go_enter func180,ntmps180;go_wp2;go_ret;rw [HF.Ab];exact ⟨rfl,H.to⟩
  |nil=>
   have HE:Hid (FQ ts ⟨pf,pt,[],[],set,g,pb⟩=if Cr set≠0 then Cr set else Ju ts (set.drop 0)):=by show _=_;unfold FQ;rw [Al ⟨rfl,rfl⟩];(try rfl)
   have c4:=(H.blk 1 rfl).Ap 4;go_enter func180,ntmps180;go_wp2_with fail;refine (Rq A n c set _ (HP.mono H.to).texts (HP.mono H.to).nU hs).mono ?_;rintro e w1 ⟨rfl,rfl⟩;by_cases hE:Cr set=0
   ·have dZ:Hid (FQ ts ⟨pf,pt,[],[],set,g,pb⟩=Ju ts (set.drop 0)):=by show _=_;rw [HE.Ab,Ak Xl]
    rw [hE];clear HE hE;go_wp2_with fail;clear c1 c2 c4;generalize w.heap.size+1=y at *;generalize w.heap.size=x at *;generalize World.alloc _ _=w1 at *;go_loopg [27] n (fun gg i wr=>∃ k:Nat,gg=n - k∧k≤n∧i=.int .i64 k∧Hid (SL No w wr [Aw x 75 #[.string ⟨nm.toArray⟩,.slice A2 n2 c2,.slice A3 n3 c3],Aw y 80 #[.int .i64 pf,.int .i64 pt,.string ⟨#[]⟩,.string ⟨#[]⟩,.slice A n c,.bool g,.int .i64 pb]])∧Hid (FQ ts ⟨pf,pt,[],[],set,g,pb⟩=Ju ts (set.drop k)));case atStart=>exact ⟨0,rfl,Xl,rfl,H,dZ⟩
    case round=>
     clear H dZ;obtain ⟨k,BR,hk,rfl,H,HE⟩:=hrel;have Cs:=Aa BR;clear BR;by_cases hlt:k<n
     ·obtain ⟨bb,oo,s,hA,hsk,hsl,q1⟩:=(HP.mono H.to).GR (k:=k) hlt;simp only at hA;subst hA;have Jn:=Aa (XP (tr:=ts) hsk);have c1:=(H.blk 0 rfl).Ap 1;clear hsk;go_wp2_with fail;refine (WI ⟨A2,n2,c2,ts⟩ s _ (HT.mono H.to) HR hn).mono ?_;rintro e w2 ⟨p,fb,rfl,rfl,hF⟩;clear c1 q1;cases fb with
      |false=>
       have HN:Hid (FQ ts ⟨pf,pt,[],[],set,g,pb⟩=13):=by show _=_;rw [HE.Ab,Jn.Ab,hF.2.2 rfl]
       clear HE Jn hF;go_wp2;go_ret;rw [HN.Ab];exact ⟨rfl,H.to⟩
      |true=>
       have HN:Hid (FQ ts ⟨pf,pt,[],[],set,g,pb⟩=Ju ts (set.drop (k+1))):=by show _=_;rw [HE.Ab,Jn.Ab,hF.2.1 rfl]
       clear HE Jn hF;go_wp2;exact Zd5
     ·have HN:Hid (FQ ts ⟨pf,pt,[],[],set,g,pb⟩=0):=by show _=_;rw [HE.Ab,EN (by have:=hl.Ab;omega)];(try rfl)
      clear HE;go_wp2;go_ret;rw [HN.Ab];exact ⟨rfl,H.to⟩
   ·have dZ:Hid (FQ ts ⟨pf,pt,[],[],set,g,pb⟩=Cr set):=by show _=_;rw [HE.Ab,Al hE]
    have z1:(Cr set !=0)=true:=by simpa using hE
    have z2:(Cr set==0)=false:=by simpa using hE
    clear HE hE;go_wp2;go_ret;rw [dZ.Ab];exact ⟨rfl,H.to⟩
theorem yG (d:Dm) (p:Pk) (w:World) (hd:d.rd w) (hp:p.rd w) (hr:∀ t ∈ d.tr.l,Nf t.ts.l∧t.ts.n≤1000000) (hs:p.set.n≤100000):
 Calls prog 146 #[.agg d.cs,.agg p.cs] w fun e w'=>e=.returned (.int .i64 (BF d.Ac p.Ac))∧Ai w w':=by
 have HFr:=Aa (fun w' (hb:Ai w w')=>Ai6 p w' (hp.mono hb));have HWi:=Aa (fun w' (hb:Ai w w')=>vH p w' (hp.mono hb));have HAm:=Aa (fun T w' (hT:T.rd w') (hb:Ai w w') (h1:Nf T.ts.l) (h2:T.ts.n≤1000000)=>Ab1 T p w' hT (hp.mono hb) h1 h2 hs);have HHas:=Aa (fun k w' (hb:Ai w w')=>SS d k w' (hd.mono hb));have HR:=Aa hr;have HD:=Aa hd.tr;have hl:Hid (d.tr.l.length=d.tr.n):=hd.tr.len;have n63:=hd.tr.n63;have hpt:=hp.t;have H:=Aa (((SL.start No w).alloc d.cs 73).alloc p.cs 80);(try simp only [LS] at H);obtain ⟨pf,pt,lo,hi,⟨A,n,c,set⟩,g,pb⟩:=p;obtain ⟨nm,⟨A2,n2,c2,Bi⟩⟩:=d;simp only [Pk.cs,Pk.Ac,Dm.cs,Dm.Ac] at *;clear hp hd hr;have c0:=(H.blk 1 rfl).Ap 0;have c1:=(H.blk 1 rfl).Ap 1;by_cases h0:pf=0
 ·subst h0;cases hB:QP ⟨0,pt,lo,hi,set,g,pb⟩ with
  |true=>
   have HE:Hid (BF ⟨nm,Bi.map Bt.Ac⟩ ⟨0,pt,lo,hi,set,g,pb⟩=0):=by
    show _=_;unfold BF;rw [Al rfl,Al (Ue hB)]
   rw [hB] at HFr;go_enter func146,ntmps146;go_wp2_with ((with_reducible refine OP 9 ?_);(refine Bf EC (H.blk 1 rfl) ?_));refine (HFr _ H.to).mono ?_;rintro e w1 ⟨rfl,hb1⟩;replace H:=Aa (H.Av hb1);go_wp2;go_ret;rw [HE.Ab];exact ⟨rfl,H.to⟩
  |false=>
   have HE:Hid (BF ⟨nm,Bi.map Bt.Ac⟩ ⟨0,pt,lo,hi,set,g,pb⟩=2):=by
    show _=_;unfold BF;rw [Al rfl,Ak (kE hB)]
   rw [hB] at HFr;go_enter func146,ntmps146;go_wp2_with ((with_reducible refine OP 9 ?_);(refine Bf EC (H.blk 1 rfl) ?_));refine (HFr _ H.to).mono ?_;rintro e w1 ⟨rfl,hb1⟩;replace H:=Aa (H.Av hb1);go_wp2;go_ret;rw [HE.Ab];exact ⟨rfl,H.to⟩
 ·have z0:(pf==0)=false:=by simpa using h0
  by_cases h12:pf=1∨pf=2
  ·have Ng:Hid (BF ⟨nm,Bi.map Bt.Ac⟩ ⟨pf,pt,lo,hi,set,g,pb⟩=if 0≤pt then (match (Bi.map Bt.Ac)[pt.toNat]? with|none=>2|some tr=>if pf=1 then Ib ⟨pf,pt,lo,hi,set,g,pb⟩ else FQ tr.ts ⟨pf,pt,lo,hi,set,g,pb⟩) else 2):=by
    show _=_;unfold BF;rw [Ak h0,Al h12];(try rfl)
   by_cases hh:0≤pt∧pt<n2
   ·have hd1:decide (0≤pt∧pt<(n2:Int))=true:=by simpa using hh
    obtain ⟨t,rfl⟩:∃ k:Nat,pt=k:=⟨pt.toNat,Xl⟩;have htn:t<n2:=by omega
    obtain ⟨bb,oo,T,hA,hbb,xW,hTr,hrg⟩:=(HD.mono H.to).JO (k:=t) htn;simp only at hA;subst hA;have Tk:(Bi.map Bt.Ac)[t]?=some T.Ac:=by rw [Ed,xW];(try rfl)
    have dZ:Hid (BF ⟨nm,Bi.map Bt.Ac⟩ ⟨pf,t,lo,hi,set,g,pb⟩=if pf=1 then Ib ⟨pf,t,lo,hi,set,g,pb⟩ else FQ T.ts.l ⟨pf,t,lo,hi,set,g,pb⟩):=by
     show _=_;rw [Ng.Ab,Al Xl,Db,Tk]
    obtain ⟨hri,hrn⟩:=HR T (CU xW);have HRi:=Aa hri;have nP:=Aa hrg;have uN:=Aa hTr;have i0:(0:Int)≤t:=by omega
    have i1:(t:Int)<n2:=by omega
    clear Ng xW hTr hrg Tk hri hh;rcases h12 with h1|h2
    ·subst h1;have HE2:Hid (BF ⟨nm,Bi.map Bt.Ac⟩ ⟨1,t,lo,hi,set,g,pb⟩=Ib ⟨1,t,lo,hi,set,g,pb⟩):=by show _=_;rw [dZ.Ab,Al rfl]
     clear dZ hbb;go_enter func146,ntmps146;go_wp2_with ((with_reducible refine OP 15 ?_);(refine Bf CX (H.blk 0 rfl) ?_));refine (HHas _ _ H.to).mono ?_;rintro e w1 ⟨rfl,hb1⟩;replace H:=Aa (H.Av hb1);rw [hd1];clear c0 c1 hb1;have c0:=(H.blk 1 rfl).Ap 0;go_wp2_with ((with_reducible refine OP 23 ?_);(refine Bf EC (H.blk 1 rfl) ?_));refine (HWi _ H.to).mono ?_;rintro e w2 ⟨rfl,hb2⟩;replace H:=Aa (H.Av hb2);go_wp2;go_ret;rw [HE2.Ab];exact ⟨rfl,H.to⟩
    ·subst h2;have HE2:Hid (BF ⟨nm,Bi.map Bt.Ac⟩ ⟨2,t,lo,hi,set,g,pb⟩=FQ T.ts.l ⟨2,t,lo,hi,set,g,pb⟩):=by show _=_;rw [dZ.Ab,Ak Xl]
     clear dZ;go_enter func146,ntmps146;go_wp2_with ((with_reducible refine OP 15 ?_);(refine Bf CX (H.blk 0 rfl) ?_));refine (HHas _ _ H.to).mono ?_;rintro e w1 ⟨rfl,hb1⟩;replace H:=Aa (H.Av hb1);rw [hd1];replace nP:=Aa (CP hbb nP hb1);replace uN:=Aa (uN.mono hb1);replace hbb:=KI hbb hb1.size;clear c0 c1 hb1;have c0:=(H.blk 1 rfl).Ap 0;have c1:=(H.blk 1 rfl).Ap 1;have c2:=(H.blk 0 rfl).Ap 1;go_upto_region 13 with fail;have f_c0:=fun u:Over w1=>Over.cell c0 u
     have f_c1:=fun u:Over w1=>Over.cell c1 u
     have f_c2:=fun u:Over w1=>Over.cell c2 u
     refine Am ?_;repeat (first
      |((with_reducible show wpQuiet _ _ _ _ (⟨some 30,_,_,_,_,_⟩::_) _);refine Ah (by first|rfl|go_simp) Du (.tmp 29) rfl bb (oo+t * 3) rfl T.cs rfl hbb nP.Ab ?_;simp only [Act.put,LP])
      |((with_reducible show wpQuiet _ _ _ _ (⟨some 31,_,_,_,_,_⟩::_) _);refine Ah (by first|rfl|go_simp) EC (.tmp 3) rfl _ (0) rfl _ rfl (H.blk 1 rfl).lt (H.blk 1 rfl).range ?_;simp only [Act.put,LP])
      |go_big_quiet_step (((go_at_call 180;rename_i u;exact AB (HAm T _ (uN.mono u.Av) (H.to.trans u.Av) HRi hrn)))))
     refine CS ?_;rintro _ ⟨⟨w5,Gd⟩,rfl⟩;replace H:=Aa (H.Av Gd);clear f_c0 f_c1 f_c2 c0 c1 c2;go_wp2;go_ret;rw [HE2.Ab];exact ⟨rfl,H.to⟩
   ·have hd1:decide (0≤pt∧pt<(n2:Int))=false:=by simp<;>omega
    have HE:Hid (BF ⟨nm,Bi.map Bt.Ac⟩ ⟨pf,pt,lo,hi,set,g,pb⟩=2):=by
     show _=_;rw [Ng.Ab];by_cases hp0:0≤pt
     ·rw [Al hp0,Jj (by have:=hl.Ab;simp only [CQ] at this ⊢;omega)]
     ·rw [Ak hp0]
    clear Ng;rcases h12 with h1|h2
    ·subst h1;go_enter func146,ntmps146;go_wp2_with ((with_reducible refine OP 15 ?_);(refine Bf CX (H.blk 0 rfl) ?_));refine (HHas _ _ H.to).mono ?_;rintro e w1 ⟨rfl,hb1⟩;replace H:=Aa (H.Av hb1);rw [hd1];go_wp2;go_ret;rw [HE.Ab];exact ⟨rfl,H.to⟩
    ·subst h2;go_enter func146,ntmps146;go_wp2_with ((with_reducible refine OP 15 ?_);(refine Bf CX (H.blk 0 rfl) ?_));refine (HHas _ _ H.to).mono ?_;rintro e w1 ⟨rfl,hb1⟩;replace H:=Aa (H.Av hb1);rw [hd1];go_wp2;go_ret;rw [HE.Ab];exact ⟨rfl,H.to⟩
  ·have z1:(pf==1)=false:=by simp<;>omega
   have z2:(pf==2)=false:=by simp<;>omega
   have HE:Hid (BF ⟨nm,Bi.map Bt.Ac⟩ ⟨pf,pt,lo,hi,set,g,pb⟩=2):=by show _=_;unfold BF;rw [Ak h0,Ak h12]
   go_enter func146,ntmps146;go_wp2;go_ret;rw [HE.Ab];exact ⟨rfl,H.to⟩
theorem Zr3 {p:Prop} (h:p:=by
 replace H:=Aa (H.Fg [0,1] Za1 uH);(try simp only [LS] at H);go_wp2;go_roundg (m - (k+1));case rel=>exact ⟨k+1,rfl,Xl,by go_num,H,HN⟩
 case measure=>rw [Cs.Ab];omega
):p:=h
theorem Zl3 {p:Prop} (h:p:=by
 clear HB Jn hf;go_upto_region 12 with fail;have Ku:=fun u:Over w2=>Over.cell Gc u
 have ML:=fun u:Over w2=>Over.cell XZ u
 have MK:=fun u:Over w2=>Over.cell PI u
 refine Am ?_;(try simp only [Act.put,LP]);repeat (first
  |((with_reducible show wpQuiet _ _ _ _ (⟨some 46,_,_,_,_,_⟩::_) _);refine Ah (by first|rfl|go_simp) CX (.tmp 45) rfl b1 (o1+k * 2) rfl D.cs rfl hb1 HR1.Ab ?_;simp only [Act.put,LP])
  |go_big_quiet_step (((go_at_call 147;rename_i u;exact AB (SS D pb _ (nR.mono u.Av))))))
 refine CS ?_;rintro w5 ⟨⟨_,Gd⟩,rfl⟩;(try dsimp only);replace H:=Aa (H.Av Gd);clear Ku ML MK Gc XZ PI;exact Zr3
):p:=h
theorem Zq3 {p:Prop} (h:p:=by
 have hpe:DL D.Ac ⟨pf,pt,lo,hi,set,true,pb⟩=2:=by unfold DL bQ;have h9:=hDl.Ab;have:=kE hh;rw [Ak (by rw [hf];omega),Al (Or.inl ⟨rfl,by simp only [CQ];simp;omega⟩)]
 show _=_;rw [HB.Ab,Jn.Ab,hpe,Al Xl]
):p:=h
theorem Zr0 {p:Prop} (h:p:=by
 have hpe:DL D.Ac ⟨pf,pt,lo,hi,set,true,pb⟩=0:=by unfold DL bQ;have h9:=hDl.Ab;have:=Ue hh;rw [Ak (by rw [hf];omega),Ak (by simp only [CQ];simp;omega)]
 show _=_;rw [HB.Ab,Jn.Ab,hpe,Ak Xl]
):p:=h
theorem Zr7 {p:Prop} (h:p:=by
 have hpe:DL D.Ac ⟨pf,pt,lo,hi,set,false,pb⟩=2:=by unfold DL bQ;have h9:=hDl.Ab;rw [Ak (by rw [hf];omega),Al (Or.inr ⟨rfl,hb⟩)]
 show _=_;rw [HB.Ab,Jn.Ab,hpe,Al Xl]
):p:=h
theorem Zs0 {p:Prop} (h:p:=by
 have hpe:DL D.Ac ⟨pf,pt,lo,hi,set,false,pb⟩=0:=by unfold DL bQ;have h9:=hDl.Ab;rw [Ak (by rw [hf];omega),Ak (by simp [hb])]
 show _=_;rw [HB.Ab,Jn.Ab,hpe,Ak Xl]
):p:=h
theorem Ze9 {p:Prop} (h:p:=by have:=hl1.Ab;have:=hl2.Ab;simp only [CQ] at this ⊢;omega):p:=h
theorem We (s:Ej) (q:Qr) (w:World) (hs:s.rd w) (hq:q.rd w) (hn:s.dm.n≤1000000) (hm:s.ms.n≤1000000) (hd:∀ d ∈ s.dm.l,d.tr.n≤1000000∧∀ t ∈ d.tr.l,t.up.n≤100000) (hp:∀ p ∈ q.ps.l,p.set.n≤100000):
 Calls prog 103 #[.agg s.cs,.agg q.cs] w fun e w'=>e=.returned (.int .i64 (BV s.Ac q.Ac))∧Ai w w':=by
 have HC:=Aa (fun w' (hb:Ai w w')=>GJ s w' (hs.mono hb) hn hm hd);have hl1:Hid (s.dm.l.length=s.dm.n):=hs.dm.len;have hl2:Hid (q.ps.l.length=q.ps.n):=Row.rd.len hq;have HD:=Aa hs.dm;have HQ:=Aa (show q.ps.rd w from hq);have n63:=hs.dm.n63;have m63:q.ps.n≤9223372036854775807:=hq.n63;have Ic:=Aa (fun hE=>ZH hs hE);have fQ:=Aa hp;have H:=Aa (((SL.start No w).alloc s.cs 25).alloc q.cs 29);(try simp only [LS] at H);obtain ⟨⟨A,n,c,ds⟩,⟨A2,n2,c2,ms⟩⟩:=s;obtain ⟨⟨B,m,d,ps⟩⟩:=q;simp only [Ej.cs,Ej.Ac,Qr.cs,Qr.Ac] at *;clear hs hq hp hd;go_enter func103,ntmps103;go_wp2_with ((with_reducible refine OP 9 ?_);(refine Bf Bb (H.blk 0 rfl) ?_));refine (HC _ H.to).mono ?_;rintro e w1 ⟨rfl,hb1⟩;replace H:=Aa (H.Av hb1);clear hb1 HC;by_cases hE:Ay ⟨ds.map Dm.Ac,ms⟩=0
 ·have HRE:=Aa (Ic hE);have Ng:Hid (BV ⟨ds.map Dm.Ac,ms⟩ (ps.map Pk.Ac)=if (ps.map Pk.Ac).length≠(ds.map Dm.Ac).length then 2 else Dq (ds.map Dm.Ac) (ps.map Pk.Ac)):=by show _=_;unfold BV;rw [Ak Xl]
  rw [hE];clear Ic;have Gc:=(H.blk 0 rfl).Ap 0;have Xi:=(H.blk 1 rfl).Ap 0;by_cases hl:m=n
  ·subst hl;have HB:Hid (BV ⟨ds.map Dm.Ac,ms⟩ (ps.map Pk.Ac)=Dq ((ds.map Dm.Ac).drop 0) ((ps.map Pk.Ac).drop 0)):=by
    show _=_;rw [Ng.Ab,Ak Ze9];(try rfl)
   clear Ng hE;go_wp2_with fail;generalize w.heap.size+1=y at *;generalize w.heap.size=x at *;clear Gc Xi;go_loopg [24] m (fun gg i wr=>∃ k:Nat,gg=m - k∧k≤m∧i=.int .i64 k∧Hid (SL No w wr [Aw x 25 #[.slice A m c,.slice A2 n2 c2],Aw y 29 #[.slice B m d]])∧Hid (BV ⟨ds.map Dm.Ac,ms⟩ (ps.map Pk.Ac)=Dq ((ds.map Dm.Ac).drop k) ((ps.map Pk.Ac).drop k)));case atStart=>exact ⟨0,rfl,Xl,rfl,H,HB⟩
   case round=>
    clear H HB;obtain ⟨k,BR,hk,rfl,H,HB⟩:=hrel;have Cs:=Aa BR;clear BR;by_cases hlt:k<m
    ·obtain ⟨b1,o1,D,hA,hb1,Ve,Fj,hrg1⟩:=(HD.mono H.to).Sd (k:=k) hlt;simp only at hA;subst hA;obtain ⟨b2,o2,p,hB,hb2,hpk,hpr,hrg2⟩:=(HQ.mono H.to).P7 (k:=k) hlt;simp only at hB;subst hB;have EW:(ds.map Dm.Ac)[k]?=some D.Ac:=by rw [Ed,Ve];(try rfl)
     have hpc:(ps.map Pk.Ac)[k]?=some p.Ac:=by rw [Ed,hpk];(try rfl)
     have Jn:=Aa (TK EW hpc);have HR1:=Aa hrg1;have HR2:=Aa hrg2;have nR:=Aa Fj;have HPr:=Aa hpr;have HRi:=Aa (HRE D (CU Ve));have hps:=fQ p (CU hpk);have i0:(0:Int)≤k:=by omega
     have i1:(k:Int)<m:=by omega
     have D63:=Fj.tr.n63;have hDl:Hid (D.tr.l.length=D.tr.n):=Fj.tr.len;clear Ve hpk hrg1 hrg2 EW hpc Fj hpr hb2;go_upto_region 9 with (first|((with_reducible refine OP 28 ?_);(refine Af rfl EC (.tmp 27) rfl b2 (o2+k * 7) rfl p.cs rfl HR2.Ab ?_))|((with_reducible refine OS 7 ?_);(refine DX EC (p.cs) (OZ p) ?_;replace H:=Aa (H.alloc (p.cs) 80);(try simp only [LS] at H))));replace nR:=Aa (nR.mono ((Ai.refl wr).alloc (.cells p.cs 80)));replace HPr:=Aa (HPr.mono ((Ai.refl wr).alloc (.cells p.cs 80)));replace HR1:=Aa (CP hb1 HR1 ((Ai.refl wr).alloc (.cells p.cs 80)));replace hb1:b1<(wr.alloc (.cells p.cs 80)).heap.size:=KI hb1 ((Ai.refl wr).alloc (.cells p.cs 80)).size;generalize wr.heap.size=z at *;generalize wr.alloc (.cells p.cs 80)=w3 at *;have Gc:=(H.blk 0 rfl).Ap 0;have Ku:=fun u:Over w3=>Over.cell Gc u
     refine Am ?_;(try simp only [Act.put,LP]);repeat (first
      |((with_reducible show wpQuiet _ _ _ _ (⟨some 33,_,_,_,_,_⟩::_) _);refine Ah (by first|rfl|go_simp) CX (.tmp 32) rfl b1 (o1+k * 2) rfl D.cs rfl hb1 HR1.Ab ?_;simp only [Act.put,LP])
      |((with_reducible show wpQuiet _ _ _ _ (⟨some 34,_,_,_,_,_⟩::_) _);refine Ah (by first|rfl|go_simp) EC (.tmp 7) rfl _ (0) rfl _ rfl (H.blk 2 rfl).lt (H.blk 2 rfl).range ?_;simp only [Act.put,LP])
      |go_big_quiet_step (((go_at_call 146;rename_i u;exact AB (yG D p _ (nR.mono u.Av) (HPr.mono u.Av) HRi hps)))))
     refine CS ?_;rintro w5 ⟨⟨_,Gd⟩,rfl⟩;(try dsimp only);replace H:=Aa (H.Av Gd);clear Ku Gc;obtain ⟨w2,hw2⟩:∃ w2,w2=w5:=⟨_,rfl⟩;subst hw2;replace nR:=Aa (nR.mono Gd);replace HR1:=Aa (CP hb1 HR1 Gd);replace hb1:=KI hb1 Gd.size;clear Gd HPr HR2;by_cases hf:BF D.Ac p.Ac=0
     ·rw [hf];obtain ⟨pf,pt,lo,hi,⟨A3,n3,c3,set⟩,g,pb⟩:=p;simp only [Pk.cs,Pk.Ac] at *;have Gc:=(H.blk 0 rfl).Ap 0;have XZ:=(H.blk 2 rfl).Ap 5;have PI:=(H.blk 2 rfl).Ap 6;cases g with
      |true=>
       cases hh:decide (0≤pb∧pb<(D.tr.n:Int)) with
       |true=>
        have HN:Hid (BV ⟨ds.map Dm.Ac,ms⟩ (ps.map Pk.Ac)=Dq ((ds.map Dm.Ac).drop (k+1)) ((ps.map Pk.Ac).drop (k+1))):=by
         exact Zr0
        exact Zl3
       |false=>
        have HN:Hid (BV ⟨ds.map Dm.Ac,ms⟩ (ps.map Pk.Ac)=2):=by
         exact Zq3
        clear HB Jn hf;go_upto_region 12 with fail;have Ku:=fun u:Over w2=>Over.cell Gc u
        have ML:=fun u:Over w2=>Over.cell XZ u
        have MK:=fun u:Over w2=>Over.cell PI u
        refine Am ?_;(try simp only [Act.put,LP]);repeat (first
         |((with_reducible show wpQuiet _ _ _ _ (⟨some 46,_,_,_,_,_⟩::_) _);refine Ah (by first|rfl|go_simp) CX (.tmp 45) rfl b1 (o1+k * 2) rfl D.cs rfl hb1 HR1.Ab ?_;simp only [Act.put,LP])
         |go_big_quiet_step (((go_at_call 147;rename_i u;exact AB (SS D pb _ (nR.mono u.Av))))))
        refine CS ?_;rintro w5 ⟨⟨_,Gd⟩,rfl⟩;(try dsimp only);replace H:=Aa (H.Av Gd);clear Ku ML MK Gc XZ PI;go_wp2;go_ret;rw [HN.Ab];exact ⟨rfl,H.to⟩
      |false=>
       by_cases hb:pb=0
       ·have HN:Hid (BV ⟨ds.map Dm.Ac,ms⟩ (ps.map Pk.Ac)=Dq ((ds.map Dm.Ac).drop (k+1)) ((ps.map Pk.Ac).drop (k+1))):=by
         exact Zs0
        subst hb;exact Zl3
       ·have HN:Hid (BV ⟨ds.map Dm.Ac,ms⟩ (ps.map Pk.Ac)=2):=by
         exact Zr7
        have z1:(pb !=0)=true:=by simpa using hb
        have z2:(pb==0)=false:=by simpa using hb
        clear HB Jn hf;go_upto_region 12 with fail;have Ku:=fun u:Over w2=>Over.cell Gc u
        have ML:=fun u:Over w2=>Over.cell XZ u
        have MK:=fun u:Over w2=>Over.cell PI u
        refine Am ?_;(try simp only [Act.put,LP]);repeat (first
         |((with_reducible show wpQuiet _ _ _ _ (⟨some 46,_,_,_,_,_⟩::_) _);refine Ah (by first|rfl|go_simp) CX (.tmp 45) rfl b1 (o1+k * 2) rfl D.cs rfl hb1 HR1.Ab ?_;simp only [Act.put,LP])
         |go_big_quiet_step (((go_at_call 147;rename_i u;exact AB (SS D pb _ (nR.mono u.Av))))))
        refine CS ?_;rintro w5 ⟨⟨_,Gd⟩,rfl⟩;(try dsimp only);replace H:=Aa (H.Av Gd);clear Ku ML MK Gc XZ PI;go_wp2;go_ret;rw [HN.Ab];exact ⟨rfl,H.to⟩
     ·have HN:Hid (BV ⟨ds.map Dm.Ac,ms⟩ (ps.map Pk.Ac)=BF D.Ac p.Ac):=by
       have hpe:DL D.Ac p.Ac=BF D.Ac p.Ac:=by unfold DL;rw [Al hf]
       show _=_;rw [HB.Ab,Jn.Ab,hpe,Al hf]
      have z1:(BF D.Ac p.Ac !=0)=true:=by simpa using hf
      have z2:(BF D.Ac p.Ac==0)=false:=by simpa using hf
      clear HB Jn hf;go_wp2;go_ret;rw [HN.Ab];exact ⟨rfl,H.to⟩
    ·have HN:Hid (BV ⟨ds.map Dm.Ac,ms⟩ (ps.map Pk.Ac)=0):=by
      show _=_;rw [HB.Ab,EN (by have:=hl1.Ab;simp only [CQ] at this ⊢;omega)];(try rfl)
     clear HB;go_wp2;go_ret;rw [HN.Ab];exact ⟨rfl,H.to⟩
  ·have HN:Hid (BV ⟨ds.map Dm.Ac,ms⟩ (ps.map Pk.Ac)=2):=by show _=_;rw [Ng.Ab,Al Ze9]
   have g1:((m:Int) !=(n:Int))=true:=by simp<;>omega
   have g2:(m !=n)=true:=by simp<;>omega
   clear hE Ng;go_wp2;go_ret;rw [HN.Ab];exact ⟨rfl,H.to⟩
 ·have HN:Hid (BV ⟨ds.map Dm.Ac,ms⟩ (ps.map Pk.Ac)=Ay ⟨ds.map Dm.Ac,ms⟩):=by show _=_;unfold BV;rw [Al hE]
  have z1:(Ay ⟨ds.map Dm.Ac,ms⟩ !=0)=true:=by simpa using hE
  have z2:(Ay ⟨ds.map Dm.Ac,ms⟩==0)=false:=by simpa using hE
  clear hE;go_wp2;go_ret;rw [HN.Ab];exact ⟨rfl,H.to⟩
theorem Nk (D:Pk):∀ u ∈ ([.int .i64 D.f,.int .i64 D.t,.string ⟨D.lo.toArray⟩,.string ⟨D.hi.toArray⟩,.slice D.set.A D.set.n D.set.c,.bool D.g,.int .i64 D.Mf]:List Value),u.oneCell'=true:=by simp [Value.oneCell']
def Rask (w0:World) (s:List UInt8) (B g z y:Nat) (d:Ej) (o:PR (List PC)) (k:Int) (w':World):Prop:=
 k=cZ o∧∃ (X:Row Pk) (q:List UInt8),SL No w0 w' (Kl B s q [Aw g 29 #[.slice X.A X.n X.c],Ce 80 7 (.slice X.A X.n X.c) X.n (X.l.flatMap AY.cells),BS Kk X.l,Aw z 25 d.cs,Aw y 29 #[.slice none 0 0]])∧X.n≤16∧∀ rows r,o=.ok (rows,r)→X.l.map Pk.Ac=rows
theorem Zi5 {p:Prop} (h:p:=by
 refine Aj Ad trivial fun hHeld=>?_;clear Ad KK;refine BG KW fun KK Ad=>?_;refine AX rfl (.tmp 10) (.tmp 13) _ rfl QX 0 (Bj _) _ k _ rfl (H.row 4 rfl) _ 1 1 _ rfl (Rd.BC (H.row 9 rfl)) (Nk D) Za4 Xl ?_;intro vq wq AJ Aq AQ;replace H:=Aa (H.setRow 4 rfl Aq AJ AQ);(try simp only [LS] at H);clear AJ Aq AQ;obtain ⟨A2,c2,rfl,_⟩:=Ao (H.row 4 rfl);refine Aj Ad trivial fun hHeld=>?_;clear Ad KK;refine BG MI fun KK Ad=>?_;go_simp;refine Aj Ad trivial fun hHeld=>?_;clear Ad KK;refine BG Lj fun KK Ad=>?_;have c1:=(H.blk 3 rfl).Ap 0;have f1:=(H.blk 3 rfl).frozen 0;go_simp;replace H:=Aa (H.setCell 3 rfl 0 (.slice A2 (k+1) c2));(try simp only [LS] at H);clear c1 f1;refine Aj Ad trivial fun hHeld=>?_;clear Ad KK;refine BZ ?_;clear hHeld;replace H:=Aa (H.both 5 8 Xl rfl rfl (BS Kk (rows++[D])) (Bl (H.get 5 rfl) (H.get 8 rfl)) Cg);(try simp only [LS] at H);replace H:=Aa (H.Fg [0,1,2,3,4,5,6,7] Za1 uH);(try simp only [LS] at H);have JS:Hid (Bw Dj n [] s=Bw Dj (n - (k+1)) ((rows++[D]).map Pk.Ac) l3):=by show _=_;rw [HN.Ab,Cf,Em,EX,OU.Ab]
 exact Zq7
):p:=h
theorem Zm1 {p:Prop} (h:p:=by go_simp;refine (HA _ (H.Fv 0 rfl)).mono ?_;rintro e' w3 ⟨rfl,hg3,l3,hr3⟩;replace H:=Aa (H.Cb 0 rfl hg3 hr3);(try simp only [LS] at H);refine ⟨rfl,?_⟩;have H9:SL No w0 _ (Kl B s l3 [Aw g 29 #[.slice A k c],Ce 80 7 (.slice A k c) k (rows.flatMap AY.cells),BS Kk rows,Aw z 25 #[.slice DA n cn,.slice MB m cm],Aw y 29 #[.slice none 0 0]]):=H.Ab;exact SL.err H9 ⟨by rw [show Gx n s=.error e1 from HN.Ab];(try rfl),⟨A,k,c,rows⟩,l3,H9,by show k≤16;omega,fun _ _ h=>by rw [show Gx n s=.error e1 from HN.Ab] at h;cases h⟩):p:=h
theorem Zp9 {p:Prop} (h:p:=by refine Aj Ad trivial fun hHeld=>?_;clear Ad KK;refine BG LJ fun KK Ad=>?_;refine BU rfl QX (.tmp 12) rfl (D.cs) rfl rfl Xl ?_;replace H:=Aa (H.Co ((Ai.refl _).alloc _) (CE _ 80 (D.cs) _ rfl));(try simp only [LS] at H);exact Zi5):p:=h
theorem mV (w0:World) (B g z y:Nat) (s:List UInt8) (d:Ej) (w:World) (hn:d.dm.n≤16) (h:SL No w0 w (Kl B s s [Aw g 29 #[.slice none 0 0],Ce 80 7 (.slice none 0 0) 0 (([]:List Pk).flatMap AY.cells),BS Kk ([]:List Pk),Aw z 25 d.cs,Aw y 29 #[.slice none 0 0]])):
 Calls prog 101 #[.pointer (some ⟨B+1,0,none⟩),.pointer (some ⟨z,0,none⟩),.pointer (some ⟨g,0,none⟩)] w (Nu B s (Rask w0 s B g z y d (Gx d.dm.n s))):=by
 have H:Hid (SL No w0 w [Qh (B+1) s s,Aw B 45 #[.int .i64 0],Aw (B+2) 166 #[.pointer (some ⟨B+1,0,none⟩)],Aw g 29 #[.slice none 0 0],Ce 80 7 (.slice none 0 0) 0 (([]:List Pk).flatMap AY.cells),BS Kk ([]:List Pk),Aw z 25 d.cs,Aw y 29 #[.slice none 0 0]]):=h;clear h;obtain ⟨⟨DA,n,cn,ds⟩,⟨MB,m,cm,ms⟩⟩:=d;simp only [Ej.cs] at *;go_enter func101,ntmps101;have Gc:=(H.blk 6 rfl).Ap 0;go_wp2_with fail;clear Gc;have HP:Hid (Bw Dj n [] s=Bw Dj (n - 0) (([]:List Pk).map Pk.Ac) s):=rfl;go_loopg [7] n (fun gg s6 wr=>∃ (k:Nat) (rows:List Pk) (A:Option Addr) (c:Nat) (l':List UInt8),gg=n - k∧k≤n∧s6=.int .i64 k∧Hid (rows.length=k)∧Hid (SL No w0 wr [Qh (B+1) s l',Aw B 45 #[.int .i64 0],Aw (B+2) 166 #[.pointer (some ⟨B+1,0,none⟩)],Aw g 29 #[.slice A k c],Ce 80 7 (.slice A k c) k (rows.flatMap AY.cells),BS Kk rows,Aw z 25 #[.slice DA n cn,.slice MB m cm],Aw y 29 #[.slice none 0 0]])∧Hid (Bw Dj n [] s=Bw Dj (n - k) (rows.map Pk.Ac) l'));case atStart=>exact ⟨0,[],none,0,s,rfl,Xl,rfl,rfl,H,HP⟩
 case round=>
  clear H HP;obtain ⟨k,rows,A,c,l',BR,hk,rfl,hac,H,HP⟩:=hrel;have Cs:=Aa BR;have rH:k≤16:=by omega
  clear BR;by_cases hlt:k<n
  ·have HN:=Aa (HP.trans (GX hlt));have HA:=Aa (fun w (hr:Ir w (B+1) s l')=>wX (B+1) s l' w hr);clear HP;go_upto_region 2 with fail;cases hx:Dj l' with
   |error e1=>
    rw [hx] at HA HN;clear hx;refine Eo (S:=fun _=>True) Za0 trivial fun hHeld=>?_;replace H:=Aa (H.drew);refine Bd Ml ?_;refine Bd MN ?_;refine Oh KF Ky (fun KK Ad=>?_) fun KK Ad=>?_
    ·have c1:=(H.blk 3 rfl).Ap 0;go_simp;clear c1;refine Aj Ad trivial fun hHeld=>?_;clear Ad KK;refine BG Ky fun KK Ad=>?_;exact Zm1
    ·exact Zm1
   |ok q=>
    obtain ⟨rc,l3⟩:=q;rw [hx] at HA HN;have HN:Hid (Bw Dj n [] s=Bw Dj (n - (k+1)) (rows.map Pk.Ac++[rc]) l3):=HN.Ab;clear hx;refine Eo (S:=fun _=>True) Za0 trivial fun hHeld=>?_;replace H:=Aa (H.drew);refine Bd Ml ?_;refine Bd MN ?_;refine Oh KF Ky (fun KK Ad=>?_) fun KK Ad=>?_
    ·have c1:=(H.blk 3 rfl).Ap 0;go_simp;clear c1;refine Aj Ad trivial fun hHeld=>?_;clear Ad KK;refine BG Ky fun KK Ad=>?_;go_simp;refine (HA _ (H.Fv 0 rfl)).mono ?_;rintro e' w3 ⟨D,rfl,EW,hg3,hr3,hnew⟩;replace H:=Aa (H.Jf 0 rfl hg3 hr3 (Kk D) hnew.1 hnew.2);(try simp only [LS] at H);have OU:=Aa EW;clear hg3 hr3 hnew EW;exact Zp9
    ·go_simp;refine (HA _ (H.Fv 0 rfl)).mono ?_;rintro e' w3 ⟨D,rfl,EW,hg3,hr3,hnew⟩;replace H:=Aa (H.Jf 0 rfl hg3 hr3 (Kk D) hnew.1 hnew.2);(try simp only [LS] at H);have OU:=Aa EW;clear hg3 hr3 hnew EW;refine Aj Ad trivial fun hHeld=>?_;clear Ad KK;refine Oh KF LJ (fun KK Ad=>?_) fun KK Ad=>?_
     ·have c1:=(H.blk 3 rfl).Ap 0;go_simp;clear c1;exact Zp9
     ·refine BU rfl QX (.tmp 12) rfl (D.cs) rfl rfl Xl ?_;replace H:=Aa (H.Co ((Ai.refl _).alloc _) (CE _ 80 (D.cs) _ rfl));(try simp only [LS] at H);refine Aj Ad trivial fun hHeld=>?_;clear Ad KK;refine BG KF fun KK Ad=>?_;have c1:=(H.blk 3 rfl).Ap 0;go_simp;clear c1;exact Zi5
  ·have HN:Hid (Gx n s=.ok (rows.map Pk.Ac,l')):=by show _=_;unfold Gx;rw [HP.Ab,show n - k=0 by omega];(try rfl)
   clear HP;go_wp2_with fail;go_end0;have H9:SL No w0 _ (Kl B s l' [Aw g 29 #[.slice A k c],Ce 80 7 (.slice A k c) k (rows.flatMap AY.cells),BS Kk rows,Aw z 25 #[.slice DA n cn,.slice MB m cm],Aw y 29 #[.slice none 0 0]]):=H.Ab;exact SL.ok H9 ⟨by rw [HN.Ab];(try rfl),⟨A,k,c,rows⟩,l',H9,by show k≤16;omega,fun rs r h=>by rw [HN.Ab] at h;injection h with h;injection h with h _⟩
abbrev pR (X:Row Pk):FM:=⟨fun g=>(Ce 80 7 (.slice X.A X.n X.c) X.n (X.l.flatMap AY.cells)).D g∨(BS Kk X.l).D g,fun w=>X.rd w∧X.n≤16∧∀ p ∈ X.l,p.set.n≤200⟩
theorem WX {X:Row Pk} {w:World} (h1:(Ce 80 7 (.slice X.A X.n X.c) X.n (X.l.flatMap AY.cells)).holds w) (h2:(BS Kk X.l).holds w) (h3:X.n≤16):(pR X).holds w:=
 ⟨fun g hg=>hg.elim (h1.1 g) (h2.1 g),fun w' hs hk=>⟨⟨Rd.BC (h1.2 w' hs fun g hg=>hk g (.inl hg)),fun r hr=>(h2.2 w' hs (fun g hg=>hk g (.inr hg)) r hr).rd,Xl⟩,h3,fun r hr=>(h2.2 w' hs (fun g hg=>hk g (.inr hg)) r hr).sn⟩⟩
theorem FW (w:World):(pR ⟨none,0,0,[]⟩).holds w:=WX (Jg (Tw w 0 _ _)) (Dk _ w) (by show 0≤16;omega)
theorem IC {m:Nat}:∀ g,(pR ⟨none,0,0,[]⟩).D g→m≤g:=by
 rintro g (h|⟨T,hT,_⟩)
 ·simp [Value.ownBlock] at h
 ·cases hT
def Ar7 (r:List PC × Int) (w:World) (e:Ending) (w':World):Prop:=∃ X:Qr,e=.returned (.tuple #[.agg X.cs,.int .i64 r.2])∧X.Ac=r.1∧Ai w w'∧UY w w' (pR X.ps)
theorem Ze4 {p:Prop} (h:p:=by go_wp2_with ((with_reducible refine OS 4 ?_);(refine Cj Eu H 4 rfl (#[.slice none 0 0]) Za2 ?_;clear H;intro wq H;(try simp only [LS] at H)));refine Bc (Au rfl Eu rfl (H.blk 4 rfl) rfl) rfl ?_;rw [HT.Ab];exact ⟨⟨⟨none,0,0,[]⟩⟩,rfl,rfl,H.to,FW _,IC⟩):p:=h
theorem Zn0 {p:Prop} (h:p:=by refine (HC _ H.to).mono ?_;rintro e w1 ⟨rfl,hb1⟩;replace H:=Aa (H.Av hb1);clear hb1 HC;go_wp2_with ((with_reducible refine OS 4 ?_);(refine Cj Eu H 1 rfl (#[.slice none 0 0]) Za2 ?_;clear H;intro wq H;(try simp only [LS] at H)));refine Bc (Au rfl Eu rfl (H.blk 1 rfl) rfl) rfl ?_;rw [HT.Ab];exact ⟨⟨⟨none,0,0,[]⟩⟩,rfl,rfl,H.to,FW _,IC⟩):p:=h
theorem tZ (d:Ej) (s:List UInt8) (w:World) (hd:d.rd w) (hs:s.length≤140737488351232) (hn:d.dm.n≤1000000) (hm:d.ms.n≤1000000) (hdd:∀ x ∈ d.dm.l,x.tr.n≤1000000∧∀ t ∈ x.tr.l,t.up.n≤100000):
 Calls prog 63 #[.agg d.cs,.string ⟨s.toArray⟩] w (Ar7 (Dv d.Ac s) w):=by
 have hmf:∀ (fn:Fn) (first cap:Array Value) (w:World),(Instr.makeFunc fn first cap).run prog w=.ok (.func fn first cap) w:=fun _ _ _ _=>rfl
 have HC:=Aa (fun w' (hb:Ai w w')=>GJ d w' (hd.mono hb) hn hm hdd);have HBC:=Aa (fun (X:Qr) w' (hX:X.rd w') (hb:Ai w w') (h2:∀ p ∈ X.ps.l,p.set.n≤100000)=>We d X w' (hd.mono hb) hX hn hm hdd h2);have hl1:d.Ac.Dx.length=d.dm.n:=by have:d.dm.l.length=d.dm.n:=hd.dm.len;simpa using this
 have H:=Aa (((SL.start No w).alloc d.cs 25).alloc #[.slice none 0 0] 29);(try simp only [LS] at H);have hcs:d.cs=#[.slice d.dm.A d.dm.n d.dm.c,.slice d.ms.A d.ms.n d.ms.c]:=rfl;have HCS:=Aa hcs;clear hcs hd hdd;by_cases hE:Ay d.Ac=0
 ·obtain ⟨_,q2,_,_,q5,_⟩:=BH hE;have hn16:d.dm.n≤16:=by omega
  have HT0:Hid (Dv d.Ac s=match Gx d.dm.n s with
   |.error k=>([],k)
   |.ok (q,r)=>if r≠[] then ([],3) else if BV d.Ac q=0 then (q,0) else ([],BV d.Ac q)):=by
   show _=_;unfold Dv;rw [Ak Xl,hl1]
   rfl
  rw [hE] at HC;clear hE q2 q5 hl1;go_enter func63,ntmps63;rw [←HCS.Ab] at *;go_wp2_with ((with_reducible refine OP 9 ?_);(refine Bf Bb (H.blk 0 rfl) ?_));refine (HC _ H.to).mono ?_;rintro e w1 ⟨rfl,hb1⟩;replace H:=Aa (H.Av hb1);clear hb1 HC;generalize w.heap.size+1=y at *;generalize w.heap.size=z at *;go_wp2_with fail;replace H:=Aa (H.alloc #[.slice none 0 0] 29);(try simp only [LS] at H);replace H:=Aa (H.Dw 80 7);(try simp only [LS] at H);replace H:=Aa (H.add (Ai.refl _) (BS Kk []) (Dk _ _) GZ);(try simp only [LS] at H);replace H:=Aa (H.Fg [2,3,4,0,1] Za1 uH);(try simp only [LS] at H);generalize w1.heap.size=g at *;generalize w1.alloc (.cells #[.slice none 0 0] 29)=W at *;refine (YP 101 #[.pointer (some ⟨z,0,none⟩),.pointer (some ⟨g,0,none⟩)] s W hs (Rask w s W.heap.size g z y d (Gx d.dm.n s)) (mH func101 Za0 Za0) (fun w4 h1 h2 h3 h4 h5=>mV w W.heap.size g z y s d w4 hn16 (H.begin h1 h3 h4 h5))).mono ?_;rintro e w5 ⟨k,w4,rfl,⟨hk,X,q,hS,hX16,hD⟩,Gn,_⟩;replace H:=Aa (hS.ended Gn);(try simp only [LS] at H);clear hS Gn;generalize W.heap.size=B at *;cases hT:Gx d.dm.n s with
  |error k'=>
   have HT:Hid (Dv d.Ac s=([],k')):=by show _=_;rw [HT0.Ab,hT]
   have hk':k'≠0:=KP (fun l k h=>iG h) hT;rw [hT] at hk;have hk2:k=k':=hk;subst hk2;have dk:(k==0)=false:=by simpa using hk'
   have dk2:(k !=0)=true:=by simpa using hk'
   clear hT hk hk' hD HT0;exact Ze4
  |ok q=>
   obtain ⟨rs,l⟩:=q;rw [hT] at hk;obtain rfl:=hD _ _ hT;by_cases hl:l=[]
   ·have HT1:Hid (Dv d.Ac s=if BV d.Ac (X.l.map Pk.Ac)=0 then (X.l.map Pk.Ac,0) else ([],BV d.Ac (X.l.map Pk.Ac))):=by show _=_;rw [HT0.Ab,hT];simp only;rw [Ak (by simp [hl])]
    have hk2:k=0:=by rw [hk];show (if l=[] then (0:Int) else 3)=0;rw [Al hl]
    subst hk2;clear hT hk hl hD HT0;replace H:=Aa (H.both 1 2 Xl rfl rfl (pR X) (WX (H.get 1 rfl) (H.get 2 rfl) hX16) (fun g hg=>hg));(try simp only [LS] at H);go_wp2_with (first|((with_reducible refine OP 20 ?_);(refine Bf Bb (H.blk 2 rfl) ?_))|((with_reducible refine OP 21 ?_);(refine Bf Eu (H.blk 0 rfl) ?_)));refine (HBC ⟨X⟩ _ (H.at_ 1 rfl).1 H.to (fun p hp=>by have:=(H.at_ 1 rfl).2.2 p hp;omega)).mono ?_;rintro e w6 ⟨rfl,hb6⟩;replace H:=Aa (H.Av hb6);simp only [Qr.Ac];clear hb6 HBC;by_cases hE2:BV d.Ac (X.l.map Pk.Ac)=0
    ·have HT:Hid (Dv d.Ac s=(X.l.map Pk.Ac,0)):=by show _=_;rw [HT1.Ab,Al hE2]
     rw [hE2];clear hE2 HT1;go_wp2_with (first|((with_reducible refine OP 27 ?_);(refine Bf Eu (H.blk 0 rfl) ?_))|((with_reducible refine OS 4 ?_);(refine Cj Eu H 3 rfl (#[.slice X.A X.n X.c]) Za2 ?_;clear H;intro wq H;(try simp only [LS] at H))));refine Bc (Au rfl Eu rfl (H.blk 3 rfl) rfl) rfl ?_;rw [HT.Ab];exact ⟨⟨X⟩,rfl,rfl,H.to,H.get 1 rfl,H.new 1 rfl⟩
    ·have HT:Hid (Dv d.Ac s=([],BV d.Ac (X.l.map Pk.Ac))):=by show _=_;rw [HT1.Ab,Ak hE2]
     have dk:(BV d.Ac (X.l.map Pk.Ac)==0)=false:=by simpa using hE2
     have dk2:(BV d.Ac (X.l.map Pk.Ac) !=0)=true:=by simpa using hE2
     clear hE2 HT1;go_wp2_with ((with_reducible refine OS 4 ?_);(refine Cj Eu H 3 rfl (#[.slice none 0 0]) Za2 ?_;clear H;intro wq H;(try simp only [LS] at H)));refine Bc (Au rfl Eu rfl (H.blk 3 rfl) rfl) rfl ?_;rw [HT.Ab];exact ⟨⟨⟨none,0,0,[]⟩⟩,rfl,rfl,H.to,FW _,IC⟩
   ·have HT:Hid (Dv d.Ac s=([],3)):=by show _=_;rw [HT0.Ab,hT];simp only;rw [Al hl]
    have hk2:k=3:=by rw [hk];show (if l=[] then (0:Int) else 3)=3;rw [Ak hl]
    subst hk2;clear hT hk hl hD HT0;exact Ze4
 ·have HT:Hid (Dv d.Ac s=([],Ay d.Ac)):=by show _=_;unfold Dv;rw [Al hE]
  have dE:(Ay d.Ac==0)=false:=by simpa using hE
  have dE2:(Ay d.Ac !=0)=true:=by simpa using hE
  clear hE;go_enter func63,ntmps63;rw [←HCS.Ab] at *;go_wp2_with ((with_reducible refine OP 9 ?_);(refine Bf Bb (H.blk 0 rfl) ?_));exact Zn0
end Go.Proofs.YtijplolmkcdflaaGreat
namespace Go.Proofs.YtijplolmkcdflaaGreat
open Go.RowKit
def FewQ (q:Qr):Prop:=q.ps.n≤20∧∀ p ∈ q.ps.l,p.set.n≤250
theorem FewQ.set {q:Qr} (h:FewQ q):∀ p ∈ q.ps.l,p.set.n≤100000:=fun p hp=>by have:=h.2 p hp;omega
end Go.Proofs.YtijplolmkcdflaaGreat
namespace Go.Proofs.YtijplolmkcdflaaGreat
open Tryz
open Go.RowKit
theorem Zq6 {p:Prop} (h:p:=by
 clear Ng;rcases h12 with h1|h1
 ·subst h1;go_enter func27,ntmps27;go_wp2;go_ret;rw [HE.Ab];exact ⟨rfl,H.to⟩
 ·subst h1;go_enter func27,ntmps27;go_wp2;go_ret;rw [HE.Ab];exact ⟨rfl,H.to⟩
):p:=h
theorem pK (d:Dm) (p:Pk) (w:World) (hd:d.rd w) (hp:p.rd w) (hs:p.set.n≤100000):
 Calls prog 27 #[.agg d.cs,.agg p.cs] w fun e w'=>e=.returned (.int .i64 (BF d.Ac p.Ac))∧Ai w w':=by
 have HP:=Aa hp.set;have HD:=Aa hd.tr;have hl:Hid (d.tr.l.length=d.tr.n):=hd.tr.len;have hsl:Hid (p.set.l.length=p.set.n):=hp.set.len;have n63:=hd.tr.n63;have s63:=hp.set.n63;have l63:=hp.lo;have h63:=hp.hi;have H:=Aa (((SL.start No w).alloc d.cs 73).alloc p.cs 80);(try simp only [LS] at H);obtain ⟨pf,pt,lo,hi,⟨A,n,c,set⟩,g,pb⟩:=p;obtain ⟨nm,⟨A2,n2,cp2,Bi⟩⟩:=d;simp only [Pk.cs,Pk.Ac,Dm.cs,Dm.Ac] at *;clear hp hd;have c0:=(H.blk 1 rfl).Ap 0;have c1:=(H.blk 1 rfl).Ap 1;have c2:=(H.blk 1 rfl).Ap 2;have c3:=(H.blk 1 rfl).Ap 3;have c4:=(H.blk 1 rfl).Ap 4;have c5:=(H.blk 0 rfl).Ap 1;by_cases h0:pf=0
 ·subst h0;by_cases ht:pt=0
  ·subst ht;cases lo with
   |cons a r=>
    have HE:Hid (BF ⟨nm,Bi.map Bt.Ac⟩ ⟨0,0,a::r,hi,set,g,pb⟩=2):=by show _=_;unfold BF;rw [Al rfl,Ak uH]
    go_enter func27,ntmps27;go_wp2;go_ret;rw [HE.Ab];exact ⟨rfl,H.to⟩
   |nil=>
    cases hi with
    |cons a r=>
     have HE:Hid (BF ⟨nm,Bi.map Bt.Ac⟩ ⟨0,0,[],a::r,set,g,pb⟩=2):=by show _=_;unfold BF;rw [Al rfl,Ak uH]
     go_enter func27,ntmps27;go_wp2;go_ret;rw [HE.Ab];exact ⟨rfl,H.to⟩
    |nil=>
     by_cases hn:n=0
     ·have HE:Hid (BF ⟨nm,Bi.map Bt.Ac⟩ ⟨0,0,[],[],set,g,pb⟩=0):=by show _=_;unfold BF;rw [Al rfl,Al ⟨rfl,rfl,rfl,by have:=hsl.Ab;simp only;omega⟩]
      subst hn;go_enter func27,ntmps27;go_wp2;go_ret;rw [HE.Ab];exact ⟨rfl,H.to⟩
     ·have HE:Hid (BF ⟨nm,Bi.map Bt.Ac⟩ ⟨0,0,[],[],set,g,pb⟩=2):=by show _=_;unfold BF;rw [Al rfl,Ak (fun h=>hn (by have:=hsl.Ab;have:=h.2.2.2;simp only at this;omega))]
      have d1:decide ((0:Int)<(n:Int))=true:=by simp<;>omega
      go_enter func27,ntmps27;go_wp2;go_ret;rw [HE.Ab];exact ⟨rfl,H.to⟩
  ·have z1:(pt==0)=false:=by simpa using ht
   have z2:(pt !=0)=true:=by simpa using ht
   have HE:Hid (BF ⟨nm,Bi.map Bt.Ac⟩ ⟨0,pt,lo,hi,set,g,pb⟩=2):=by show _=_;unfold BF;rw [Al rfl,Ak (fun h=>ht h.1)]
   go_enter func27,ntmps27;go_wp2;go_ret;rw [HE.Ab];exact ⟨rfl,H.to⟩
 ·have z0:(pf==0)=false:=by simpa using h0
  by_cases h12:pf=1∨pf=2
  ·have Ng:Hid (BF ⟨nm,Bi.map Bt.Ac⟩ ⟨pf,pt,lo,hi,set,g,pb⟩=if 0≤pt then (match (Bi.map Bt.Ac)[pt.toNat]? with|none=>2|some tr=>if pf=1 then Ib ⟨pf,pt,lo,hi,set,g,pb⟩ else FQ tr.ts ⟨pf,pt,lo,hi,set,g,pb⟩) else 2):=by
    show _=_;unfold BF;rw [Ak h0,Al h12];(try rfl)
   by_cases hp0:pt<0
   ·have d1:decide (pt<0)=true:=by simpa using hp0
    have HE:Hid (BF ⟨nm,Bi.map Bt.Ac⟩ ⟨pf,pt,lo,hi,set,g,pb⟩=2):=by show _=_;rw [Ng.Ab,Ak Xl]
    exact Zq6
   ·have d1:decide (pt<0)=false:=by simpa using hp0
    by_cases hpn:pt<n2
    ·have d2:decide ((n2:Int)≤pt)=false:=by simp<;>omega
     obtain ⟨t,rfl⟩:∃ k:Nat,pt=k:=⟨pt.toNat,Xl⟩;have htn:t<n2:=by omega
     obtain ⟨bb,oo,T,hA,hbb,xW,hTr,hrg⟩:=(HD.mono H.to).JO (k:=t) htn;simp only at hA;subst hA;have Tk:(Bi.map Bt.Ac)[t]?=some T.Ac:=by rw [Ed,xW];(try rfl)
     have dZ:Hid (BF ⟨nm,Bi.map Bt.Ac⟩ ⟨pf,t,lo,hi,set,g,pb⟩=if pf=1 then Ib ⟨pf,t,lo,hi,set,g,pb⟩ else FQ T.ts.l ⟨pf,t,lo,hi,set,g,pb⟩):=by
      show _=_;rw [Ng.Ab,Al Xl,Db,Tk]
     have i0:(0:Int)≤t:=by omega
     have i1:(t:Int)<n2:=by omega
     have uN:=Aa hTr.ts;have hq:=hrg 1 _ rfl;clear Ng xW hrg Tk hTr hbb;rcases h12 with h1|h1
     ·subst h1;have HE2:Hid (BF ⟨nm,Bi.map Bt.Ac⟩ ⟨1,t,lo,hi,set,g,pb⟩=Ib ⟨1,t,lo,hi,set,g,pb⟩):=by show _=_;rw [dZ.Ab,Al rfl]
      clear dZ hq;by_cases hn:n=0
      ·have hs0:¬ 0<set.length:=by have:=hsl.Ab;omega
       subst hn;by_cases h1:16<lo.length
       ·have e1:decide ((16:Int)<(lo.length:Int))=true:=by simp<;>omega
        have HE:Hid (BF ⟨nm,Bi.map Bt.Ac⟩ ⟨1,t,lo,hi,set,g,pb⟩=5):=by show _=_;rw [HE2.Ab];unfold Ib;rw [Ak hs0,Al (.inl h1)]
        go_enter func27,ntmps27;go_wp2;go_ret;rw [HE.Ab];exact ⟨rfl,H.to⟩
       ·have e1:decide ((16:Int)<(lo.length:Int))=false:=by simp<;>omega
        by_cases h2:16<hi.length
        ·have e2:decide ((16:Int)<(hi.length:Int))=true:=by simp<;>omega
         have HE:Hid (BF ⟨nm,Bi.map Bt.Ac⟩ ⟨1,t,lo,hi,set,g,pb⟩=5):=by show _=_;rw [HE2.Ab];unfold Ib;rw [Ak hs0,Al (.inr h2)]
         go_enter func27,ntmps27;go_wp2;go_ret;rw [HE.Ab];exact ⟨rfl,H.to⟩
        ·have e2:decide ((16:Int)<(hi.length:Int))=false:=by simp<;>omega
         have HE:Hid (BF ⟨nm,Bi.map Bt.Ac⟩ ⟨1,t,lo,hi,set,g,pb⟩=0):=by show _=_;rw [HE2.Ab];unfold Ib;rw [Ak hs0,Ak Ze0]
         go_enter func27,ntmps27;go_wp2;go_ret;rw [HE.Ab];exact ⟨rfl,H.to⟩
      ·have e1:decide ((0:Int)<(n:Int))=true:=by simp<;>omega
       have HE:Hid (BF ⟨nm,Bi.map Bt.Ac⟩ ⟨1,t,lo,hi,set,g,pb⟩=2):=by show _=_;rw [HE2.Ab];unfold Ib;rw [Al (by have:=hsl.Ab;simp only;omega)]
       go_enter func27,ntmps27;go_wp2;go_ret;rw [HE.Ab];exact ⟨rfl,H.to⟩
     ·subst h1;have HE2:Hid (BF ⟨nm,Bi.map Bt.Ac⟩ ⟨2,t,lo,hi,set,g,pb⟩=FQ T.ts.l ⟨2,t,lo,hi,set,g,pb⟩):=by show _=_;rw [dZ.Ab,Ak Xl]
      clear dZ;cases lo with
      |cons a r=>
       have HE:Hid (BF ⟨nm,Bi.map Bt.Ac⟩ ⟨2,t,a::r,hi,set,g,pb⟩=2):=by show _=_;rw [HE2.Ab];unfold FQ;rw [Ak uH]
       go_enter func27,ntmps27;go_wp2;go_ret;rw [HE.Ab];exact ⟨rfl,H.to⟩
      |nil=>
       cases hi with
       |cons a r=>
        have HE:Hid (BF ⟨nm,Bi.map Bt.Ac⟩ ⟨2,t,[],a::r,set,g,pb⟩=2):=by show _=_;rw [HE2.Ab];unfold FQ;rw [Ak uH]
        go_enter func27,ntmps27;go_wp2;go_ret;rw [HE.Ab];exact ⟨rfl,H.to⟩
       |nil=>
        have HE3:Hid (BF ⟨nm,Bi.map Bt.Ac⟩ ⟨2,t,[],[],set,g,pb⟩=if Cr set≠0 then Cr set else Ju T.ts.l (set.drop 0)):=by show _=_;rw [HE2.Ab];unfold FQ;rw [Al ⟨rfl,rfl⟩];(try rfl)
        clear HE2;go_enter func27,ntmps27;go_wp2_with fail;refine (WK A n c set _ (HP.mono H.to).texts (HP.mono H.to).nU hs).mono ?_;rintro e w1 ⟨rfl,hb1⟩;have hq1:=(hb1.cell (JM _ _ hq)).trans hq;replace H:=Aa (H.Av hb1);replace uN:=Aa (uN.mono hb1);clear c0 c1 c2 c3 c4 c5 hb1 hq;have c4:=(H.blk 1 rfl).Ap 4;by_cases hE:Cr set=0
        ·have dZ:Hid (BF ⟨nm,Bi.map Bt.Ac⟩ ⟨2,t,[],[],set,g,pb⟩=Ju T.ts.l (set.drop 0)):=by show _=_;rw [HE3.Ab,Ak Xl]
         rw [hE];clear HE3 hE;go_wp2_with fail;have hbl:=JM _ _ hq1;clear c4;generalize w.heap.size+1=y at *;generalize w.heap.size=x at *;have HB1:Hid (Ai w1 w1):=Ai.refl _;go_loopg [85] n (fun gg i wr=>∃ k:Nat,gg=n - k∧k≤n∧i=.int .i64 k∧Hid (Ai w1 wr)∧Hid (SL No w wr [Aw x 73 #[.string ⟨nm.toArray⟩,.slice (some ⟨bb,oo,none⟩) n2 cp2],Aw y 80 #[.int .i64 2,.int .i64 t,.string ⟨#[]⟩,.string ⟨#[]⟩,.slice A n c,.bool g,.int .i64 pb]])∧Hid (BF ⟨nm,Bi.map Bt.Ac⟩ ⟨2,t,[],[],set,g,pb⟩=Ju T.ts.l (set.drop k)));case atStart=>exact ⟨0,rfl,Xl,rfl,HB1,H,dZ⟩
         case round=>
          clear H dZ HB1;obtain ⟨k,BR,hk,rfl,HB,H,HE⟩:=hrel;have Cs:=Aa BR;clear BR;by_cases hlt:k<n
          ·obtain ⟨b3,o3,s,hA,hsk,hsl2,q1⟩:=(HP.mono H.to).GR (k:=k) hlt;simp only at hA;subst hA;have Jn:=Aa (XP (tr:=T.ts.l) hsk);have j0:(0:Int)≤k:=by omega
           have j1:(k:Int)<n:=by omega
           have c1:=(H.blk 1 rfl).Ap 1;have c5:=(H.blk 0 rfl).Ap 1;have q2:=(HB.cell hbl).trans hq1;clear hsk;go_wp2_with fail;refine (kU T.ts s _ (uN.mono HB.Ab)).mono ?_;rintro e w2 ⟨rfl,rfl⟩;clear c1 c5 q1 q2;cases hP:posOf s T.ts.l with
           |none=>
            have HN:Hid (BF ⟨nm,Bi.map Bt.Ac⟩ ⟨2,t,[],[],set,g,pb⟩=13):=by show _=_;rw [HE.Ab,Jn.Ab,hP]
            have hAt:Sl s T.ts.l=-1:=by unfold Sl;rw [hP]
            rw [hAt];clear HE Jn hP hAt;go_wp2;go_ret;rw [HN.Ab];exact ⟨rfl,H.to⟩
           |some p=>
            have HN:Hid (BF ⟨nm,Bi.map Bt.Ac⟩ ⟨2,t,[],[],set,g,pb⟩=Ju T.ts.l (set.drop (k+1))):=by show _=_;rw [HE.Ab,Jn.Ab,hP]
            have hAt:Sl s T.ts.l=(p:Int):=by unfold Sl;rw [hP]
            have z1:decide ((p:Int)<0)=false:=by simp<;>omega
            rw [hAt];clear HE Jn hP hAt;go_wp2;go_roundg (n - (k+1));case rel=>exact ⟨k+1,rfl,Xl,by go_num,HB,H,HN⟩
            case measure=>rw [Cs.Ab];omega
          ·have HN:Hid (BF ⟨nm,Bi.map Bt.Ac⟩ ⟨2,t,[],[],set,g,pb⟩=0):=by show _=_;rw [HE.Ab,EN (by have:=hsl.Ab;omega)];(try rfl)
           clear HE;go_wp2;go_ret;rw [HN.Ab];exact ⟨rfl,H.to⟩
        ·have dZ:Hid (BF ⟨nm,Bi.map Bt.Ac⟩ ⟨2,t,[],[],set,g,pb⟩=Cr set):=by show _=_;rw [HE3.Ab,Al hE]
         have z1:(Cr set !=0)=true:=by simpa using hE
         have z2:(Cr set==0)=false:=by simpa using hE
         clear HE3 hE;go_wp2;go_ret;rw [dZ.Ab];exact ⟨rfl,H.to⟩
    ·have d2:decide ((n2:Int)≤pt)=true:=by simp<;>omega
     have HE:Hid (BF ⟨nm,Bi.map Bt.Ac⟩ ⟨pf,pt,lo,hi,set,g,pb⟩=2):=by
      show _=_;rw [Ng.Ab,Al Xl,Jj (by have:=hl.Ab;simp only [CQ] at this ⊢;omega)]
     exact Zq6
  ·have z1:(pf==1)=false:=by simp<;>omega
   have z2:(pf==2)=false:=by simp<;>omega
   have z3:(pf !=1)=true:=by simp<;>omega
   have z4:(pf !=2)=true:=by simp<;>omega
   have HE:Hid (BF ⟨nm,Bi.map Bt.Ac⟩ ⟨pf,pt,lo,hi,set,g,pb⟩=2):=by show _=_;unfold BF;rw [Ak h0,Ak h12]
   go_enter func27,ntmps27;go_wp2;go_ret;rw [HE.Ab];exact ⟨rfl,H.to⟩
theorem Zl8 {p:Prop} (h:p:=by
 clear HB Jn hf;go_upto_region 13 with fail;have Ku:=fun u:Over w2=>Over.cell Gc u
 have ML:=fun u:Over w2=>Over.cell XZ u
 have MK:=fun u:Over w2=>Over.cell PI u
 have mE:=fun u:Over w2=>Over.cell hq u
 refine Am ?_;(try simp only [Act.put,LP]);repeat (go_big_quiet_step (fail))
 refine CS ?_;rintro w5 ⟨⟨_,Gd⟩,rfl⟩;(try dsimp only);replace H:=Aa (H.Av Gd);clear Ku ML MK mE Gc XZ PI hq;exact Zr3
):p:=h
theorem mU (s:Ej) (q:Qr) (w:World) (hs:s.rd w) (hq:q.rd w) (hn:s.dm.n≤1000000) (hm:s.ms.n≤1000000) (hd:∀ d ∈ s.dm.l,d.tr.n≤1000000∧∀ t ∈ d.tr.l,t.up.n≤100000) (hp:∀ p ∈ q.ps.l,p.set.n≤100000):
 Calls prog 9 #[.agg s.cs,.agg q.cs] w fun e w'=>e=.returned (.int .i64 (BV s.Ac q.Ac))∧Ai w w':=by
 have HC:=Aa (fun w' (hb:Ai w w')=>GI s w' (hs.mono hb) hn hm (fun x hx=>(hd x hx).1));have hl1:Hid (s.dm.l.length=s.dm.n):=hs.dm.len;have hl2:Hid (q.ps.l.length=q.ps.n):=Row.rd.len hq;have HD:=Aa hs.dm;have HQ:=Aa (show q.ps.rd w from hq);have n63:=hs.dm.n63;have m63:q.ps.n≤9223372036854775807:=hq.n63;have fQ:=Aa hp;have H:=Aa (((SL.start No w).alloc s.cs 25).alloc q.cs 29);(try simp only [LS] at H);obtain ⟨⟨A,n,c,ds⟩,⟨A2,n2,c2,ms⟩⟩:=s;obtain ⟨⟨B,m,d,ps⟩⟩:=q;simp only [Ej.cs,Ej.Ac,Qr.cs,Qr.Ac] at *;clear hs hq hp hd;go_enter func9,ntmps9;go_wp2_with ((with_reducible refine OP 9 ?_);(refine Bf Bb (H.blk 0 rfl) ?_));refine (HC _ H.to).mono ?_;rintro e w1 ⟨rfl,hb1⟩;replace H:=Aa (H.Av hb1);clear hb1 HC;by_cases hE:Ay ⟨ds.map Dm.Ac,ms⟩=0
 ·have Ng:Hid (BV ⟨ds.map Dm.Ac,ms⟩ (ps.map Pk.Ac)=if (ps.map Pk.Ac).length≠(ds.map Dm.Ac).length then 2 else Dq (ds.map Dm.Ac) (ps.map Pk.Ac)):=by show _=_;unfold BV;rw [Ak Xl]
  rw [hE];have Gc:=(H.blk 0 rfl).Ap 0;have Xi:=(H.blk 1 rfl).Ap 0;by_cases hl:m=n
  ·subst hl;have HB:Hid (BV ⟨ds.map Dm.Ac,ms⟩ (ps.map Pk.Ac)=Dq ((ds.map Dm.Ac).drop 0) ((ps.map Pk.Ac).drop 0)):=by
    show _=_;rw [Ng.Ab,Ak Ze9];(try rfl)
   clear Ng hE;go_wp2_with fail;generalize w.heap.size+1=y at *;generalize w.heap.size=x at *;clear Gc Xi;go_loopg [24] m (fun gg i wr=>∃ k:Nat,gg=m - k∧k≤m∧i=.int .i64 k∧Hid (SL No w wr [Aw x 25 #[.slice A m c,.slice A2 n2 c2],Aw y 29 #[.slice B m d]])∧Hid (BV ⟨ds.map Dm.Ac,ms⟩ (ps.map Pk.Ac)=Dq ((ds.map Dm.Ac).drop k) ((ps.map Pk.Ac).drop k)));case atStart=>exact ⟨0,rfl,Xl,rfl,H,HB⟩
   case round=>
    clear H HB;obtain ⟨k,BR,hk,rfl,H,HB⟩:=hrel;have Cs:=Aa BR;clear BR;by_cases hlt:k<m
    ·obtain ⟨b1,o1,D,hA,hb1,Ve,Fj,hrg1⟩:=(HD.mono H.to).Sd (k:=k) hlt;simp only at hA;subst hA;obtain ⟨b2,o2,p,hB,hb2,hpk,hpr,hrg2⟩:=(HQ.mono H.to).P7 (k:=k) hlt;simp only at hB;subst hB;have EW:(ds.map Dm.Ac)[k]?=some D.Ac:=by rw [Ed,Ve];(try rfl)
     have hpc:(ps.map Pk.Ac)[k]?=some p.Ac:=by rw [Ed,hpk];(try rfl)
     have Jn:=Aa (TK EW hpc);have HR1:=Aa hrg1;have HR2:=Aa hrg2;have nR:=Aa Fj;have HPr:=Aa hpr;have hps:=fQ p (CU hpk);have i0:(0:Int)≤k:=by omega
     have i1:(k:Int)<m:=by omega
     have D63:=Fj.tr.n63;have hDl:Hid (D.tr.l.length=D.tr.n):=Fj.tr.len;clear Ve hpk hrg1 hrg2 EW hpc Fj hpr hb2;have Xi:=(H.blk 1 rfl).Ap 0;go_upto_region 10 with (first|((with_reducible refine OP 31 ?_);(refine Af rfl EC (.tmp 30) rfl b2 (o2+k * 7) rfl p.cs rfl HR2.Ab ?_))|((with_reducible refine OS 7 ?_);(refine DX EC (p.cs) (OZ p) ?_;replace H:=Aa (H.alloc (p.cs) 80);(try simp only [LS] at H))));clear Xi;replace nR:=Aa (nR.mono ((Ai.refl wr).alloc (.cells p.cs 80)));replace HPr:=Aa (HPr.mono ((Ai.refl wr).alloc (.cells p.cs 80)));replace HR1:=Aa (CP hb1 HR1 ((Ai.refl wr).alloc (.cells p.cs 80)));replace hb1:b1<(wr.alloc (.cells p.cs 80)).heap.size:=KI hb1 ((Ai.refl wr).alloc (.cells p.cs 80)).size;generalize wr.heap.size=z at *;generalize wr.alloc (.cells p.cs 80)=w3 at *;have Gc:=(H.blk 0 rfl).Ap 0;have Ku:=fun u:Over w3=>Over.cell Gc u
     refine Am ?_;(try simp only [Act.put,LP]);repeat (first
      |((with_reducible show wpQuiet _ _ _ _ (⟨some 36,_,_,_,_,_⟩::_) _);refine Ah (by first|rfl|go_simp) CX (.tmp 35) rfl b1 (o1+k * 2) rfl D.cs rfl hb1 HR1.Ab ?_;simp only [Act.put,LP])
      |((with_reducible show wpQuiet _ _ _ _ (⟨some 37,_,_,_,_,_⟩::_) _);refine Ah (by first|rfl|go_simp) EC (.tmp 7) rfl _ (0) rfl _ rfl (H.blk 2 rfl).lt (H.blk 2 rfl).range ?_;simp only [Act.put,LP])
      |go_big_quiet_step (((go_at_call 27;rename_i u;exact AB (pK D p _ (nR.mono u.Av) (HPr.mono u.Av) hps)))))
     refine CS ?_;rintro w5 ⟨⟨_,Gd⟩,rfl⟩;(try dsimp only);replace H:=Aa (H.Av Gd);clear Ku Gc;obtain ⟨w2,hw2⟩:∃ w2,w2=w5:=⟨_,rfl⟩;subst hw2;replace nR:=Aa (nR.mono Gd);replace HR1:=Aa (CP hb1 HR1 Gd);replace hb1:=KI hb1 Gd.size;clear Gd HPr HR2;by_cases hf:BF D.Ac p.Ac=0
     ·rw [hf];obtain ⟨pf,pt,lo,hi,⟨A3,n3,c3,set⟩,g,pb⟩:=p;simp only [Pk.cs,Pk.Ac] at *;have Gc:=(H.blk 0 rfl).Ap 0;have XZ:=(H.blk 2 rfl).Ap 5;have PI:=(H.blk 2 rfl).Ap 6;have hq:=HR1.Ab 1 _ rfl;cases g with
      |true=>
       cases hh:decide (0≤pb∧pb<(D.tr.n:Int)) with
       |true=>
        have hh2:=Ue hh;have e1:decide (pb<0)=false:=by simp<;>omega
        have e2:decide ((D.tr.n:Int)≤pb)=false:=by simp<;>omega
        have HN:Hid (BV ⟨ds.map Dm.Ac,ms⟩ (ps.map Pk.Ac)=Dq ((ds.map Dm.Ac).drop (k+1)) ((ps.map Pk.Ac).drop (k+1))):=by
         exact Zr0
        exact Zl8
       |false=>
        have hh2:=kE hh;have HN:Hid (BV ⟨ds.map Dm.Ac,ms⟩ (ps.map Pk.Ac)=2):=by
         exact Zq3
        clear HB Jn hf;by_cases hb0:pb<0
        ·have e1:decide (pb<0)=true:=by simpa using hb0
         go_upto_region 13 with fail;have Ku:=fun u:Over w2=>Over.cell Gc u
         have ML:=fun u:Over w2=>Over.cell XZ u
         have MK:=fun u:Over w2=>Over.cell PI u
         have mE:=fun u:Over w2=>Over.cell hq u
         refine Am ?_;(try simp only [Act.put,LP]);repeat (go_big_quiet_step (fail))
         refine CS ?_;rintro w5 ⟨⟨_,Gd⟩,rfl⟩;(try dsimp only);replace H:=Aa (H.Av Gd);clear Ku ML MK mE Gc XZ PI hq;go_wp2;go_ret;rw [HN.Ab];exact ⟨rfl,H.to⟩
        ·have e1:decide (pb<0)=false:=by simpa using hb0
         have e2:decide ((D.tr.n:Int)≤pb)=true:=by simp<;>omega
         go_upto_region 13 with fail;have Ku:=fun u:Over w2=>Over.cell Gc u
         have ML:=fun u:Over w2=>Over.cell XZ u
         have MK:=fun u:Over w2=>Over.cell PI u
         have mE:=fun u:Over w2=>Over.cell hq u
         refine Am ?_;(try simp only [Act.put,LP]);repeat (go_big_quiet_step (fail))
         refine CS ?_;rintro w5 ⟨⟨_,Gd⟩,rfl⟩;(try dsimp only);replace H:=Aa (H.Av Gd);clear Ku ML MK mE Gc XZ PI hq;go_wp2;go_ret;rw [HN.Ab];exact ⟨rfl,H.to⟩
      |false=>
       by_cases hb:pb=0
       ·have HN:Hid (BV ⟨ds.map Dm.Ac,ms⟩ (ps.map Pk.Ac)=Dq ((ds.map Dm.Ac).drop (k+1)) ((ps.map Pk.Ac).drop (k+1))):=by
         exact Zs0
        subst hb;exact Zl8
       ·have HN:Hid (BV ⟨ds.map Dm.Ac,ms⟩ (ps.map Pk.Ac)=2):=by
         exact Zr7
        have z1:(pb !=0)=true:=by simpa using hb
        have z2:(pb==0)=false:=by simpa using hb
        clear HB Jn hf;go_upto_region 13 with fail;have Ku:=fun u:Over w2=>Over.cell Gc u
        have ML:=fun u:Over w2=>Over.cell XZ u
        have MK:=fun u:Over w2=>Over.cell PI u
        have mE:=fun u:Over w2=>Over.cell hq u
        refine Am ?_;(try simp only [Act.put,LP]);repeat (go_big_quiet_step (fail))
        refine CS ?_;rintro w5 ⟨⟨_,Gd⟩,rfl⟩;(try dsimp only);replace H:=Aa (H.Av Gd);clear Ku ML MK mE Gc XZ PI hq;go_wp2;go_ret;rw [HN.Ab];exact ⟨rfl,H.to⟩
     ·have HN:Hid (BV ⟨ds.map Dm.Ac,ms⟩ (ps.map Pk.Ac)=BF D.Ac p.Ac):=by
       have hpe:DL D.Ac p.Ac=BF D.Ac p.Ac:=by unfold DL;rw [Al hf]
       show _=_;rw [HB.Ab,Jn.Ab,hpe,Al hf]
      have z1:(BF D.Ac p.Ac !=0)=true:=by simpa using hf
      have z2:(BF D.Ac p.Ac==0)=false:=by simpa using hf
      clear HB Jn hf;go_wp2;go_ret;rw [HN.Ab];exact ⟨rfl,H.to⟩
    ·have HN:Hid (BV ⟨ds.map Dm.Ac,ms⟩ (ps.map Pk.Ac)=0):=by
      show _=_;rw [HB.Ab,EN (by have:=hl1.Ab;simp only [CQ] at this ⊢;omega)];(try rfl)
     clear HB;go_wp2;go_ret;rw [HN.Ab];exact ⟨rfl,H.to⟩
  ·have HN:Hid (BV ⟨ds.map Dm.Ac,ms⟩ (ps.map Pk.Ac)=2):=by show _=_;rw [Ng.Ab,Al Ze9]
   have g1:((m:Int) !=(n:Int))=true:=by simp<;>omega
   have g2:(m !=n)=true:=by simp<;>omega
   clear hE Ng;go_wp2;go_ret;rw [HN.Ab];exact ⟨rfl,H.to⟩
 ·have HN:Hid (BV ⟨ds.map Dm.Ac,ms⟩ (ps.map Pk.Ac)=Ay ⟨ds.map Dm.Ac,ms⟩):=by show _=_;unfold BV;rw [Al hE]
  have z1:(Ay ⟨ds.map Dm.Ac,ms⟩ !=0)=true:=by simpa using hE
  have z2:(Ay ⟨ds.map Dm.Ac,ms⟩==0)=false:=by simpa using hE
  clear hE;go_wp2;go_ret;rw [HN.Ab];exact ⟨rfl,H.to⟩
theorem OQ.mono {α:Type} {s:List UInt8} {p:List UInt8→PR α} {t k t' k':Int} {x:α} (h:OQ s p t k t' k' x) (h0:k'=0):k=0:=by
 rcases h with ⟨h1,_,h2⟩|⟨h1,_⟩
 ·omega
 ·exact h1
theorem OQ.st {α:Type} {s:List UInt8} {p:List UInt8→PR α} {t k t' k':Int} {x:α} (h:OQ s p t k t' k' x):k'≠0∨(k'=0∧∃ tn:Nat,t'=tn∧tn≤s.length):=by
 rcases h with ⟨h1,_,h2⟩|⟨h1,tn,_,_,h⟩
 ·exact .inl Xl
 ·rcases h with ⟨h,_⟩|⟨h,tm,h2,h3,_⟩
  ·exact .inl h
  ·exact .inr ⟨h,tm,h2,h3⟩
theorem OQ.bind {α β:Type} {s:List UInt8} {p:List UInt8→PR α} {q:List UInt8→PR β} {r:List UInt8→PR β} {t k t1 k1 t2 k2:Int} {x:α} {y:β} (h:OQ s p t k t1 k1 x) (h2:OQ s q t1 k1 t2 k2 y)
 (he:∀ l e,p l=.error e→r l=.error e) (ho:∀ l l',p l=.ok (x,l')→r l=q l'):OQ s r t k t2 k2 y:=by
 rcases h with ⟨a1,rfl,rfl⟩|⟨rfl,tn,rfl,htn,h⟩
 ·rcases h2 with ⟨_,rfl,rfl⟩|⟨b1,_⟩
  ·exact .inl ⟨a1,rfl,rfl⟩
  ·exact absurd b1 a1
 ·refine .inr ⟨rfl,tn,rfl,htn,?_⟩;rcases h with ⟨a1,a2⟩|⟨rfl,tm,rfl,htm,a2⟩
  ·rcases h2 with ⟨_,rfl,rfl⟩|⟨b1,_⟩
   ·exact .inl ⟨a1,he _ _ a2⟩
   ·exact absurd b1 a1
  ·rcases h2 with ⟨b1,_⟩|⟨_,tm2,b2,_,h2⟩
   ·exact absurd rfl b1
   ·obtain rfl:tm2=tm:=by omega
    rw [ho _ _ a2];exact h2
theorem OQ.image {α β:Type} {s:List UInt8} {p:List UInt8→PR α} {r:List UInt8→PR β} {t k t1 k1:Int} {x:α} {y:β} (h:OQ s p t k t1 k1 x) (he:∀ l e,p l=.error e→r l=.error e) (ho:∀ l l',p l=.ok (x,l')→r l=.ok (y,l')):OQ s r t k t1 k1 y:=by
 rcases h with ⟨a1,rfl,rfl⟩|⟨rfl,tn,rfl,htn,h⟩
 ·exact .inl ⟨a1,rfl,rfl⟩
 ·refine .inr ⟨rfl,tn,rfl,htn,?_⟩;rcases h with ⟨a1,a2⟩|⟨rfl,tm,rfl,htm,a2⟩
  ·exact .inl ⟨a1,he _ _ a2⟩
  ·exact .inr ⟨rfl,tm,rfl,htm,ho _ _ a2⟩
theorem Ny (s:List UInt8) (t k:Int) (most:Int) (hst:k≠0∨(k=0∧∃ tn:Nat,t=tn∧tn≤s.length)) (hs:s.length≤140737488351232) (h0:0≤most) (h1:most≤9223372036854775807) (w:World):
 Calls prog 110 #[Iz s t k,.int .i64 most] w fun e w'=>∃ (t' k':Int) (x:Nat),e=.returned (.tuple #[Iz s t' k',.int .i64 x])∧Ai w w'∧(x:Int)≤most∧Hid (OQ s (DD most) t k t' k' x):=by
 rcases hst with hk|⟨rfl,tn,rfl,htn⟩
 ·refine (Vy s t k most hk w).mono ?_;rintro e w' ⟨rfl,hb⟩;exact ⟨t,k,0,rfl,hb,by simpa using h0,.inl ⟨hk,rfl,rfl⟩⟩
 ·refine (Qg s tn most hs htn h0 h1 w).mono ?_;rintro e w' ⟨t',k',x,rfl,hb,hx,hR⟩;exact ⟨t',k',x,rfl,hb,hx,.inr ⟨rfl,tn,rfl,htn,hR.Ab⟩⟩
theorem oO (s:List UInt8) (t k:Int) (hst:k≠0∨(k=0∧∃ tn:Nat,t=tn∧tn≤s.length)) (hs:s.length≤140737488351232) (w:World):
 Calls prog 118 #[Iz s t k,.int .i64 200] w fun e w'=>∃ (t' k':Int) (A:Option Addr) (c:Nat) (ds:List (List UInt8)),e=.returned (.tuple #[Iz s t' k',.slice A ds.length c])∧Ai w w'∧w'.ownsRow w.heap.size 9 1 (.slice A ds.length c) ds.length (ds.map tx)∧Hid (OQ s (tread 200) t k t' k' ds):=by
 rcases hst with hk|⟨rfl,tn,rfl,htn⟩
 ·refine (ZK s t k 200 hk w).mono ?_;rintro e w' ⟨rfl,hb⟩;exact ⟨t,k,none,0,[],rfl,hb,Tw w' _ _ _,.inl ⟨hk,rfl,rfl⟩⟩
 ·refine (Vu s tn 200 w hs htn Xl Xl Xl).mono ?_;rintro e w' ⟨hb,t',A,c,ds,rfl,hown,hres⟩;refine ⟨t',_,A,c,ds,rfl,hb,hown,.inr ⟨rfl,tn,rfl,htn,?_⟩⟩;cases ho:tread 200 (s.drop tn) with
  |error e=>exact .inl ⟨by have:=Sv ho;show e≠0;omega,rfl⟩
  |ok q=>
   obtain ⟨ts,l⟩:=q;obtain ⟨rfl,tm,rfl,htm,rfl⟩:=hres _ _ ho;exact .inr ⟨rfl,tm,rfl,htm,rfl⟩
theorem j3 {s:List UInt8} {X:List UInt8→PR (Int × List UInt8 × List UInt8 × List (List UInt8))} {t k t1 k1 t2 k2:Int} {f b:Nat} {tt:Int} {lo hi:List UInt8} {set:List (List UInt8)} (h:OQ s X t k t1 k1 (tt,lo,hi,set)) (h2:OQ s (DD 4) t1 k1 t2 k2 b):
 OQ s (fun l=>VE f (X l)) t k t2 k2 ⟨f,tt,lo,hi,set,decide (0<b),(b:Int) - (if 0<b then 1 else 0)⟩:=
 h.bind (h2.image (r:=fun l=>VE f (.ok ((tt,lo,hi,set),l))) (fun l e h=>by unfold VE;simp only;rw [h]) (fun l l' h=>by unfold VE;simp only;rw [h]))
  (fun l e h=>by unfold VE;rw [h]) (fun l l' h=>by simp only [h])
theorem Ag5 {s:List UInt8} {X:List UInt8→PR (Int × List UInt8 × List UInt8 × List (List UInt8))} {t k t1 k1 t2 k2:Int} {f b:Nat} {tt:Int} {lo hi:List UInt8} {set:List (List UInt8)} (h:OQ s X t k t1 k1 (tt,lo,hi,set)) (h2:OQ s (DD 4) t1 k1 t2 k2 b) (hb:¬ b=0):
 OQ s (fun l=>VE f (X l)) t k t2 k2 ⟨f,tt,lo,hi,set,true,(b:Int) - 1⟩:=by
 have:=j3 (f:=f) h h2;rw [Al Xl,PS Xl] at this;exact this
theorem Pq {s:List UInt8} {t k t1 k1 t2 k2:Int} {f:Nat} {pc:PC} (h:OQ s (DD 2) t k t1 k1 f) (h2:OQ s (fun r=>VE f (if f=1 then zV r else if f=2 then O5 r else .ok ((0,[],[],[]),r))) t1 k1 t2 k2 pc):OQ s Dj t k t2 k2 pc:=
 h.bind h2 (fun l e h=>by unfold Dj;rw [h]) (fun l l' h=>by unfold Dj;rw [h])
theorem Av7 {s:List UInt8} {t k:Int} (hst:k≠0∨(k=0∧∃ tn:Nat,t=tn∧tn≤s.length)):OQ s (fun r=>(.ok ((0,[],[],[]),r):PR (Int × List UInt8 × List UInt8 × List (List UInt8)))) t k t k (0,[],[],[]):=by
 rcases hst with hk|⟨rfl,tn,rfl,htn⟩
 ·exact .inl ⟨hk,rfl,rfl⟩
 ·exact .inr ⟨rfl,tn,rfl,htn,.inr ⟨rfl,tn,rfl,htn,rfl⟩⟩
theorem Av5 {s:List UInt8} {t k t1 k1 t2 k2 t3 k3:Int} {tt:Nat} {lo hi:List UInt8} (h:OQ s (DD 3) t k t1 k1 tt) (h2:OQ s (Dp 16) t1 k1 t2 k2 lo) (h3:OQ s (Dp 16) t2 k2 t3 k3 hi):OQ s zV t k t3 k3 ((tt:Int),lo,hi,[]):=
 h.bind (q:=fun r=>(match Dp 16 r with|.error k=>.error k|.ok (lo,r2)=>(match Dp 16 r2 with|.error k=>.error k|.ok (hi,r3)=>.ok (((tt:Int),lo,hi,[]),r3))))
  (h2.bind (q:=fun r2=>(match Dp 16 r2 with|.error k=>.error k|.ok (hi,r3)=>.ok (((tt:Int),lo,hi,[]),r3)))
   (h3.image (fun l e h=>by simp only [h]) (fun l l' h=>by simp only [h])) (fun l e h=>by simp only [h]) (fun l l' h=>by simp only [h]))
  (fun l e h=>by unfold zV;rw [h]) (fun l l' h=>by unfold zV;rw [h];(try rfl))
theorem Av6 {s:List UInt8} {t k t1 k1 t2 k2:Int} {tt:Nat} {set:List (List UInt8)} (h:OQ s (DD 3) t k t1 k1 tt) (h2:OQ s (tread 200) t1 k1 t2 k2 set):OQ s O5 t k t2 k2 ((tt:Int),[],[],set):=
 h.bind (q:=fun r=>(match tread 200 r with|.error k=>.error k|.ok (set,r2)=>.ok (((tt:Int),[],[],set),r2)))
  (h2.image (fun l e h=>by simp only [h]) (fun l l' h=>by simp only [h]))
  (fun l e h=>by unfold O5;rw [h]) (fun l l' h=>by unfold O5;rw [h];(try rfl))
theorem OQ.kP {s:List UInt8} {t k t1 k1:Int} {set:List (List UInt8)} (h:OQ s (tread 200) t k t1 k1 set) (h0:k1=0):set.length≤200∧∀ x ∈ set,x.length≤16:=by
 rcases h with ⟨h1,_,h2⟩|⟨h1,tn,_,_,h⟩
 ·omega
 ·rcases h with ⟨h,_⟩|⟨h,tm,h2,h3,h4⟩
  ·exact absurd h0 h
  ·exact ⟨by have:=Su h4;omega,fun x hx=>II (LV h4).1 hx⟩
theorem Zc3 {p:Prop} (h:p:=by
 clear hD hDs EW Fj;have Gc:=(H.blk 4 rfl).Ap 0;go_wp2_with (first|((with_reducible refine OP 78 ?_);(refine Bf EC (H.blk 6 rfl) ?_))|((with_reducible refine OP 79 ?_);(refine AP rfl QX (.tmp 78) rfl (D.cs) rfl rfl Xl ?_;replace H:=Aa (H.Co ((Ai.refl _).alloc _) (CE _ 80 (D.cs) _ rfl));(try simp only [LS] at H)))|((with_reducible refine OP 80 ?_);(refine Az rfl (.tmp 77) (.tmp 79) _ rfl QX 0 (Bj _) _ k _ rfl (H.row 2 rfl) _ 1 1 _ rfl (Rd.BC (H.row 8 rfl)) (Nk D) Za4 Xl ?_;intro vq wq AJ Aq AQ;replace H:=Aa (H.setRow 2 rfl Aq AJ AQ);(try simp only [LS] at H);clear AJ Aq AQ;obtain ⟨B9,c9,rfl,_⟩:=Ao (H.row 2 rfl);clear Gc;have Gc:=(H.blk 4 rfl).Ap 0;have fc0:=(H.blk 4 rfl).frozen 0)));replace H:=Aa (H.setCell 4 rfl 0 (.slice B9 (k+1) c9));(try simp only [LS] at H);replace H:=Aa (H.both 3 7 Xl rfl rfl (Um (NY=0) (BS Kk (rows++[D]))) (EZ fun h0=>Bl (CF (H.get 3 rfl) (HM h0)) (CF (H.get 7 rfl) h0)) (fun g hg=>by rcases Cg g hg.2 with h|h;exact .inl ⟨HM hg.1,h⟩;exact .inr ⟨hg.1,h⟩));(try simp only [LS] at H);replace H:=Aa (H.Fg [0,1,2,3,4,5] Za1 uH);(try simp only [LS] at H);clear Gc fc0;go_wp2_with fail;go_roundg (n - (k+1));case rel=>exact ⟨k+1,rows++[D],B9,c9,t9,NY,rfl,Xl,by go_num,by show _=_;rw [Cn,hac.Ab];(try rfl),by rw [EM,Df,Gt,EO];exact H,HI2⟩
 case measure=>rw [Cs.Ab];omega
):p:=h
theorem kV (d:Ej) (s:List UInt8) (w:World) (hd:d.rd w) (hs:s.length≤140737488351232) (hn:d.dm.n≤1000000) (hm:d.ms.n≤1000000) (hdd:∀ x ∈ d.dm.l,x.tr.n≤1000000∧∀ t ∈ x.tr.l,t.up.n≤100000):
 Calls prog 75 #[.agg d.cs,.string ⟨s.toArray⟩] w (Ar7 (Dv d.Ac s) w):=by
 have HC:=Aa (fun w' (hb:Ai w w')=>GI d w' (hd.mono hb) hn hm (fun x hx=>(hdd x hx).1));have HBC:=Aa (fun (X:Qr) w' (hX:X.rd w') (hb:Ai w w') (h2:∀ p ∈ X.ps.l,p.set.n≤100000)=>mU d X w' (hd.mono hb) hX hn hm hdd h2);have hl1:d.Ac.Dx.length=d.dm.n:=by have:d.dm.l.length=d.dm.n:=hd.dm.len;simpa using this
 have H:=Aa (((SL.start No w).alloc d.cs 25).alloc #[.slice none 0 0] 29);(try simp only [LS] at H);clear hd hdd;generalize d.Ac=dc at HC HBC hl1 ⊢;obtain ⟨⟨DA,n,cn,ds⟩,⟨MB,m,cm,ms⟩⟩:=d;simp only [Ej.cs] at *;by_cases hE:Ay dc=0
 ·obtain ⟨_,q2,_,_,q5,_⟩:=BH hE;have hn16:n≤16:=by omega
  have HT0:Hid (Dv dc s=match Gx n s with
   |.error k=>([],k)
   |.ok (q,r)=>if r≠[] then ([],3) else if BV dc q=0 then (q,0) else ([],BV dc q)):=by
   show _=_;unfold Dv;rw [Ak Xl,hl1]
   rfl
  rw [hE] at HC;clear hE q2 q5 hl1;go_enter func75,ntmps75;go_wp2_with ((with_reducible refine OP 12 ?_);(refine Bf Bb (H.blk 0 rfl) ?_));refine (HC _ H.to).mono ?_;rintro e w1 ⟨rfl,hb1⟩;replace H:=Aa (H.Av hb1);clear hb1 HC;generalize w.heap.size+1=y at *;generalize w.heap.size=x at *;have Gc:=(H.blk 0 rfl).Ap 0;go_upto_region 5 with fail;replace H:=Aa (H.alloc #[.slice none 0 0] 29);(try simp only [LS] at H);replace H:=Aa (H.Dw 80 7);(try simp only [LS] at H);obtain ⟨k0,hk0⟩:∃ k0:Int,k0=0:=⟨_,rfl⟩;replace H:=Aa (H.add (Ai.refl _) (Um (k0=0) (BS Kk [])) (EZ fun _=>Dk _ _) (fun g hg=>GZ g hg.2));(try simp only [LS] at H);generalize w1.heap.size=g at *;generalize World.alloc w1 _=w2 at *;clear Gc;have Gc:=(H.blk 0 rfl).Ap 0;go_wp2_with ((with_reducible refine OS 8 ?_);(refine DX Ar (DY s 0 0) (AU _ _ _) ?_;replace H:=Aa (H.alloc (DY s 0 0) 141);(try simp only [LS] at H);clear Gc;have Gc:=(H.blk 0 rfl).Ap 0));generalize w2.heap.size=a at *;generalize World.alloc w2 _=w3 at *;clear Gc;replace H:=Aa (H.Fg [0,5,3,4,2,1] Za1 uH);(try simp only [LS] at H);have HI:Hid (FH s (Gx n s) Dj n 0 (([]:List Pk).map Pk.Ac) 0 0):=.inr ⟨rfl,0,rfl,Bj _,rfl⟩;obtain ⟨t0,ht0⟩:∃ t0:Int,t0=0:=⟨_,rfl⟩;replace H:Hid (SL No w w3 [Aw x 25 #[.slice DA n cn,.slice MB m cm],Aw a 141 (DY s t0 k0),Ce 80 7 (.slice none 0 0) 0 (([]:List Pk).flatMap AY.cells),Um (k0=0) (BS Kk ([]:List Pk)),Aw g 29 #[.slice none 0 0],Aw y 29 #[.slice none 0 0]]):=(show DY s t0 k0=DY s 0 0 by rw [ht0,hk0]) ▸ H;replace HI:Hid (FH s (Gx n s) Dj n 0 (([]:List Pk).map Pk.Ac) t0 k0):=by rw [ht0,hk0];exact HI
  clear hk0 ht0;go_loopg [23] n (fun gg si wr=>∃ (k:Nat) (rows:List Pk) (B:Option Addr) (c:Nat) (t kk:Int),gg=n - k∧k≤n∧si=.int .i64 k∧Hid (rows.length=k)∧Hid (SL No w wr [Aw x 25 #[.slice DA n cn,.slice MB m cm],Aw a 141 (DY s t kk),Ce 80 7 (.slice B k c) k (rows.flatMap AY.cells),Um (kk=0) (BS Kk rows),Aw g 29 #[.slice B k c],Aw y 29 #[.slice none 0 0]])∧Hid (FH s (Gx n s) Dj n k (rows.map Pk.Ac) t kk));case atStart=>exact ⟨0,[],none,0,t0,k0,rfl,Xl,rfl,rfl,H,HI⟩
  case round=>
   clear H HI t0 k0;obtain ⟨k,rows,B,c,t,kk,BR,hk,rfl,hac,H,HI⟩:=hrel;have Cs:=Aa BR;have rH:k≤16:=by omega
   clear BR;by_cases hlt:k<n
   ·have HNx:=Aa (fun t' k' x (h:OQ s Dj t kk t' k' x)=>HI.next hlt h);have Jn:=Aa HI.st;clear HI;go_upto_region 9 with fail;replace H:=Aa (H.alloc #[.int .i64 0,.int .i64 0,.string ⟨#[]⟩,.string ⟨#[]⟩,.slice none 0 0,.bool false,.int .i64 0] 80);(try simp only [LS] at H);generalize wr.heap.size=yp at *;generalize World.alloc wr _=w4 at *;go_wp2_with ((with_reducible refine OP 26 ?_);(refine Bf Ar (H.blk 1 rfl) ?_));refine (Ny s t kk 2 Jn hs Xl Xl _).mono ?_;rintro e w1 ⟨t1,k1,f,rfl,hb1,hv1,hN1⟩;replace H:=Aa (H.Av hb1);clear hb1;go_upto_region 10 with ((with_reducible refine OS 8 ?_);(refine Cj Ar H 1 rfl (DY s t1 k1) (AU _ _ _) ?_;clear H;intro wq H;(try simp only [LS] at H);have ccr:=(H.blk 6 rfl).Ap 0;have fcr:=(H.blk 6 rfl).frozen 0));replace H:=Aa (H.setCell 6 rfl 0 (.int .i64 (f:Nat)));(try simp only [LS] at H);clear ccr fcr;generalize hfi:((f:Nat):Int)=fi at H ⊢;have hf3:f=0∨f=1∨f=2:=by omega
    have Gc:=(H.blk 6 rfl).Ap 0;rcases hf3 with rfl|rfl|rfl
    ·obtain rfl:fi=0:=by omega
     have ez:decide ((0:Int)<0)=false:=rfl;replace H:=Aa (H.Dw 9 1);(try simp only [LS] at H);have hN:Hid (OQ s (fun r=>(.ok ((0,[],[],[]),r):PR (Int × List UInt8 × List UInt8 × List (List UInt8)))) t1 k1 t1 k1 (0,[],[],[])):=Av7 hN1.st;clear Gc;have Gc:=(H.blk 6 rfl).Ap 0;go_wp2_with ((with_reducible refine OP 65 ?_);(refine Bf Ar (H.blk 1 rfl) ?_));clear Gc;refine (Ny s t1 k1 4 hN.st hs Xl Xl _).mono ?_;rintro e w9 ⟨t9,NY,bn,rfl,rP,hbn,xX⟩;replace H:=Aa (H.Av rP);clear rP;go_upto_region 19 with (first|((with_reducible refine OS 10 ?_);(refine DX Ar (DY s t9 NY) (AU _ _ _) ?_;replace H:=Aa (H.alloc (DY s t9 NY) 141);(try simp only [LS] at H)))|((with_reducible refine OP 69 ?_);(refine Bf Ar (H.blk 8 rfl) ?_))|((with_reducible refine OS 8 ?_);(refine Cj Ar H 1 rfl (DY s t9 NY) (AU _ _ _) ?_;clear H;intro wq H;(try simp only [LS] at H))));replace H:=Aa (H.Fg [0,1,2,3,4,5,6,7] Za1 uH);(try simp only [LS] at H);have HM:Hid (NY=0→kk=0):=fun h=>by have h1:=xX.mono h;exact hN1.mono h1
     replace H:Hid (SL No w _ [Aw x 25 #[.slice DA n cn,.slice MB m cm],Aw a 141 (DY s t9 NY),Ce 80 7 (.slice B k c) k (rows.flatMap AY.cells),Um (kk=0) (BS Kk rows),Aw g 29 #[.slice B k c],Aw y 29 #[.slice none 0 0],Aw yp 80 #[.int .i64 0,.int .i64 0,.string ⟨#[]⟩,.string ⟨#[]⟩,.slice none 0 0,.bool false,.int .i64 0],Ce 9 1 (.slice none 0 0) 0 ([].map tx)]):=H;by_cases hb0:bn=0
     ·subst hb0;obtain ⟨D,hD⟩:∃ D:Pk,D=⟨0,0,[],[],⟨none,0,0,[]⟩,false,0⟩:=⟨_,rfl⟩;have hDs:D.cs=#[.int .i64 0,.int .i64 0,.string ⟨#[]⟩,.string ⟨#[]⟩,.slice none 0 0,.bool false,.int .i64 0]:=by rw [hD]
      have EW:D.Ac=⟨0,0,[],[],[],false,0⟩:=by rw [hD]
      have Fj:Kk D=Kk ⟨0,0,[],[],⟨none,0,0,[]⟩,false,0⟩:=by rw [hD]
      replace H:=Aa (H.turn 7 rfl (Um (NY=0) (Kk D)) (EZ fun h0=>by rw [Fj];exact Ja (H.get 7 rfl) Za5 Za5 (Bj _) (Bj _) Zc1 (Bj _) Za5) (fun g hg=>by have h:=hg.2;rw [hD] at h;exact h));(try simp only [LS] at H);rw [←hDs] at H;have HI2:Hid (FH s (Gx n s) Dj n (k+1) ((rows++[D]).map Pk.Ac) t9 NY):=by
       have:=HNx t9 NY ⟨0,0,[],[],[],false,0⟩ (Pq hN1 (j3 (f:=0) hN xX.Ab));rw [Cf,Em,EX,EW];exact this
      exact Zc3
     ·have d1:decide ((0:Int)<(bn:Int))=true:=by simp<;>omega
      have d2:decide (0<bn)=true:=by simp<;>omega
      have wz:IntKind.i64.wrap ((bn:Int) - 1)=(bn:Int) - 1:=IB _ Xl;have PI:=(H.blk 6 rfl).Ap 5;have sO:=(H.blk 6 rfl).frozen 5;have fI:=(H.blk 6 rfl).Ap 6;have sN:=(H.blk 6 rfl).frozen 6;go_upto_region 22 with fail;replace H:=Aa (H.setCell 6 rfl 5 (.bool true));(try simp only [LS] at H);replace H:=Aa (H.setCell 6 rfl 6 (.int .i64 ((bn:Int) - 1)));(try simp only [LS] at H);clear PI fI sO sN;obtain ⟨D,hD⟩:∃ D:Pk,D=⟨0,0,[],[],⟨none,0,0,[]⟩,true,((bn:Int) - 1)⟩:=⟨_,rfl⟩;have hDs:D.cs=#[.int .i64 0,.int .i64 0,.string ⟨#[]⟩,.string ⟨#[]⟩,.slice none 0 0,.bool true,.int .i64 ((bn:Int) - 1)]:=by rw [hD]
      have EW:D.Ac=⟨0,0,[],[],[],true,((bn:Int) - 1)⟩:=by rw [hD]
      have Fj:Kk D=Kk ⟨0,0,[],[],⟨none,0,0,[]⟩,true,((bn:Int) - 1)⟩:=by rw [hD]
      replace H:=Aa (H.turn 7 rfl (Um (NY=0) (Kk D)) (EZ fun h0=>by rw [Fj];exact Ja (H.get 7 rfl) Za5 Za5 (Bj _) (Bj _) Zc1 (Bj _) Za5) (fun g hg=>by have h:=hg.2;rw [hD] at h;exact h));(try simp only [LS] at H);rw [←hDs] at H;have HI2:Hid (FH s (Gx n s) Dj n (k+1) ((rows++[D]).map Pk.Ac) t9 NY):=by
       have:=HNx t9 NY ⟨0,0,[],[],[],true,((bn:Int) - 1)⟩ (Pq hN1 (Ag5 (f:=0) hN xX hb0));rw [Cf,Em,EX,EW];exact this
      exact Zc3
    ·obtain rfl:fi=1:=by omega
     have ez:decide ((0:Int)<1)=true:=rfl;go_wp2_with ((with_reducible refine OP 35 ?_);(refine Bf Ar (H.blk 1 rfl) ?_));refine (Ny s t1 k1 3 hN1.st hs Xl Xl _).mono ?_;rintro e w2 ⟨t2,k2,tt,rfl,hb2,hv2,QO⟩;replace H:=Aa (H.Av hb2);clear hb2;go_upto_region 12 with ((with_reducible refine OS 8 ?_);(refine Cj Ar H 1 rfl (DY s t2 k2) (AU _ _ _) ?_;clear H;intro wq H;(try simp only [LS] at H);have ccr:=(H.blk 6 rfl).Ap 1;have fcr:=(H.blk 6 rfl).frozen 1));replace H:=Aa (H.setCell 6 rfl 1 (.int .i64 (tt:Nat)));(try simp only [LS] at H);clear ccr fcr;clear Gc;have Gc:=(H.blk 6 rfl).Ap 0;go_wp2_with ((with_reducible refine OP 44 ?_);(refine Bf Ar (H.blk 1 rfl) ?_));refine (Uk s t2 k2 16 QO.st hs Xl Xl _).mono ?_;rintro e w3 ⟨t3,k3,lo,rfl,hb3,hv3,hN3⟩;replace H:=Aa (H.Av hb3);clear hb3;go_upto_region 14 with ((with_reducible refine OS 8 ?_);(refine Cj Ar H 1 rfl (DY s t3 k3) (AU _ _ _) ?_;clear H;intro wq H;(try simp only [LS] at H);have ccr:=(H.blk 6 rfl).Ap 2;have fcr:=(H.blk 6 rfl).frozen 2));replace H:=Aa (H.setCell 6 rfl 2 (.string ⟨lo.toArray⟩));(try simp only [LS] at H);clear ccr fcr;go_wp2_with ((with_reducible refine OP 50 ?_);(refine Bf Ar (H.blk 1 rfl) ?_));refine (Uk s t3 k3 16 hN3.st hs Xl Xl _).mono ?_;rintro e w4 ⟨t4,k4,hi,rfl,hb4,hv4,hN4⟩;replace H:=Aa (H.Av hb4);clear hb4;go_upto_region 15 with ((with_reducible refine OS 8 ?_);(refine Cj Ar H 1 rfl (DY s t4 k4) (AU _ _ _) ?_;clear H;intro wq H;(try simp only [LS] at H);have ccr:=(H.blk 6 rfl).Ap 3;have fcr:=(H.blk 6 rfl).frozen 3));replace H:=Aa (H.setCell 6 rfl 3 (.string ⟨hi.toArray⟩));(try simp only [LS] at H);clear ccr fcr;replace H:=Aa (H.Dw 9 1);(try simp only [LS] at H);have hN:Hid (OQ s zV t1 k1 t4 k4 ((tt:Int),lo,hi,[])):=Av5 QO hN3 hN4.Ab;clear Gc;have Gc:=(H.blk 6 rfl).Ap 0
     go_wp2_with ((with_reducible refine OP 65 ?_);(refine Bf Ar (H.blk 1 rfl) ?_));clear Gc;refine (Ny s t4 k4 4 hN.st hs Xl Xl _).mono ?_;rintro e w9 ⟨t9,NY,bn,rfl,rP,hbn,xX⟩;replace H:=Aa (H.Av rP);clear rP;go_upto_region 19 with (first|((with_reducible refine OS 10 ?_);(refine DX Ar (DY s t9 NY) (AU _ _ _) ?_;replace H:=Aa (H.alloc (DY s t9 NY) 141);(try simp only [LS] at H)))|((with_reducible refine OP 69 ?_);(refine Bf Ar (H.blk 8 rfl) ?_))|((with_reducible refine OS 8 ?_);(refine Cj Ar H 1 rfl (DY s t9 NY) (AU _ _ _) ?_;clear H;intro wq H;(try simp only [LS] at H))));replace H:=Aa (H.Fg [0,1,2,3,4,5,6,7] Za1 uH);(try simp only [LS] at H);have HM:Hid (NY=0→kk=0):=fun h=>by have h1:=xX.mono h;exact hN1.mono (hN.mono h1)
     replace H:Hid (SL No w _ [Aw x 25 #[.slice DA n cn,.slice MB m cm],Aw a 141 (DY s t9 NY),Ce 80 7 (.slice B k c) k (rows.flatMap AY.cells),Um (kk=0) (BS Kk rows),Aw g 29 #[.slice B k c],Aw y 29 #[.slice none 0 0],Aw yp 80 #[.int .i64 1,.int .i64 (tt:Int),.string ⟨lo.toArray⟩,.string ⟨hi.toArray⟩,.slice none 0 0,.bool false,.int .i64 0],Ce 9 1 (.slice none 0 0) 0 ([].map tx)]):=H;by_cases hb0:bn=0
     ·subst hb0;obtain ⟨D,hD⟩:∃ D:Pk,D=⟨1,(tt:Int),lo,hi,⟨none,0,0,[]⟩,false,0⟩:=⟨_,rfl⟩;have hDs:D.cs=#[.int .i64 1,.int .i64 (tt:Int),.string ⟨lo.toArray⟩,.string ⟨hi.toArray⟩,.slice none 0 0,.bool false,.int .i64 0]:=by rw [hD]
      have EW:D.Ac=⟨1,(tt:Int),lo,hi,[],false,0⟩:=by rw [hD]
      have Fj:Kk D=Kk ⟨1,(tt:Int),lo,hi,⟨none,0,0,[]⟩,false,0⟩:=by rw [hD]
      replace H:=Aa (H.turn 7 rfl (Um (NY=0) (Kk D)) (EZ fun h0=>by rw [Fj];exact Ja (H.get 7 rfl) Za5 Za5 Xl Xl Zc1 (Bj _) Za5) (fun g hg=>by have h:=hg.2;rw [hD] at h;exact h));(try simp only [LS] at H);rw [←hDs] at H;have HI2:Hid (FH s (Gx n s) Dj n (k+1) ((rows++[D]).map Pk.Ac) t9 NY):=by
       have:=HNx t9 NY ⟨1,(tt:Int),lo,hi,[],false,0⟩ (Pq hN1 (j3 (f:=1) hN xX.Ab));rw [Cf,Em,EX,EW];exact this
      exact Zc3
     ·have d1:decide ((0:Int)<(bn:Int))=true:=by simp<;>omega
      have d2:decide (0<bn)=true:=by simp<;>omega
      have wz:IntKind.i64.wrap ((bn:Int) - 1)=(bn:Int) - 1:=IB _ Xl;have PI:=(H.blk 6 rfl).Ap 5;have sO:=(H.blk 6 rfl).frozen 5;have fI:=(H.blk 6 rfl).Ap 6;have sN:=(H.blk 6 rfl).frozen 6;go_upto_region 22 with fail;replace H:=Aa (H.setCell 6 rfl 5 (.bool true));(try simp only [LS] at H);replace H:=Aa (H.setCell 6 rfl 6 (.int .i64 ((bn:Int) - 1)));(try simp only [LS] at H);clear PI fI sO sN;obtain ⟨D,hD⟩:∃ D:Pk,D=⟨1,(tt:Int),lo,hi,⟨none,0,0,[]⟩,true,((bn:Int) - 1)⟩:=⟨_,rfl⟩;have hDs:D.cs=#[.int .i64 1,.int .i64 (tt:Int),.string ⟨lo.toArray⟩,.string ⟨hi.toArray⟩,.slice none 0 0,.bool true,.int .i64 ((bn:Int) - 1)]:=by rw [hD]
      have EW:D.Ac=⟨1,(tt:Int),lo,hi,[],true,((bn:Int) - 1)⟩:=by rw [hD]
      have Fj:Kk D=Kk ⟨1,(tt:Int),lo,hi,⟨none,0,0,[]⟩,true,((bn:Int) - 1)⟩:=by rw [hD]
      replace H:=Aa (H.turn 7 rfl (Um (NY=0) (Kk D)) (EZ fun h0=>by rw [Fj];exact Ja (H.get 7 rfl) Za5 Za5 Xl Xl Zc1 (Bj _) Za5) (fun g hg=>by have h:=hg.2;rw [hD] at h;exact h));(try simp only [LS] at H);rw [←hDs] at H;have HI2:Hid (FH s (Gx n s) Dj n (k+1) ((rows++[D]).map Pk.Ac) t9 NY):=by
       have:=HNx t9 NY ⟨1,(tt:Int),lo,hi,[],true,((bn:Int) - 1)⟩ (Pq hN1 (Ag5 (f:=1) hN xX hb0));rw [Cf,Em,EX,EW];exact this
      exact Zc3
    ·obtain rfl:fi=2:=by omega
     have ez:decide ((0:Int)<2)=true:=rfl;go_wp2_with ((with_reducible refine OP 35 ?_);(refine Bf Ar (H.blk 1 rfl) ?_));refine (Ny s t1 k1 3 hN1.st hs Xl Xl _).mono ?_;rintro e w2 ⟨t2,k2,tt,rfl,hb2,hv2,QO⟩;replace H:=Aa (H.Av hb2);clear hb2;go_upto_region 12 with ((with_reducible refine OS 8 ?_);(refine Cj Ar H 1 rfl (DY s t2 k2) (AU _ _ _) ?_;clear H;intro wq H;(try simp only [LS] at H);have ccr:=(H.blk 6 rfl).Ap 1;have fcr:=(H.blk 6 rfl).frozen 1));replace H:=Aa (H.setCell 6 rfl 1 (.int .i64 (tt:Nat)));(try simp only [LS] at H);clear ccr fcr;clear Gc;have Gc:=(H.blk 6 rfl).Ap 0;go_wp2_with ((with_reducible refine OP 59 ?_);(refine Bf Ar (H.blk 1 rfl) ?_));refine (oO s t2 k2 QO.st hs _).mono ?_;rintro e w3' ⟨t3,k3,SA,SCC,set,rfl,hb3,hown,hN3⟩;replace H:=Aa (H.Co hb3 hown);(try simp only [LS] at H);clear hb3 hown;go_upto_region 17 with ((with_reducible refine OS 8 ?_);(refine Cj Ar H 1 rfl (DY s t3 k3) (AU _ _ _) ?_;clear H;intro wq H;(try simp only [LS] at H);have cc4:=(H.blk 6 rfl).Ap 4;have fc4:=(H.blk 6 rfl).frozen 4));replace H:=Aa (H.setCell 6 rfl 4 (.slice SA set.length SCC));(try simp only [LS] at H);clear cc4 fc4;have hN:Hid (OQ s O5 t1 k1 t3 k3 ((tt:Int),[],[],set)):=Av6 QO hN3.Ab;clear Gc;have Gc:=(H.blk 6 rfl).Ap 0;go_wp2_with ((with_reducible refine OP 65 ?_);(refine Bf Ar (H.blk 1 rfl) ?_));clear Gc;refine (Ny s t3 k3 4 hN.st hs Xl Xl _).mono ?_;rintro e w9 ⟨t9,NY,bn,rfl,rP,hbn,xX⟩;replace H:=Aa (H.Av rP);clear rP
     go_upto_region 19 with (first|((with_reducible refine OS 10 ?_);(refine DX Ar (DY s t9 NY) (AU _ _ _) ?_;replace H:=Aa (H.alloc (DY s t9 NY) 141);(try simp only [LS] at H)))|((with_reducible refine OP 69 ?_);(refine Bf Ar (H.blk 8 rfl) ?_))|((with_reducible refine OS 8 ?_);(refine Cj Ar H 1 rfl (DY s t9 NY) (AU _ _ _) ?_;clear H;intro wq H;(try simp only [LS] at H))));replace H:=Aa (H.Fg [0,1,2,3,4,5,6,7] Za1 uH);(try simp only [LS] at H);have HM:Hid (NY=0→kk=0):=fun h=>by have h1:=xX.mono h;exact hN1.mono (hN.mono h1)
     replace H:Hid (SL No w _ [Aw x 25 #[.slice DA n cn,.slice MB m cm],Aw a 141 (DY s t9 NY),Ce 80 7 (.slice B k c) k (rows.flatMap AY.cells),Um (kk=0) (BS Kk rows),Aw g 29 #[.slice B k c],Aw y 29 #[.slice none 0 0],Aw yp 80 #[.int .i64 2,.int .i64 (tt:Int),.string ⟨#[]⟩,.string ⟨#[]⟩,.slice SA set.length SCC,.bool false,.int .i64 0],Ce 9 1 (.slice SA set.length SCC) set.length (set.map tx)]):=H;by_cases hb0:bn=0
     ·subst hb0;obtain ⟨D,hD⟩:∃ D:Pk,D=⟨2,(tt:Int),[],[],⟨SA,set.length,SCC,set⟩,false,0⟩:=⟨_,rfl⟩;have hDs:D.cs=#[.int .i64 2,.int .i64 (tt:Int),.string ⟨#[]⟩,.string ⟨#[]⟩,.slice SA set.length SCC,.bool false,.int .i64 0]:=by rw [hD]
      have EW:D.Ac=⟨2,(tt:Int),[],[],set,false,0⟩:=by rw [hD]
      have Fj:Kk D=Kk ⟨2,(tt:Int),[],[],⟨SA,set.length,SCC,set⟩,false,0⟩:=by rw [hD]
      replace H:=Aa (H.turn 7 rfl (Um (NY=0) (Kk D)) (EZ fun h0=>by rw [Fj];exact Ja (H.get 7 rfl) Za5 Za5 (Bj _) (Bj _) (hN3.kP (xX.mono h0)).2 (hN3.kP (xX.mono h0)).1 Za5) (fun g hg=>by have h:=hg.2;rw [hD] at h;exact h));(try simp only [LS] at H);rw [←hDs] at H;have HI2:Hid (FH s (Gx n s) Dj n (k+1) ((rows++[D]).map Pk.Ac) t9 NY):=by
       have:=HNx t9 NY ⟨2,(tt:Int),[],[],set,false,0⟩ (Pq hN1 (j3 (f:=2) hN xX.Ab));rw [Cf,Em,EX,EW];exact this
      exact Zc3
     ·have d1:decide ((0:Int)<(bn:Int))=true:=by simp<;>omega
      have d2:decide (0<bn)=true:=by simp<;>omega
      have wz:IntKind.i64.wrap ((bn:Int) - 1)=(bn:Int) - 1:=IB _ Xl;have PI:=(H.blk 6 rfl).Ap 5;have sO:=(H.blk 6 rfl).frozen 5;have fI:=(H.blk 6 rfl).Ap 6;have sN:=(H.blk 6 rfl).frozen 6;go_upto_region 22 with fail;replace H:=Aa (H.setCell 6 rfl 5 (.bool true));(try simp only [LS] at H);replace H:=Aa (H.setCell 6 rfl 6 (.int .i64 ((bn:Int) - 1)));(try simp only [LS] at H);clear PI fI sO sN;obtain ⟨D,hD⟩:∃ D:Pk,D=⟨2,(tt:Int),[],[],⟨SA,set.length,SCC,set⟩,true,((bn:Int) - 1)⟩:=⟨_,rfl⟩;have hDs:D.cs=#[.int .i64 2,.int .i64 (tt:Int),.string ⟨#[]⟩,.string ⟨#[]⟩,.slice SA set.length SCC,.bool true,.int .i64 ((bn:Int) - 1)]:=by rw [hD]
      have EW:D.Ac=⟨2,(tt:Int),[],[],set,true,((bn:Int) - 1)⟩:=by rw [hD]
      have Fj:Kk D=Kk ⟨2,(tt:Int),[],[],⟨SA,set.length,SCC,set⟩,true,((bn:Int) - 1)⟩:=by rw [hD]
      replace H:=Aa (H.turn 7 rfl (Um (NY=0) (Kk D)) (EZ fun h0=>by rw [Fj];exact Ja (H.get 7 rfl) Za5 Za5 (Bj _) (Bj _) (hN3.kP (xX.mono h0)).2 (hN3.kP (xX.mono h0)).1 Za5) (fun g hg=>by have h:=hg.2;rw [hD] at h;exact h));(try simp only [LS] at H);rw [←hDs] at H;have HI2:Hid (FH s (Gx n s) Dj n (k+1) ((rows++[D]).map Pk.Ac) t9 NY):=by
       have:=HNx t9 NY ⟨2,(tt:Int),[],[],set,true,((bn:Int) - 1)⟩ (Pq hN1 (Ag5 (f:=2) hN xX hb0));rw [Cf,Em,EX,EW];exact this
      exact Zc3
   ·have Oe:=Aa (HI.done (.inr Xl));clear HI;go_wp2_with ((with_reducible refine OP 83 ?_);(refine Bf Ar (H.blk 1 rfl) ?_));refine (Rz s t kk _).mono ?_;rintro e w7 ⟨rfl,Pz⟩;replace H:=Aa (H.Av Pz);clear Pz;by_cases hkk:kk=0
    ·subst hkk;obtain ⟨tn,rfl,htn,hP⟩:=Oe.good;replace H:=Aa (H.both 2 3 Xl rfl rfl (pR ⟨B,k,c,rows⟩) (WX (H.get 2 rfl) (CF (H.get 3 rfl) rfl) rH) (fun g hg=>hg.elim (fun h=>.inl h) (fun h=>.inr ⟨rfl,h⟩)));(try simp only [LS] at H);by_cases hr:s.drop tn=[]
     ·have HT1:Hid (Dv dc s=if BV dc (rows.map Pk.Ac)=0 then (rows.map Pk.Ac,0) else ([],BV dc (rows.map Pk.Ac))):=by show _=_;rw [HT0.Ab,hP];simp only;rw [Ak (by simp [hr])]
      rw [show Io s tn 0=0 by unfold Io;rw [Ak Xl,Al (by have:=CW List.length hr;simp at this;omega)]];clear hP hr HT0 Oe;go_wp2_with (first|((with_reducible refine OP 87 ?_);(refine Bf Bb (H.blk 0 rfl) ?_))|((with_reducible refine OP 88 ?_);(refine Bf Eu (H.blk 3 rfl) ?_)));refine (HBC ⟨⟨B,k,c,rows⟩⟩ _ (H.at_ 2 rfl).1 H.to (fun p hp=>by have:=(H.at_ 2 rfl).2.2 p hp;omega)).mono ?_;rintro e w8 ⟨rfl,iY⟩;replace H:=Aa (H.Av iY);simp only [Qr.Ac];clear iY HBC;by_cases hE2:BV dc (rows.map Pk.Ac)=0
      ·have HT:Hid (Dv dc s=(rows.map Pk.Ac,0)):=by show _=_;rw [HT1.Ab,Al hE2]
       rw [hE2];clear hE2 HT1;go_wp2_with (first|((with_reducible refine OP 94 ?_);(refine Bf Eu (H.blk 3 rfl) ?_))|((with_reducible refine OS 4 ?_);(refine Cj Eu H 4 rfl (#[.slice B k c]) Za2 ?_;clear H;intro wq H;(try simp only [LS] at H))));refine Bc (Au rfl Eu rfl (H.blk 4 rfl) rfl) rfl ?_;rw [HT.Ab];exact ⟨⟨⟨B,k,c,rows⟩⟩,rfl,rfl,H.to,H.get 2 rfl,H.new 2 rfl⟩
      ·have HT:Hid (Dv dc s=([],BV dc (rows.map Pk.Ac))):=by show _=_;rw [HT1.Ab,Ak hE2]
       generalize BV dc (rows.map Pk.Ac)=E at *;have dk:(E==0)=false:=by simpa using hE2
       have dk2:(E !=0)=true:=by simpa using hE2
       clear hE2 HT1;exact Ze4
     ·have HT:Hid (Dv dc s=([],3)):=by show _=_;rw [HT0.Ab,hP];simp only;rw [Al hr]
      rw [show Io s tn 0=3 by unfold Io;rw [Ak Xl,Ak (fun h=>hr (EN Xl))]];clear hP hr HT0 Oe;exact Ze4
    ·have HT:Hid (Dv dc s=([],kk)):=by show _=_;rw [HT0.Ab,Oe.bad hkk]
     rw [show Io s t kk=kk by unfold Io;rw [Al hkk]];have dk:(kk==0)=false:=by simpa using hkk
     have dk2:(kk !=0)=true:=by simpa using hkk
     clear HT0 Oe;go_wp2_with ((with_reducible refine OS 4 ?_);(refine Cj Eu H 5 rfl (#[.slice none 0 0]) Za2 ?_;clear H;intro wq H;(try simp only [LS] at H)));refine Bc (Au rfl Eu rfl (H.blk 5 rfl) rfl) rfl ?_;rw [HT.Ab];exact ⟨⟨⟨none,0,0,[]⟩⟩,rfl,rfl,H.to,FW _,IC⟩
 ·have HT:Hid (Dv dc s=([],Ay dc)):=by show _=_;unfold Dv;rw [Al hE]
  have dE:(Ay dc==0)=false:=by simpa using hE
  have dE2:(Ay dc !=0)=true:=by simpa using hE
  clear hE;go_enter func75,ntmps75;go_wp2_with ((with_reducible refine OP 12 ?_);(refine Bf Bb (H.blk 0 rfl) ?_));exact Zn0
end Go.Proofs.YtijplolmkcdflaaGreat
namespace Go.Proofs.YtijplolmkcdflaaGreat
open Go.RowKit
structure Ax0 (p:PC):Prop where
 f:p.f=0∨(p.f=1∧p.lo.length≤16∧p.hi.length≤16)∨(p.f=2∧Cr p.set=0∧p.set.length≤200)
 b:0≤p.Mf∧p.Mf≤1000000
 t:0≤p.t∧p.t≤1000000
theorem zG.put {d:DC} {p:PC} (hd:BD d=0) (h:zG d p):Ax0 p:=by
 obtain ⟨_,d1,d2,_⟩:=ER hd;refine ⟨?_,?_,?_⟩
 ·rcases h.f with h|h|h
  ·exact .inl h.1
  ·exact .inr (.inl ⟨h.1,h.2.2.1,h.2.2.2.1⟩)
  ·obtain ⟨h1,_,_,h2,_,tr,h3,h4⟩:=h;obtain ⟨a,ha⟩:=Tc (Gq (ER hd).2.2.2) (CU h3);have h5:=(EK ha).2.2.1;have h6:=Am5 h2 h4;exact .inr (.inr ⟨h1,h2,Xl⟩)
 ·rcases h.b with h|h<;>omega
 ·rcases h.f with h|h|h
  ·omega
  ·omega
  ·obtain ⟨h1,_,_,h2,h7,tr,h3,h4⟩:=h;have:=(CB.1 h3).1;omega
section
variable {P : Program}
end
abbrev Pk.nil:Pk:=⟨0,0,[],[],⟨none,0,0,[]⟩,false,0⟩
section
variable {P : Program} {w : World}
end
structure D5 where
 t:Int
 tk:Row Int
 io:Row Int
abbrev D5.cs (x:D5):Array Value:=#[.int .i64 x.t,.slice x.tk.A x.tk.n x.tk.c,.slice x.io.A x.io.n x.io.c]
structure D5.rd (w:World) (x:D5):Prop where
 t:AZ x.t
 tk:x.tk.rd w
 io:x.io.rd w
 tb:x.tk.n≤140737488351232
 ib:x.io.n≤140737488351232
theorem D5.rd.mono {w w':World} {x:D5} (h:x.rd w) (hb:Ai w w'):x.rd w':=⟨h.t,h.tk.mono hb,h.io.mono hb,h.tb,h.ib⟩
instance As9:AY D5 where
 size:=3
 bytes:=56
 cells x:=x.cs.toList
 ok w x:=x.rd w
 len _:=rfl
 pos:=by omega
 mono hb h:=h.mono hb
structure SnC where
 t:Int
 tk:List Int
 io:List Int
deriving DecidableEq
abbrev D5.Ac (x:D5):SnC:=⟨x.t,x.tk.l,x.io.l⟩
structure Ak7 (x:D5) (w:World):Prop where
 t:AZ x.t
 tk:w.ownsRow 0 3 1 (.slice x.tk.A x.tk.n x.tk.c) x.tk.n (x.tk.l.map (Value.int .i64))
 io:w.ownsRow 0 3 1 (.slice x.io.A x.io.n x.io.c) x.io.n (x.io.l.map (Value.int .i64))
 tl:∀ v ∈ x.tk.l,AZ v
 il:∀ v ∈ x.io.l,AZ v
 tn:x.tk.n≤1000000
 inn:x.io.n≤1000000
def D5.D (x:D5) (g:Nat):Prop:=x.tk.v.ownBlock=some g∨x.io.v.ownBlock=some g
theorem Ak7.rd {x:D5} {w:World} (h:Ak7 x w):D5.rd w x:=
 ⟨h.t,⟨by have:=Rd.BC h.tk;rw [Gz];exact this,fun t ht=>h.tl t ht,by have:=h.tn;omega⟩,⟨by have:=Rd.BC h.io;rw [Gz];exact this,fun t ht=>h.il t ht,by have:=h.inn;omega⟩,by have:=h.tn;omega,by have:=h.inn;omega⟩
def vP (p:PC):Int:=if p.f≠0∧p.g=true then min p.t p.Mf else if p.f≠0 then p.t else if p.g=true then p.Mf else -1
end Go.Proofs.YtijplolmkcdflaaGreat
namespace Go.Proofs.YtijplolmkcdflaaGreat
open Tryz
open Go.RowKit
def CJ:List DC→List PC→List Int→List (List UInt8)→Except Int (List (List UInt8))
 |d::ds,p::ps,ks,acc=>
  if p.g=true then
   match d.Bi[p.Mf.toNat]? with
   |none=>.error 13
   |some tr=>
    match ks with
    |[]=>.error 13
    |k::ks=>if k<0 then .error 13 else match tr.ts[k.toNat]? with|none=>.error 13|some t=>CJ ds ps ks (acc++[t])
  else CJ ds ps ks acc
 |_,_,[],acc=>.ok acc
 |_,_,_::_,_=>.error 2
def Ey (s:SC) (q:List PC) (ks:List Int):Except Int (List (List UInt8)):=if BV s q≠0 then .error (BV s q) else CJ s.Dx q ks []
theorem RV {ds:List DC} {ps:List PC} {k:Nat} {d:DC} {p:PC} {ks:List Int} {acc:List (List UInt8)} (hd:ds[k]?=some d) (hp:ps[k]?=some p) (hg:p.g=false):CJ (ds.drop k) (ps.drop k) ks acc=CJ (ds.drop (k+1)) (ps.drop (k+1)) ks acc:=by
 obtain ⟨h1,rfl⟩:=CB.1 hd;obtain ⟨h2,rfl⟩:=CB.1 hp;rw [Eg h1,Eg h2,CJ,Ak (by rw [hg];simp)]
theorem RU {ds:List DC} {ps:List PC} {k:Nat} {d:DC} {p:PC} {tr:TC} {ks:List Int} {acc:List (List UInt8)} (hd:ds[k]?=some d) (hp:ps[k]?=some p) (hg:p.g=true) (ht:d.Bi[p.Mf.toNat]?=some tr):
 CJ (ds.drop k) (ps.drop k) ks acc=(match ks with|[]=>.error 13|k'::ks=>if k'<0 then .error 13 else match tr.ts[k'.toNat]? with|none=>.error 13|some t=>CJ (ds.drop (k+1)) (ps.drop (k+1)) ks (acc++[t])):=by
 obtain ⟨h1,rfl⟩:=CB.1 hd;obtain ⟨h2,rfl⟩:=CB.1 hp;rw [Eg h1,Eg h2,CJ,Al hg,ht]
theorem TM {ks:List Int} {acc:List (List UInt8)}:CJ [] [] ks acc=(match ks with|[]=>.ok acc|_::_=>.error 2):=by cases ks<;>rfl
def Ab8 (o:Except Int (List (List UInt8))) (w:World) (e:Ending) (w':World):Prop:=
 match o with
 |.error k=>e=.returned (.tuple #[.slice none 0 0,.int .i64 k])∧Ai w w'
 |.ok ts=>∃ (A:Option Addr) (c:Nat),e=.returned (.tuple #[.slice A ts.length c,.int .i64 0])∧Ai w w'∧w'.ownsRow w.heap.size 9 1 (.slice A ts.length c) ts.length (ts.map tx)
theorem Row.rd.tail {w:World} {b o n c:Nat} {l:List Int} (h:Row.rd w ⟨some ⟨b,o,none⟩,n,c,l⟩) (h1:1≤n) (hc:n≤c):Row.rd w ⟨some ⟨b,o+1,none⟩,n - 1,c - 1,l.drop 1⟩:=by
 have hr:=h.r.drop (k:=1) (cap:=c) h1 hc;have hl:l.length=n:=h.len;have h63:n≤_:=h.n63;refine ⟨?_,fun a ha=>h.all a (Tx ha),by show n - 1≤_;omega⟩;by_cases hc1:c=1
 ·obtain rfl:n=1:=by omega
  show Rd w 1 _ 0 ((l.drop 1).flatMap AY.cells);rw [EN Xl];exact Rd.nil
 ·rw [Ak hc1] at hr;show Rd w 1 _ (n - 1) ((l.drop 1).flatMap AY.cells);rw [Gz,List.map_drop];simp only at hr;rw [Gz] at hr;exact hr
theorem yH {α:Type} {l:List α} {j:Nat} {x:α} (h:l[j]?=some x):l.drop j=x::l.drop (j+1):=by
 obtain ⟨h1,rfl⟩:=CB.1 h;exact Eg h1
theorem Zj7 {p:Prop} (h:p:=by
 clear hnk Yz hkd hkz hA7;go_upto_region 12 with fail;refine Eo (S:=fun _=>True) Za0 trivial fun hHeld=>?_;replace H:=Aa (H.drew);refine Bd Ml ?_;refine Bd KF ?_;refine Bd MN ?_;refine Bd MH ?_;refine Bd Ky ?_;refine Bd FO ?_;refine BG LJ fun KK Ad=>?_;go_simp;refine Aj Ad trivial fun hHeld=>?_;clear Ad KK;refine BG KW fun KK Ad=>?_;go_simp;refine Aj Ad trivial fun hHeld=>?_;clear Ad KK;refine BG MI fun KK Ad=>?_;go_simp;refine Aj Ad trivial fun hHeld=>?_;clear Ad KK;refine BG Lj fun KK Ad=>?_;refine BP rfl FB (.tmp 64) rfl (.string ⟨nm.toArray⟩) rfl #[.string ⟨nm.toArray⟩] rfl rfl Xl ?_;replace H:=Aa (H.alloc #[.string ⟨nm.toArray⟩] 9);(try simp only [LS] at H);refine Aj Ad trivial fun hHeld=>?_;clear Ad KK;refine BG Mk fun KK Ad=>?_;refine AX rfl (.tmp 58) (.tmp 65) _ rfl FB 0 (Bj _) _ j _ rfl (H.row 2 rfl) _ 1 1 _ rfl (AV (H.blk 4 rfl) rfl) Za2 Za4 Xl ?_;intro vq wq AJ Aq AQ;replace H:=Aa (H.setRow 2 rfl Aq AJ AQ);(try simp only [LS] at H);clear AJ Aq AQ;obtain ⟨A9,c9,rfl,_⟩:=Ao (H.row 2 rfl);refine Aj Ad trivial fun hHeld=>?_;clear Ad KK;refine BG Ga fun KK Ad=>?_;go_simp;refine Aj Ad trivial fun hHeld=>?_;clear Ad KK;refine BG Hw fun KK Ad=>?_;go_simp;refine Aj Ad trivial fun hHeld=>?_;clear Ad KK;refine BZ ?_;clear hHeld;replace H:=Aa (H.Fg [0,1,2] Za1 uH);(try simp only [LS] at H);go_wp2_with fail;go_roundg (dn - (k+1));case rel=>exact ⟨k+1,acc++[nm],j+1,A9,c9,_,_,_,_,rfl,Xl,by go_num,rfl,rfl,by show _=_;rw [Cn,hac.Ab];(try rfl),by rw [Cf];exact H,HN,HKR2,Xl⟩
 case measure=>rw [Cs.Ab];omega
):p:=h
theorem T9 (s:Ej) (q:Qr) (x:Row Int) (w:World) (hs:s.rd w) (hq:q.rd w) (hx:x.rd w) (uY:x.n≤x.c) (hn:s.dm.n≤1000000) (hm:s.ms.n≤1000000) (hd:∀ d ∈ s.dm.l,d.tr.n≤1000000∧∀ t ∈ d.tr.l,t.up.n≤100000) (hp:∀ p ∈ q.ps.l,p.set.n≤100000):
 Calls prog 65 #[.agg s.cs,.agg q.cs,.slice x.A x.n x.c] w (Ab8 (Ey s.Ac q.Ac x.l) w):=by
 have HC:=Aa (fun w' (hb:Ai w w')=>We s q w' (hs.mono hb) (Row.rd.mono hq hb) hn hm hd hp);have hl1:Hid (s.dm.l.length=s.dm.n):=hs.dm.len;have hl2:Hid (q.ps.l.length=q.ps.n):=Row.rd.len hq;have HD:=Aa hs.dm;have HQ:=Aa (show q.ps.rd w from hq);have m63:q.ps.n≤9223372036854775807:=hq.n63;have H:=Aa (((SL.start No w).alloc s.cs 25).alloc q.cs 29);(try simp only [LS] at H);have HKR0:Hid (Row.rd w ⟨x.A,x.n,x.c,x.l.drop 0⟩):=by rw [Pj];exact hx
 obtain ⟨⟨DA,dn,dc,ds⟩,⟨MA,mn,mc,ms⟩⟩:=s;obtain ⟨⟨A,n,c,ps⟩⟩:=q;obtain ⟨XA,xn,xc,keys⟩:=x;simp only [Ej.cs,Qr.cs,Ej.Ac,Qr.Ac] at *;clear hs hq hd hp hx;go_enter func65,ntmps65;go_wp2_with (first|((with_reducible refine OP 13 ?_);(refine Bf Bb (H.blk 0 rfl) ?_))|((with_reducible refine OP 14 ?_);(refine Bf Eu (H.blk 1 rfl) ?_)));refine (HC _ H.to).mono ?_;rintro e w1 ⟨rfl,hb1⟩;replace H:=Aa (H.Av hb1);clear hb1 HC;by_cases hE:BV ⟨ds.map Dm.Ac,ms⟩ (ps.map Pk.Ac)=0
 ·obtain ⟨e1,e2,e3⟩:=EB hE;have e4:=(BH e1).2.1;have HPO:=Aa (fun k d p h1 h2=>IK (OE e3 e2 k d p h1 h2));have hdn:dn=n:=by have:=hl1.Ab;have:=hl2.Ab;simp only [CQ] at e2 e4;omega
  have hn16:n≤16:=by have:=hl2.Ab;simp only [CQ] at e2 e4;omega
  have HN0:Hid (Ey ⟨ds.map Dm.Ac,ms⟩ (ps.map Pk.Ac) keys=CJ ((ds.map Dm.Ac).drop 0) ((ps.map Pk.Ac).drop 0) (keys.drop 0) []):=by show _=_;unfold Ey;rw [Ak Xl];(try rfl)
  rw [hE];subst hdn;clear hE e1 e2 e3 e4;have Gc:=(H.blk 1 rfl).Ap 0;go_wp2_with fail;clear Gc;replace H:=Aa (H.Dw 9 1);(try simp only [LS] at H);generalize w.heap.size+1=y at *;generalize w.heap.size=x at *;obtain ⟨KA,hKA⟩:∃ KA,KA=XA:=⟨_,rfl⟩;obtain ⟨kn,hkn⟩:∃ kn,kn=xn:=⟨_,rfl⟩;obtain ⟨kc,hkc⟩:∃ kc,kc=xc:=⟨_,rfl⟩;rw [←hKA,←hkn,←hkc] at HKR0;rw [←hkn,←hkc] at uY;go_loopg [9,2,22] dn (fun gg s9 s2 i wr=>∃ (k:Nat) (acc:List (List UInt8)) (j:Nat) (B:Option Addr) (cB:Nat) (KA:Option Addr) (kn kc jj:Nat),gg=dn - k∧k≤dn∧i=.int .i64 k∧s9=.slice B j cB∧s2=.slice KA kn kc∧Hid (acc.length=j)∧Hid (SL No w wr [Aw x 25 #[.slice DA dn dc,.slice MA mn mc],Aw y 29 #[.slice A dn c],Ce 9 1 (.slice B j cB) j (acc.map tx)])∧Hid (Ey ⟨ds.map Dm.Ac,ms⟩ (ps.map Pk.Ac) keys=CJ ((ds.map Dm.Ac).drop k) ((ps.map Pk.Ac).drop k) (keys.drop jj) acc)∧Hid (Row.rd w ⟨KA,kn,kc,keys.drop jj⟩)∧j≤k∧kn≤kc);case atStart=>exact ⟨0,[],0,none,0,KA,kn,kc,0,rfl,Xl,rfl,rfl,by rw [hKA,hkn,hkc],rfl,H,HN0,HKR0,Ci _,uY⟩
  case round=>
   clear H HN0 HKR0 uY hKA hkn hkc KA kn kc;obtain ⟨k,acc,j,B,cB,KA,kn,kc,jj,BR,hk,rfl,rfl,rfl,hac,H,HN,HKR,hjk,hkc⟩:=hrel;have Cs:=Aa BR;clear BR;have kl:Hid ((keys.drop jj).length=kn):=HKR.len;have k63:=HKR.n63;by_cases hlt:k<dn
   ·obtain ⟨b1,o1,D,hA,hb1,Ve,Fj,hrg1⟩:=(HD.mono H.to).Sd (k:=k) hlt;simp only at hA;subst hA;obtain ⟨b2,o2,p,hB,hb2,hpk,hpr,hrg2⟩:=(HQ.mono H.to).P7 (k:=k) hlt;simp only at hB;subst hB;have EW:(ds.map Dm.Ac)[k]?=some D.Ac:=by rw [Ed,Ve];(try rfl)
    have hpc:(ps.map Pk.Ac)[k]?=some p.Ac:=by rw [Ed,hpk];(try rfl)
    have HPk:=Aa (HPO k D.Ac p.Ac EW hpc);have HDC:=Aa EW;have HPC:=Aa hpc;have HR1:=Aa (fun w' (hb:Ai wr w')=>CP hb1 hrg1 hb);have nR:=Aa (fun w' (hb:Ai wr w')=>Fj.tr.mono hb);have HDl:Hid (D.tr.l.length=D.tr.n):=Fj.tr.len;have HR2:=Aa hrg2;have i0:(0:Int)≤k:=by omega
    have i1:(k:Int)<dn:=by omega
    have D63:=Fj.tr.n63;clear Ve hpk hrg1 hrg2 Fj hpr hb1 hb2 EW hpc;obtain ⟨pf,pt,lo,hi,⟨A3,n3,c3,set⟩,g,pb⟩:=p;simp only [Pk.cs,Pk.Ac] at *;go_upto_region 8 with (first|((with_reducible refine OP 26 ?_);(refine Af rfl EC (.tmp 25) rfl b2 (o2+k * 7) rfl #[.int .i64 pf,.int .i64 pt,.string ⟨lo.toArray⟩,.string ⟨hi.toArray⟩,.slice A3 n3 c3,.bool g,.int .i64 pb] rfl HR2.Ab ?_))|((with_reducible refine OS 11 ?_);(refine DX EC (#[.int .i64 pf,.int .i64 pt,.string ⟨lo.toArray⟩,.string ⟨hi.toArray⟩,.slice A3 n3 c3,.bool g,.int .i64 pb]) Za2 ?_;replace H:=Aa (H.alloc (#[.int .i64 pf,.int .i64 pt,.string ⟨lo.toArray⟩,.string ⟨hi.toArray⟩,.slice A3 n3 c3,.bool g,.int .i64 pb]) 80);(try simp only [LS] at H))));(try simp only [Act.put,LP]);have HB:=Aa ((Ai.refl wr).alloc (.cells #[.int .i64 pf,.int .i64 pt,.string ⟨lo.toArray⟩,.string ⟨hi.toArray⟩,.slice A3 n3 c3,.bool g,.int .i64 pb] 80));clear HR2;generalize wr.heap.size=z at *;generalize World.alloc wr _=w5 at *;have cp5:=(H.blk 3 rfl).Ap 5;cases g with
    |false=>
     have JS:Hid (Ey ⟨ds.map Dm.Ac,ms⟩ (ps.map Pk.Ac) keys=CJ ((ds.map Dm.Ac).drop (k+1)) ((ps.map Pk.Ac).drop (k+1)) (keys.drop jj) acc):=by show _=_;rw [HN.Ab,RV HDC HPC rfl]
     replace H:=Aa (H.Fg [0,1,2] Za1 uH);(try simp only [LS] at H);clear HN HPk HDC HPC;go_wp2_with fail;go_roundg (dn - (k+1));case rel=>exact ⟨k+1,acc,j,B,cB,KA,kn,kc,jj,rfl,Xl,by go_num,rfl,rfl,hac,H,JS,HKR,Xl,hkc⟩
     case measure=>rw [Cs.Ab];omega
    |true=>
     obtain ⟨pb,rfl⟩:∃ b:Nat,pb=b:=⟨pb.toNat,by have hPb:=HPk.b;simp only at hPb;rcases hPb with h|h;omega;cases h.1⟩;have hbn:pb<D.tr.n:=by
      have:=HDl.Ab;rcases HPk.b with h|h
      ·have h2:=h.2.2;simp only [CQ] at h2;omega
      ·cases h.1
     have q1:=HR1 w5 HB.Ab 1 _ rfl;obtain ⟨b4,o4,Tr,hA4,hbb4,xW,hTr,hrg4⟩:=(nR w5 HB.Ab).JO (k:=pb) hbn;rw [hA4] at q1;have q2:=hrg4 1 _ rfl;have htrc:D.Ac.Bi[(pb:Int).toNat]?=some Tr.Ac:=by rw [Db];show (D.tr.l.map Bt.Ac)[pb]?=_;rw [Ed,xW];(try rfl)
     have Yz:=Aa (HN.trans (RU HDC HPC rfl htrc));have uN:=Aa hTr.ts;have htl:Hid (Tr.ts.l.length=Tr.ts.n):=hTr.ts.len;have T63:=hTr.ts.n63;have j0:(0:Int)≤pb:=by omega
     have j1:(pb:Int)<D.tr.n:=by omega
     have cs0:=(H.blk 0 rfl).Ap 0;have cp6:=(H.blk 3 rfl).Ap 6;clear xW hTr hrg4 htrc HN HPk HDC HPC nR HR1 hbb4 hA4;go_upto_region 9 with fail;have Aj6:=fun u:Over w5=>Over.cell cs0 u
     have Aw1:=fun u:Over w5=>Over.cell cp6 u
     have f_q1:=fun u:Over w5=>Over.cell q1 u
     have f_q2:=fun u:Over w5=>Over.cell q2 u
     refine Am ?_;(try simp only [Act.put,LP]);repeat (go_big_quiet_step (fail))
     refine CS ?_;rintro w5 ⟨⟨_,Gd⟩,rfl⟩;(try dsimp only);replace H:=Aa (H.Av Gd);clear Aj6 Aw1 f_q1 f_q2 cs0 cp6 q1 q2;replace uN:=Aa (uN.mono Gd);clear Gd HB;by_cases hk0:kn=0
     ·have hnil:keys.drop jj=[]:=LD (by rw [kl.Ab];exact hk0);subst hk0;have JS:Hid (Ey ⟨ds.map Dm.Ac,ms⟩ (ps.map Pk.Ac) keys=.error 13):=by show _=_;rw [Yz.Ab];rw [hnil]
      go_wp2;go_ret2;rw [JS.Ab];exact ⟨rfl,H.to⟩
     ·obtain ⟨b6,o6,kz,hA6,hkz,hkI,q6⟩:=(HKR.mono H.to).Pv (k:=0) (by show 0<kn;omega);simp only at hA6 hkz;subst hA6;simp only [Kb] at q6;have z1:((kn:Int)==0)=false:=by simp<;>omega
      have z2:(kn==0)=false:=by simp<;>omega
      have z3:(0:Int)<kn:=by omega
      have z4:0<kn:=by omega
      have z5:1≤kn:=by omega
      have z6:(1:Int)≤kn:=by omega
      have z7:(kn:Int)≤kc:=by omega
      have z8:(1:Int)≤kc:=by omega
      have z9:1≤kc:=by omega
      have hkd:keys.drop jj=kz::keys.drop (jj+1):=by
       rw [NJ,Kb] at hkz;exact yH hkz
      rw [hkd] at Yz;by_cases hz0:kz<0
      ·have d1:decide (kz<0)=true:=by simpa using hz0
       have JS:Hid (Ey ⟨ds.map Dm.Ac,ms⟩ (ps.map Pk.Ac) keys=.error 13):=by show _=_;rw [Yz.Ab];simp only;rw [Al hz0]
       go_wp2;go_ret2;rw [JS.Ab];exact ⟨rfl,H.to⟩
      ·have d1:decide (kz<0)=false:=by simpa using hz0
       obtain ⟨kv,rfl⟩:∃ b:Nat,kz=b:=⟨kz.toNat,Xl⟩;by_cases hzn:kv<Tr.ts.n
       ·have d2:decide ((Tr.ts.n:Int)≤kv)=false:=by simp<;>omega
        have d3:decide (Tr.ts.n≤kv)=false:=by simp<;>omega
        obtain ⟨b7,o7,nm,hA7,hnk,hnl,q7⟩:=uN.GR (k:=kv) hzn;have HN:Hid (Ey ⟨ds.map Dm.Ac,ms⟩ (ps.map Pk.Ac) keys=CJ ((ds.map Dm.Ac).drop (k+1)) ((ps.map Pk.Ac).drop (k+1)) (keys.drop (jj+1)) (acc++[nm])):=by
         show _=_;rw [Yz.Ab];simp only;rw [Ak hz0,Db,show (Tr.Ac).ts[kv]?=some nm from hnk]
        have i2:(0:Int)≤kv:=by omega
        have i3:(kv:Int)<Tr.ts.n:=by omega
        rw [hA7];by_cases hk1:kc=1
        ·obtain rfl:kn=1:=by omega
         subst hk1;have HKR2:Hid (Row.rd w ⟨some ⟨b6,o6,none⟩,0,0,keys.drop (jj+1)⟩):=by
          have hnil:keys.drop (jj+1)=[]:=by
           have h:=kl.Ab;rw [Ih] at h;exact EN Xl
          rw [hnil];exact ⟨Rd.nil,(fun a ha=>by cases ha),by show (0:Nat)≤_;omega⟩
         exact Zj7
        ·have HKR2:Hid (Row.rd w ⟨some ⟨b6,o6+1,none⟩,kn - 1,kc - 1,keys.drop (jj+1)⟩):=by have h:=HKR.tail z5 hkc;rw [PQ] at h;exact h
         have y1:¬ kc - 1=0:=by omega
         have y2:(kc - 1==0)=false:=by simp<;>omega
         have y3:((kc:Int) - 1==0)=false:=by simp<;>omega
         have y4:¬ (kc:Int) - 1=0:=by omega
         have y5:¬ (kc:Int)=1:=by omega
         exact Zj7
       ·have d2:decide ((Tr.ts.n:Int)≤kv)=true:=by simp<;>omega
        have d3:decide (Tr.ts.n≤kv)=true:=by simp<;>omega
        have JS:Hid (Ey ⟨ds.map Dm.Ac,ms⟩ (ps.map Pk.Ac) keys=.error 13):=by show _=_;rw [Yz.Ab];simp only;rw [Ak hz0,Db,show (Tr.Ac).ts[kv]?=none from Jj (by rw [htl.Ab];omega)]
        go_wp2;go_ret2;rw [JS.Ab];exact ⟨rfl,H.to⟩
   ·have Yz:Hid (Ey ⟨ds.map Dm.Ac,ms⟩ (ps.map Pk.Ac) keys=(match keys.drop jj with|[]=>.ok acc|_::_=>.error 2)):=by
     show _=_;rw [HN.Ab,EN (by have:=hl1.Ab;simp;omega),EN (by have:=hl2.Ab;simp;omega),TM]
    by_cases hk0:kn=0
    ·have hnil:keys.drop jj=[]:=LD (by rw [kl.Ab];exact hk0);have JS:Hid (Ey ⟨ds.map Dm.Ac,ms⟩ (ps.map Pk.Ac) keys=.ok acc):=by show _=_;rw [Yz.Ab,hnil]
     have hjl:acc.length=j:=hac.Ab;subst hk0;clear HN Yz;go_wp2;go_ret2;rw [JS.Ab];refine ⟨B,cB,?_,H.to,?_⟩
     ·rw [hjl];(try rfl)
     ·rw [hjl];exact H.M7 2 rfl
    ·have z3:decide ((0:Int)<kn)=true:=by simp<;>omega
     have z4:decide (0<kn)=true:=by simp<;>omega
     have JS:Hid (Ey ⟨ds.map Dm.Ac,ms⟩ (ps.map Pk.Ac) keys=.error 2):=by
      show _=_;rw [Yz.Ab];cases hd:keys.drop jj with
      |nil=>exact absurd (by rw [←kl.Ab,hd];(try rfl)) hk0
      |cons a r=>rfl
     clear HN Yz;go_wp2;go_ret2;rw [JS.Ab];exact ⟨rfl,H.to⟩
 ·have HN:Hid (Ey ⟨ds.map Dm.Ac,ms⟩ (ps.map Pk.Ac) keys=.error (BV ⟨ds.map Dm.Ac,ms⟩ (ps.map Pk.Ac))):=by show _=_;unfold Ey;rw [Al hE]
  have z1:(BV ⟨ds.map Dm.Ac,ms⟩ (ps.map Pk.Ac) !=0)=true:=by simpa using hE
  have z2:(BV ⟨ds.map Dm.Ac,ms⟩ (ps.map Pk.Ac)==0)=false:=by simpa using hE
  clear hE;go_wp2;go_ret2;rw [HN.Ab];exact ⟨rfl,H.to⟩
end Go.Proofs.YtijplolmkcdflaaGreat
namespace Go.Proofs.YtijplolmkcdflaaGreat
open Go.RowKit
structure MC where
 cat:CC
 rows:List CZ
 has:Bool
 closed:Bool
def MC.nil:MC:=⟨CC.nil,[],false,false⟩
def RX (d:DC) (p:PC) (key:Int):Bool:=KQ p (((d.Bi[p.t.toNat]?).bind fun t=>t.ts[(DI d.Bi 0 p.t key).toNat]?).getD [])
def EP:List DC→List PC→List Int→Option (List Int)
 |d::ds,p::ps,k::ks=>if RX d p k=true then (EP ds ps ks).map fun l=>if p.g=true then DI d.Bi 0 p.Mf k::l else l else none
 |_,_,_=>some []
def Di (s:SC) (q:List PC) (l:List CZ):List CZ:=l.filterMap fun f=>(EP s.Dx q f.1).map fun ks=>(ks,f.2)
def Pf (s:SC) (q:List PC) (ks:List Int):List (List UInt8):=match Ey s q ks with|.ok l=>l|.error _=>[]
def Kr (l:List CZ):List CZ:=(Nc (BK l)).getD []
def NV (s:SC) (q:List PC) (l:List CZ):List (List (List UInt8) × Ag):=l.map fun f=>(Pf s q f.1,f.2)
def dK (s:SC) (q:List PC) (l:List CZ):nS:=if 500<l.length then ⟨6,[],[]⟩ else ⟨0,NV s q l,[]⟩
def LH (s:MC) (b:List UInt8):nS:=
 if (Dv s.cat.sc b).2≠0 then ⟨(Dv s.cat.sc b).2,[],[]⟩
 else dK s.cat.sc (Dv s.cat.sc b).1 (Kr (Di s.cat.sc (Dv s.cat.sc b).1 s.rows))
def DF (s:MC) (b:List UInt8):MC × Int:=
 if (De s.cat.sc b).2≠0 then (s,(De s.cat.sc b).2)
 else if (Fx s.cat ((De s.cat.sc b).1.map (·.vs))).2≠0 then (s,(Fx s.cat ((De s.cat.sc b).1.map (·.vs))).2)
 else (⟨(Fx s.cat ((De s.cat.sc b).1.map (·.vs))).1,s.rows++(De s.cat.sc b).1.map (Gp s.cat.sc),s.has,s.closed⟩,0)
def IP (s:MC) (b:List UInt8):MC × Int:=
 if s.has=true then (s,11)
 else if (Ex b).2≠0 then (s,(Ex b).2)
 else (⟨⟨(Ex b).1,0,0,0,0,0,0,0⟩,s.rows,true,s.closed⟩,0)
def Dr (s:MC) (c:Wt):MC × nS:=
 if s.closed=true then (s,⟨17,[],[]⟩)
 else if c.kind<1∨7<c.kind then (s,⟨2,[],[]⟩)
 else if c.kind=1 then ((IP s c.data).1,⟨(IP s c.data).2,[],[]⟩)
 else if (c.kind=4∨c.kind=6∨c.kind=7)∧c.data≠[] then (s,⟨2,[],[]⟩)
 else if c.kind=7 then (⟨s.cat,s.rows,s.has,true⟩,⟨0,[],[]⟩)
 else if s.has=false then (s,⟨10,[],[]⟩)
 else if c.kind=2∨c.kind=3 then ((DF s c.data).1,⟨(DF s c.data).2,[],[]⟩)
 else if c.kind=5 then (s,LH s c.data)
 else if c.kind=6 then (s,⟨0,[],[s.cat.fa,((Kr s.rows).length:Int)]⟩)
 else (s,⟨0,[],[]⟩)
def JW (g:Ag→Int):List CZ→Int
 |[]=>0
 |f::l=>max (g f.2) 0+JW g l
def JY (g:Ag→Int):List CZ→Int
 |[]=>0
 |f::l=>min (g f.2) 0+JY g l
theorem aB (g:Ag→Int) (l m:List CZ):JW g (l++m)=JW g l+JW g m∧JY g (l++m)=JY g l+JY g m:=by
 induction l with
 |nil=>simp [JW,JY]
 |cons f l ih=>rw [KZ,JW,JW,JY,JY,ih.1,ih.2];omega
theorem iI (g:Ag→Int) {l m:List CZ} (h:l.Perm m):JW g l=JW g m∧JY g l=JY g m:=by
 induction h with
 |nil=>exact ⟨rfl,rfl⟩
 |cons x _ ih=>simp only [JW,JY,ih.1,ih.2,and_self]
 |swap x y l=>simp only [JW,JY];omega
 |trans _ _ ih1 ih2=>exact ⟨ih1.1.trans ih2.1,ih1.2.trans ih2.2⟩
theorem YF (g:Ag→Int) (l:List CZ):0≤JW g l∧JY g l≤0:=by
 induction l with
 |nil=>simp [JW,JY]
 |cons f l ih=>rw [JW,JY];omega
theorem vT (g:Ag→Int) (hg:∀ a b,g (eB a b)=g a+g b) (k:List Int) (l:List CZ):∀ a,GD k l=some a→JY g l≤g a∧g a≤JW g l:=by
 induction l with
 |nil=>intro a h;cases h
 |cons f l ih=>
  intro a h;have hn:=YF g l;rw [GD] at h;rw [JW,JY];split at h
  ·cases hs:GD k l with
   |none=>rw [hs] at h;simp only at h;injection h with h;subst h;omega
   |some b=>
    rw [hs] at h;simp only at h;injection h with h;subst h;have:=ih b hs;rw [hg];omega
  ·have:=ih a h;omega
theorem Ac9 (k:List Int) (l:List CZ) (hl:∀ f ∈ l,1≤f.2.c):∀ a,GD k l=some a→1≤a.c:=by
 induction l with
 |nil=>intro a h;cases h
 |cons f l ih=>
  intro a h;have hf:=hl f Gg;have ih':=ih fun x hx=>hl x (Ii _ hx)
  rw [GD] at h;split at h
  ·cases hs:GD k l with
   |none=>rw [hs] at h;simp only at h;injection h with h;subst h;exact hf
   |some b=>
    rw [hs] at h;simp only at h;injection h with h;subst h;have:=ih' b hs;show 1≤f.2.c+b.c;omega
  ·exact ih' a h
def QB (g:Ag→Int) (l:List CZ):Prop:=AZ (JW g l)∧AZ (JY g l)
structure QW (l:List CZ):Prop where
 one:∀ f ∈ l,1≤f.2.c
 c:QB (fun a=>a.c) l
 p:QB (fun a=>a.p.s) l
 q:QB (fun a=>a.q.s) l
 r:QB (fun a=>a.r.s) l
theorem QB.perm {g:Ag→Int} {l m:List CZ} (h:l.Perm m) (hf:QB g m):QB g l:=by unfold QB;rw [(iI g h).1,(iI g h).2];exact hf
theorem QW.perm {l m:List CZ} (h:l.Perm m) (hf:QW m):QW l:=⟨fun f hx=>hf.one f (h.mem_iff.1 hx),hf.c.perm h,hf.p.perm h,hf.q.perm h,hf.r.perm h⟩
theorem QB.left {g:Ag→Int} {l m:List CZ} (hf:QB g (l++m)):QB g l:=by
 obtain ⟨h1,h2⟩:=hf;rw [(aB g l m).1] at h1;rw [(aB g l m).2] at h2;have a:=YF g l;have b:=YF g m;unfold QB AZ at *;omega
theorem QW.left {l m:List CZ} (hf:QW (l++m)):QW l:=⟨fun f hx=>hf.one f (List.mem_append_left _ hx),hf.c.left,hf.p.left,hf.q.left,hf.r.left⟩
theorem QB.sum {g:Ag→Int} (hg:∀ a b,g (eB a b)=g a+g b) {l:List CZ} (hf:QB g l) {k:List Int} {a:Ag} (h:GD k l=some a):AZ (g a):=by
 have:=vT g hg k l a h;have a:=YF g l;unfold QB AZ at *;omega
theorem W9 {a b:Ag} (ha:1≤a.c) (hb:1≤b.c) (hc:AZ (eB a b).c) (hp:AZ (eB a b).p.s) (hq:AZ (eB a b).q.s) (hr:AZ (eB a b).r.s):a.join b=(eB a b,true):=by
 unfold AZ at *;unfold eB Yq at *;simp only at hc hp hq hr;unfold Ag.join;rw [Ak Xl,Ak Xl,LU hc,LU hp,LU hq,LU hr,Al ⟨rfl,rfl,rfl,rfl⟩];unfold Oi.join;rw [LU hp,LU hq,LU hr]
theorem gH {acc:List CZ} {p:CZ} (hr:mX (acc++[p])):GD p.1 (acc++[p])=some p.2:=by
 have hn:GD p.1 acc=none:=gG fun x hx e=>by
  have h:=(Ze.1 hr).2.2 x hx p (Ee.2 rfl);rw [e,Xg] at h;omega
 rw [NM,hn];simp [GD,Q9]
theorem Ai8 (l:List CZ):∀ acc m:List CZ,mX acc→(∀ k,GD k acc=GD k m)→QW (m++l)→Yi l→(∀ p,acc.getLast?=some p→∀ f ∈ l,Er f p=false)→
 ∃ r,EF acc l=some r∧mX r∧∀ k,GD k r=GD k (m++l):=by
 induction l with
 |nil=>
  intro acc m hr hk _ _ _;exact ⟨acc,rfl,hr,fun k=>by rw [EO];exact hk k⟩
 |cons f l ih=>
  intro acc m hr hk hf hs hb;have hsl:Yi l:=oC hs;have hfl:∀ x ∈ l,Er x f=false:=fun x hx=>by
   obtain ⟨j,hj⟩:=MZ.1 hx;exact hs 0 (j+1) f x Xl rfl (by rw [FR];exact hj)
  have em:m++f::l=(m++[f])++l:=by simp
  have hf2:QW ((m++[f])++l):=em ▸ hf;have app:(∀ p,acc.getLast?=some p→Dn p.1 f.1=-1)→∃ r,EF (acc++[f]) l=some r∧mX r∧∀ k,GD k r=GD k (m++f::l):=by
   intro hp;obtain ⟨r,h1,h2,h3⟩:=ih (acc++[f]) (m++[f]) (N9 hr hp) (fun k=>by rw [NM,NM,hk]) hf2 hsl (fun p hp x hx=>by
    rw [List.getLast?_concat] at hp;injection hp with hp;subst hp;exact hfl x hx)
   exact ⟨r,h1,h2,fun k=>by rw [em];exact h3 k⟩
  cases hla:acc.getLast? with
  |none=>
   rw [EF,GN,hla];exact app fun p hp=>by rw [hla] at hp;cases hp
  |some p=>
   have hac:=aW hla;by_cases he:Dn p.1 f.1=0
   ·have hpf:=Qu he;have hs1:GD p.1 (m++[f])=some (eB p.2 f.2):=by
     rw [NM,←hk]
     conv=>lhs;rw [hac]
     rw [gH (by rw [←hac];exact hr)];simp [GD,hpf.symm,Q9]
    have hl1:=hf2.left;have h1p:1≤p.2.c:=by
     have:GD p.1 m=some p.2:=by rw [←hk,hac];exact gH (by rw [←hac];exact hr)
     exact Ac9 _ _ (fun x hx=>hl1.left.one x hx) _ this
    have hj:p.2.join f.2=(eB p.2 f.2,true):=W9 h1p (hl1.one f (List.mem_append_right _ (Ee.2 rfl)))
     (hl1.c.sum (fun _ _=>rfl) hs1) (hl1.p.sum (fun _ _=>rfl) hs1) (hl1.q.sum (fun _ _=>rfl) hs1) (hl1.r.sum (fun _ _=>rfl) hs1)
    rw [EF,GN,hla];simp only;rw [Al he,hj,Al rfl];simp only;obtain ⟨r,h1,h2,h3⟩:=ih (acc.dropLast++[(p.1,eB p.2 f.2)]) (m++[f]) (by
     rw [hac] at hr;unfold mX at hr ⊢;rw [Ze] at hr ⊢;refine ⟨hr.1,List.pairwise_singleton _ _,fun a ha b hb=>?_⟩;rw [Ee] at hb;subst hb;exact hr.2.2 a ha p (Ee.2 rfl)) (fun k=>by
     rw [NM (m:=[f]),←hk k]
     conv=>rhs;rw [hac]
     rw [NM,NM];by_cases hkk:p.1=k
     ·have hk2:f.1=k:=by rw [←hpf];exact hkk
      simp only [GD,hkk,hk2,Gu];cases GD k acc.dropLast<;>simp [Q9,Te]
     ·have hk2:¬ f.1=k:=by rw [←hpf];exact hkk
      simp only [GD,hkk,hk2,if_false];cases GD k acc.dropLast<;>simp [Q9]) hf2 hsl (fun q hq x hx=>by
     rw [List.getLast?_concat] at hq;injection hq with hq;subst hq;have:=hb p hla x (Ii _ hx);exact this)
    exact ⟨r,h1,h2,fun k=>by rw [em];exact h3 k⟩
   ·rw [EF,GN,hla];simp only;rw [Ak he];simp only;refine app fun q hq=>?_;rw [hla] at hq;injection hq with hq;subst hq;have h1:=hb p hla f (Gg ..);have r1:=Ia p.1 f.1;have s1:=Gb p.1 f.1;simp [Er,Fh] at h1;omega
theorem jF {l:List CZ} (hf:QW l):∃ r,Nc (BK l)=some r∧mX r∧∀ k,GD k r=GD k l:=by
 have hp:=vW l;obtain ⟨r,h1,h2,h3⟩:=Ai8 (BK l) [] [] List.Pairwise.nil (fun _=>rfl) (by rw [FC];exact hf.perm hp) (Vp l) (fun p hp=>by cases hp);exact ⟨r,h1,h2,fun k=>by rw [h3,FC,J5 hp]⟩
theorem Oa {l:List CZ} (hf:QW l):Nc (BK l)=some (Kr l):=by
 obtain ⟨r,h1,_⟩:=jF hf;unfold Kr;rw [h1]
 rfl
theorem Ai7 {l r:List CZ} (hf:QW l) (h:Nc (BK l)=some r):∀ f ∈ r,∃ g ∈ l,g.1=f.1:=by
 obtain ⟨r',h1,h2,h3⟩:=jF hf;rw [h] at h1;injection h1 with h1;subst h1;intro f hx;refine kF fun hn=>?_;have h4:GD f.1 l=none:=gG fun g hg e=>hn ⟨g,hg,e⟩
 rw [←h3] at h4;exact J4 hx rfl h4
def OT:List DC→List Int→Prop
 |d::ds,k::ks=>(0≤k∧k<(Et d.Bi 0:Int))∧OT ds ks
 |[],[]=>True
 |_,_=>False
theorem OT.len:∀ {ds:List DC} {ks:List Int},OT ds ks→ks.length=ds.length
 |[],[],_=>rfl
 |d::ds,k::ks,h=>by rw [En,En,h.2.len]
theorem OT.at_:∀ {ds:List DC} {ks:List Int},OT ds ks→∀ {i:Nat} {d k},ds[i]?=some d→ks[i]?=some k→0≤k∧k<(Et d.Bi 0:Int)
 |d::ds,k::ks,h,0,d',k',hd,hk=>by
  injection hd with hd;injection hk with hk;subst hd;subst hk;exact h.1
 |d::ds,k::ks,h,i+1,d',k',hd,hk=>by
  rw [FR] at hd hk;exact h.2.at_ hd hk
 |[],[],_,i,d,k,hd,_=>by simp at hd
theorem ZM:∀ {ds:List DC} {ts:List (List UInt8)} {ks:List Int},ts.length=ds.length→Ec ds ts=.ok ks→OT ds ks
 |[],[],ks,_,h=>by simp only [Ec] at h;injection h with h;subst h;trivial
 |d::ds,t::ts,ks,hl,h=>by
  rw [Ec] at h;cases ht:d.Bi with
  |nil=>rw [ht] at h;cases h
  |cons tr l=>
   rw [ht] at h;simp only at h;cases hp:posOf t tr.ts with
   |none=>rw [hp] at h;cases h
   |some p=>
    rw [hp] at h;simp only at h;cases hr:Ec ds ts with
    |error e=>rw [hr] at h;cases h
    |ok rs=>
     rw [hr] at h;simp only at h;injection h with h;subst h;refine ⟨⟨Xl,?_⟩,ZM Zd1 hr⟩;have:=VF hp;rw [ht];show (p:Int)<((tr.ts.length:Nat):Int);omega
 |[],t::ts,ks,hl,h=>by simp at hl
 |d::ds,[],ks,hl,h=>by simp at hl
theorem Ae5 {s:SC} {r:RC} {ks:List Int} (h:rowOf s r=.ok ks):OT s.Dx ks∧r.vs.length=s.ms.length:=by
 unfold rowOf at h;split at h
 ·cases h
 ·rename_i hn;have h1:r.ts.length=s.Dx.length:=kF fun e=>hn (.inl e)
  have h2:r.vs.length=s.ms.length:=kF fun e=>hn (.inr e)
  exact ⟨ZM h1 h,h2⟩
theorem Aj2 {s:SC} {r:RC} {ks:List Int} (h:rowOf s r=.ok ks):Gp s r=(ks,Ag.of r.vs):=by unfold Gp;rw [h]
structure MInv (s:MC):Prop where
 no:s.has=false→s.cat=CC.nil∧s.rows=[]
 err:s.has=true→Bu s.cat=0
 ok:Vd s.cat
 fa:s.cat.fa=s.rows.length
 len:s.rows.length≤4000
 p0:s.cat.p0=JW (fun a=>a.p.s) s.rows
 q0:s.cat.q0=JY (fun a=>a.p.s) s.rows
 p1:s.cat.p1=JW (fun a=>a.q.s) s.rows
 q1:s.cat.q1=JY (fun a=>a.q.s) s.rows
 p2:s.cat.p2=JW (fun a=>a.r.s) s.rows
 q2:s.cat.q2=JY (fun a=>a.r.s) s.rows
 rows:∀ f ∈ s.rows,f.2.c=1∧OT s.cat.sc.Dx f.1
theorem MInv.nil:MInv MC.nil:=⟨fun _=>⟨rfl,rfl⟩,fun h=>(by cases h),(by unfold Vd MC.nil CC.nil AZ;simp),rfl,by simp [MC.nil],rfl,rfl,rfl,rfl,rfl,rfl,fun f hf=>by cases hf⟩
theorem Af5 {l:List CZ} (h:∀ f ∈ l,f.2.c=1):JW (fun a=>a.c) l=l.length∧JY (fun a=>a.c) l=0:=by
 induction l with
 |nil=>exact ⟨rfl,rfl⟩
 |cons f l ih=>
  have h1:=h f Gg;have h2:=ih fun x hx=>h x (Ii _ hx)
  rw [JW,JY,h2.1,h2.2,h1,En];omega
theorem MInv.fit {s:MC} (h:MInv s):QW s.rows:=by
 obtain ⟨o0,o1,o2,o3,o4,o5⟩:=h.ok;have hc:=Af5 (fun f hf=>(h.rows f hf).1);refine ⟨fun f hf=>by rw [(h.rows f hf).1];exact Oq _,?_,⟨h.p0 ▸ o0,h.q0 ▸ o1⟩,⟨h.p1 ▸ o2,h.q1 ▸ o3⟩,⟨h.p2 ▸ o4,h.q2 ▸ o5⟩⟩;unfold QB;rw [hc.1,hc.2];have:=h.len;unfold AZ;omega
theorem Y3 (g:Ag→Int) (s:SC) (q:List PC) (l:List CZ):0≤JW g (Di s q l)∧JW g (Di s q l)≤JW g l∧JY g (Di s q l)≤0∧JY g l≤JY g (Di s q l):=by
 induction l with
 |nil=>simp [Di,JW,JY]
 |cons f l ih=>
  unfold Di at ih ⊢;rw [List.filterMap_cons];rw [JW,JY];cases hp:(EP s.Dx q f.1).map fun ks=>(ks,f.2) with
  |none=>simp only;omega
  |some y=>
   simp only;have e:y.2=f.2:=by
    cases hk:EP s.Dx q f.1 with
    |none=>rw [hk] at hp;cases hp
    |some ks=>rw [hk] at hp;injection hp with hp;rw [←hp]
   rw [JW,JY,e];omega
theorem bU {s:SC} {q:List PC} {l:List CZ} {g:CZ} (h:g ∈ Di s q l):∃ f ∈ l,EP s.Dx q f.1=some g.1∧g.2=f.2:=by
 unfold Di at h;obtain ⟨f,hf,hg⟩:=List.mem_filterMap.1 h;cases hk:EP s.Dx q f.1 with
 |none=>rw [hk] at hg;cases hg
 |some ks=>rw [hk] at hg;injection hg with hg;subst hg;exact ⟨f,hf,hk,rfl⟩
theorem UC {s:SC} {q:List PC} {l:List CZ} (h:QW l):QW (Di s q l):=by
 have k:∀ g,QB g l→QB g (Di s q l):=fun g hg=>by
  have:=Y3 g s q l;unfold QB AZ at *;omega
 exact ⟨fun f hf=>by obtain ⟨x,hx,_,e⟩:=bU hf;rw [e];exact h.one x hx,k _ h.c,k _ h.p,k _ h.q,k _ h.r⟩
theorem XM:∀ {ds:List DC} {ps:List PC} {ks l:List Int},(∀ d ∈ ds,Iu d.Bi)→ps.length=ds.length→Dq ds ps=0→OT ds ks→EP ds ps ks=some l→∀ acc,∃ ts,CJ ds ps l acc=.ok ts
 |[],[],[],l,_,_,_,_,h,acc=>by
  rw [EP] at h
  ·injection h with h;subst h;exact ⟨acc,rfl⟩
  ·intros;contradiction
 |d::ds,p::ps,k::ks,l,hok,hl,hp,hk,h,acc=>by
  have hp1:DL d p=0:=by
   rw [Dq] at hp;split at hp;· (rename_i h1;exact absurd hp h1)
   ·rename_i h1;exact jY.1 h1
  have hp2:Dq ds ps=0:=by rw [Dq,Ak (by simp [hp1])] at hp;exact hp
  rw [EP] at h;split at h
  ·cases hr:EP ds ps ks with
   |none=>rw [hr] at h;cases h
   |some m=>
    rw [hr] at h;simp only [Option.map_some] at h;injection h with h;subst h;have ih:=XM (fun x hx=>hok x (Ii _ hx)) Zd1 hp2 hk.2 hr;have hb:=(IK hp1).b;cases hg:p.g with
    |false=>
     rw [CJ];rw [Ak (by simp [hg]),Ak (by simp [hg])];exact ih acc
    |true=>
     rcases hb with ⟨_,b0,b1⟩|⟨hx,_⟩
     ·have hA:=hok d Gg;obtain ⟨⟨k0,k1⟩,_⟩:=hk;obtain ⟨n,rfl⟩:∃ n:Nat,k=n:=⟨k.toNat,Xl⟩;obtain ⟨b,hbb⟩:∃ n:Nat,p.Mf=n:=⟨p.Mf.toNat,Xl⟩;have hlt:b<d.Bi.length:=by omega
      have hlw:=OH hA (f:=0) (t:=b) (i:=n) Xl hlt Xl;rw [CJ];rw [Al (by simp [hg]),Al (by simp [hg]),hbb];have e1:d.Bi[((b:Nat):Int).toNat]?=some d.Bi[b]:=by rw [Db];exact Fp hlt
      rw [e1];simp only;have e2:Et d.Bi b=d.Bi[b].ts.length:=by unfold Et;rw [Fp hlt]
      rw [e2] at hlw;have hlw0:=hlw.2.1;have hlw1:=hlw.2.2;simp only [Int.natCast_zero] at hlw0 hlw1;rw [Ak (show ¬ DI d.Bi 0 (b:Int) (n:Int)<0 by omega)];have hz:(DI d.Bi 0 (b:Int) (n:Int)).toNat<d.Bi[b].ts.length:=by omega
      rw [Fp hz];exact ih _
     ·rw [hg] at hx;cases hx
  ·cases h
 |[],[],_::_,_,_,_,_,hk,_,_=>hk.elim
 |[],_::_,_,_,_,hl,_,_,_,_=>by simp at hl
 |_::_,[],_,_,_,hl,_,_,_,_=>by simp at hl
 |_::_,_::_,[],_,_,_,_,hk,_,_=>hk.elim
theorem lL {s:SC} {q:List PC} {ks l:List Int} (hE:BV s q=0) (hk:OT s.Dx ks) (h:EP s.Dx q ks=some l):Ey s q l=.ok (Pf s q l):=by
 obtain ⟨h1,h2,h3⟩:=EB hE;have hA:∀ d ∈ s.Dx,Iu d.Bi:=fun d hd=>Gq (ER ((BH h1).2.2.1 d hd)).2.2.2
 obtain ⟨ts,ht⟩:=XM hA h2 h3 hk h [];have:Ey s q l=.ok ts:=by unfold Ey;rw [Ak Zb9];exact ht
 unfold Pf;rw [this]
theorem VQ {s:MC} (hi:MInv s) {q:List PC} (hE:BV s.cat.sc q=0):∀ f ∈ Kr (Di s.cat.sc q s.rows),Ey s.cat.sc q f.1=.ok (Pf s.cat.sc q f.1):=fun f hf=>by
 have hfit:=UC (s:=s.cat.sc) (q:=q) hi.fit;obtain ⟨g,hg,e⟩:=Ai7 hfit (Oa hfit) f hf;obtain ⟨x,hx,hp,_⟩:=bU hg;rw [←e];exact lL hE (hi.rows x hx).2 hp
theorem Qy {s:SC} {b:List UInt8} (h:(De s b).2=0):CR s (De s b).1=0:=by
 unfold De at h ⊢;split at h
 ·rename_i h1;exact absurd h h1
 ·rename_i h1;rw [Ak h1];cases hp:Qi s.Dx.length s.ms.length b with
  |error k=>rw [hp] at h;exact absurd h (pX hp)
  |ok o=>
   obtain ⟨rows,r⟩:=o;rw [hp] at h;simp only at h ⊢;split at h
   ·rename_i h2;rw [Al h2];split at h
    ·rename_i h3;rw [Al h3];exact h3
    ·rename_i h3;exact absurd h h3
   ·cases h
theorem aK (vs:List Int) (i:Nat):(OD vs i).s=vs.getD i 0:=by
 unfold OD;rw [YS];cases vs[i]?<;>rfl
theorem Ab4 (s:SC) (l:List RC):∀ c:CC,(Dl c (l.map (·.vs))).p0=c.p0+JW (fun a=>a.p.s) (l.map (Gp s))∧(Dl c (l.map (·.vs))).q0=c.q0+JY (fun a=>a.p.s) (l.map (Gp s))
 ∧(Dl c (l.map (·.vs))).p1=c.p1+JW (fun a=>a.q.s) (l.map (Gp s))∧(Dl c (l.map (·.vs))).q1=c.q1+JY (fun a=>a.q.s) (l.map (Gp s))
 ∧(Dl c (l.map (·.vs))).p2=c.p2+JW (fun a=>a.r.s) (l.map (Gp s))∧(Dl c (l.map (·.vs))).q2=c.q2+JY (fun a=>a.r.s) (l.map (Gp s)):=by
 induction l with
 |nil=>intro c;simp [Dl,JW,JY]
 |cons r l ih=>
  intro c;have e:Dl c ((r::l).map (·.vs))=Dl (JL c r.vs) (l.map (·.vs)):=rfl;have h:=ih (JL c r.vs);rw [e,Em];obtain ⟨a0,a1,a2,a3,a4,a5⟩:=h;rw [a0,a1,a2,a3,a4,a5];simp only [JW,JY];have f0:(Gp s r).2.p.s=r.vs.getD 0 0:=aK _ _;have f1:(Gp s r).2.q.s=r.vs.getD 1 0:=aK _ _;have f2:(Gp s r).2.r.s=r.vs.getD 2 0:=aK _ _;rw [f0,f1,f2];unfold JL Yu;simp only;omega
theorem MInv.load {s:MC} (h:MInv s) (hh:s.has=true) (b:List UInt8):MInv (DF s b).1:=by
 unfold DF;split
 ·exact h
 ·rename_i h1;split
  ·exact h
  ·rename_i h2;simp only;have hB:=Qy (jY.1 h1);obtain ⟨b1,b2,b3⟩:=IE hB;generalize (De s.cat.sc b).1=R at *;have hE:=h.err hh;obtain ⟨v1,v2⟩:=Yb hE h.ok (R.map (·.vs));have hg:sF s.cat (R.map (·.vs)):=kF fun hn=>h2 (v2 hn)
   rw [v1 hg];simp only;obtain ⟨a0,a1,a2,a3,a4,a5⟩:=Ab4 s.cat.sc R s.cat;have ap:=fun g=>aB g s.rows (R.map (Gp s.cat.sc))
   refine ⟨fun h=>?_,fun _=>Aj0 hE hg,?_,?_,?_,?_,?_,?_,?_,?_,?_,?_⟩
   ·rw [hh] at h;cases h
   ·exact hg.2.2
   ·show s.cat.fa+((R.map (·.vs)).length:Int)=_;rw [h.fa,Cn,CQ,CQ];omega
   ·have:=hg.1;rw [h.fa] at this;rw [Cn,CQ];rw [CQ] at this;omega
   ·show (Dl _ _).p0=_;rw [a0,(ap _).1,h.p0]
   ·show (Dl _ _).q0=_;rw [a1,(ap _).2,h.q0]
   ·show (Dl _ _).p1=_;rw [a2,(ap _).1,h.p1]
   ·show (Dl _ _).q1=_;rw [a3,(ap _).2,h.q1]
   ·show (Dl _ _).p2=_;rw [a4,(ap _).1,h.p2]
   ·show (Dl _ _).q2=_;rw [a5,(ap _).2,h.q2]
   ·intro f hf;rcases Eb.1 hf with hf|hf
    ·exact h.rows f hf
    ·obtain ⟨r,hr,rfl⟩:=Kc.1 hf;obtain ⟨ks,hk⟩:=b3 r hr;rw [Aj2 hk];exact ⟨rfl,(Ae5 hk).1⟩
theorem Vs {b:List UInt8} (h:(Ex b).2=0):Ay (Ex b).1=0:=by
 unfold Ex at h ⊢;cases hp:GU b with
 |error k=>rw [hp] at h;exact absurd h (ZY hp)
 |ok o=>
  obtain ⟨t,l⟩:=o;rw [hp] at h;simp only at h ⊢;split at h
  ·rename_i h1;rw [Al h1];exact (iF hp).1
  ·cases h
theorem MInv.crea {s:MC} (h:MInv s) (b:List UInt8):MInv (IP s b).1:=by
 unfold IP;split
 ·exact h
 ·rename_i h1;split
  ·exact h
  ·rename_i h2;have h0:s.has=false:=by simpa using h1
   obtain ⟨e1,e2⟩:=h.no h0;have hz:=Vs (jY.1 h2);refine ⟨fun h=>(by cases h),fun _=>?_,by unfold Vd AZ;simp,?_,?_,?_,?_,?_,?_,?_,?_,?_⟩<;>simp only [e2]
   ·exact Lp.2 ⟨hz,Oq _,by show (0:Int)≤4000;omega,NH (Oq _) (Oq _) (fun _=>⟨rfl,rfl⟩),NH (Oq _) (Oq _) (fun _=>⟨rfl,rfl⟩),NH (Oq _) (Oq _) (fun _=>⟨rfl,rfl⟩)⟩
   ·rfl
   ·simp
   ·rfl
   ·rfl
   ·rfl
   ·rfl
   ·rfl
   ·rfl
   ·intro f hf;cases hf
theorem MInv.step {s:MC} (h:MInv s) (c:Wt):MInv (Dr s c).1:=by
 unfold Dr;split
 ·exact h
 split
 ·exact h
 split
 ·exact h.crea _
 split
 ·exact h
 split
 ·exact ⟨h.no,h.err,h.ok,h.fa,h.len,h.p0,h.q0,h.p1,h.q1,h.p2,h.q2,h.rows⟩
 split
 ·exact h
 rename_i hn;split
 ·exact h.load (by simpa using hn) _
 split
 ·exact h
 split
 ·exact h
 ·exact h
theorem sI {α:Type} [AY α] (l:List α) (k:Nat) (f:α) (hk:k<l.length) (j:Nat):
 ((l.set k f).flatMap AY.cells)[j]?=if k * AY.size α≤j∧j<k * AY.size α+AY.size α then (AY.cells f)[j - k * AY.size α]? else (l.flatMap AY.cells)[j]?:=by
 have hp:0<AY.size α:=AY.pos;by_cases hj:j<l.length * AY.size α
 ·have hi:j / AY.size α<l.length:=Nat.div_lt_of_lt_mul (by rw [Rj];exact hj);have hjm:j / AY.size α * AY.size α+j % AY.size α=j:=by rw [Rj];exact Nat.div_add_mod j _
  have hr:=Nat.mod_lt j hp;by_cases e:k=j / AY.size α
  ·have hg:(l.set k f)[j / AY.size α]?=some f:=by rw [←e];exact NK hk
   have h1:=NG (l.set k f) _ _ _ hg hr;rw [hjm] at h1;rw [h1,Al (by rw [e];omega)]
   congr 1
   rw [e];omega
  ·have hg:(l.set k f)[j / AY.size α]?=some (l[j / AY.size α]'hi):=by rw [Ou e,Fp hi]
   have h1:=NG (l.set k f) _ _ _ hg hr;have h2:=NG l _ _ _ (Fp hi) hr;rw [hjm] at h1 h2;rw [h1,h2,Ak];intro ⟨h3,h4⟩;apply e;have h5:k * AY.size α+AY.size α=(k+1) * AY.size α:=by rw [Ka,MP]
   rw [h5] at h4;exact (Nat.div_eq_of_lt_le h3 h4).symm
 ·have h5:k * AY.size α+AY.size α=(k+1) * AY.size α:=by rw [Ka,MP]
  have h6:(k+1) * AY.size α≤l.length * AY.size α:=QF _ hk;rw [Jj (by rw [Fu,Rn];omega),Jj (l:=l.flatMap AY.cells) (by rw [Fu];omega),Ak Xl]
section
variable {α : Type} [AY α] {w : World} {base : Nat} {e : TypeId} {g n c : Nat} {l : List α}
theorem Gy (h:w.ownsRow base e (AY.size α) (.slice (some ⟨g,0,none⟩) n c) n (l.flatMap AY.cells)) {k:Nat} {a:α} (ha:l[k]?=some a):w.rangeAt g (k * AY.size α) (AY.cells a)∧g<w.heap.size:=by
 have hr:=Rd.BC h;have hl:=Il hr;have hk:k<n:=by have:=(CB.1 ha).1;omega
 obtain ⟨b,o,a',e1,hb,ha',hc⟩:=iB hr hk;injection e1 with e1;injection e1 with e1 e2;subst e1 e2;rw [ha] at ha';injection ha' with ha';subst ha';exact ⟨fun j u hu=>by have:=hc j u hu;rwa [FI] at this,hb⟩
theorem Uu (h:w.ownsRow base e (AY.size α) (.slice (some ⟨g,0,none⟩) n c) n (l.flatMap AY.cells)) {k:Nat} (hk:k<n) (f:α):
 (w.setCells g (k * AY.size α) (AY.cells f)).ownsRow base e (AY.size α) (.slice (some ⟨g,0,none⟩) n c) n ((l.set k f).flatMap AY.cells):=by
 have hl:=Il (Rd.BC h);refine ⟨by rw [Fu,Rn,hl],?_⟩;rcases h.2 with ⟨h0,_⟩|⟨g',cap,cur,hv,hb,hh,hn,hm,hs,ht⟩
 ·cases h0
 ·injection hv with h1 h2 h3;injection h1 with h1;injection h1 with h1;subst h1 h3;refine .inr ⟨g,c,Ea cur (k * AY.size α) (AY.cells f),rfl,hb,Bh.Ea (AY.cells f) (k * AY.size α) hh,hn,hm,by rw [Ow];exact hs,?_⟩;apply YZ;intro j;rw [sI l k f Xl j];have hns:n * AY.size α≤cur.size:=by rw [hs];exact QF _ hn
  by_cases hj:j<n * AY.size α
  ·rw [Jk hj,Zg,Qe _ _ _ _ Xl,AY.len];have h4:(l.flatMap AY.cells)[j]?=cur[j]?:=by rw [←ht,Jk hj,Zg]
   rw [h4]
  ·rw [Jj Zb7];have h5:k * AY.size α+AY.size α=(k+1) * AY.size α:=by rw [Ka,MP]
   have h6:(k+1) * AY.size α≤n * AY.size α:=QF _ hk;rw [Ak Xl,Jj (by rw [Fu,hl];omega)]
theorem SF (h:w.ownsRow base e (AY.size α) (.slice (some ⟨g,0,none⟩) n c) n (l.flatMap AY.cells)) {k:Nat} (hk:k<n):w.there g (k * AY.size α) (AY.size α):=by
 rcases h.2 with ⟨h0,_⟩|⟨g',cap,cur,hv,hb,hh,hn,hm,hs,ht⟩
 ·cases h0
 ·injection hv with h1 h2 h3;injection h1 with h1;injection h1 with h1;subst h1 h3;have hb2:Bh w g e cur:=hh;intro j hj;have h5:k * AY.size α+AY.size α=(k+1) * AY.size α:=by rw [Ka,MP]
  have h6:(k+1) * AY.size α≤c * AY.size α:=QF _ Xl;rw [hb2.cell,hb2.frozen,Zh (by rw [hs];omega)];exact ⟨rfl,rfl⟩
theorem JA {P:Program} {ops:Array Oper} {rest:List Oper} {op:Oper} {a:Act} {Q:Exit→Act→World→Prop} (hgd:op.guard=none) {ty:TypeId} {size:Nat} (R:Ep P ty size) (x y:Operand) (ho:op.op=.store ty x y) (hsz:size=AY.size α)
 (k:Nat) (hx:a.eval x=.pointer (some ⟨g,k * AY.size α,none⟩)) (h:w.ownsRow base e (AY.size α) (.slice (some ⟨g,0,none⟩) n c) n (l.flatMap AY.cells)) (hk:k<n) (f:α) (cs:Array Value) (hcs:cs.toList=AY.cells f) (hy:a.eval y=.agg cs) (h1:cs.all (·.oneCell')=true)
 (hn:∀ w',w'.ownsRow base e (AY.size α) (.slice (some ⟨g,0,none⟩) n c) n ((l.set k f).flatMap AY.cells)→w.grownBy w' (some g)→wpList P ops Q rest (a.put op.dst undef) w'):wpList P ops Q (op::rest) a w:=by
 have hss:cs.size=AY.size α:=by have:=CW List.length hcs;rw [Array.length_toList,AY.len] at this;exact this
 refine YY hgd ty x y ho g (k * AY.size α) cs hx hy (by rw [hss];exact SF h hk) (by rw [R.hi,hss,hsz]) h1 ?_;rw [hcs];exact hn _ (Uu h hk f) (Dy w g _ _)
end
end Go.Proofs.YtijplolmkcdflaaGreat
