/- What follows was written short by a program: the walks that lead to YtijplolmkcdflaaGreatModelOrder. -/
import Derived.Test.YtijplolmkcdflaaGreatT2
set_option maxHeartbeats 8000000
set_option maxRecDepth 100000
set_option linter.unusedVariables false
set_option linter.unusedSimpArgs false
namespace Go.Proofs.YtijplolmkcdflaaGreat
open Tryz
open Go.RowKit
theorem Zb (D:Pk):∀ u ∈ ([.int .i64 D.f,.int .i64 D.t,.string ⟨D.lo.toArray⟩,.string ⟨D.hi.toArray⟩,.slice D.set.A D.set.n D.set.c,.bool D.g,.int .i64 D.MN]:List Value),u.oneCell'=true:=by simp [Value.oneCell']
def Rask (w0:World) (s:List UInt8) (B g z y:Nat) (d:Ev) (o:PR (List PC)) (k:Int) (w':World):Prop:=
 k=Zx o∧∃ (X:Row Pk) (q:List UInt8),SL No w0 w' (IZ B s q [Av g 29 #[.slice X.A X.n X.c],Cb 80 7 (.slice X.A X.n X.c) X.n (X.l.flatMap Ar.cells),BK Oi X.l,Av z 25 d.cs,Av y 29 #[.slice none 0 0]])∧X.n≤16∧∀ rows r,o=.ok (rows,r)→X.l.map Pk.Ac=rows
theorem ZK (w0:World) (B g z y:Nat) (s:List UInt8) (d:Ev) (w:World) (hn:d.dm.n≤16) (h:SL No w0 w (IZ B s s [Av g 29 #[.slice none 0 0],Cb 80 7 (.slice none 0 0) 0 (([]:List Pk).flatMap Ar.cells),BK Oi ([]:List Pk),Av z 25 d.cs,Av y 29 #[.slice none 0 0]])):
 Calls prog 101 #[.pointer (some ⟨B+1,0,none⟩),.pointer (some ⟨z,0,none⟩),.pointer (some ⟨g,0,none⟩)] w (LH B s (Rask w0 s B g z y d (JZ d.dm.n s))):=by
 have H:Hid (SL No w0 w [MW (B+1) s s,Av B 45 #[.int .i64 0],Av (B+2) 166 #[.pointer (some ⟨B+1,0,none⟩)],Av g 29 #[.slice none 0 0],Cb 80 7 (.slice none 0 0) 0 (([]:List Pk).flatMap Ar.cells),BK Oi ([]:List Pk),Av z 25 d.cs,Av y 29 #[.slice none 0 0]]):=h
 clear h
 obtain ⟨⟨DA,n,cn,ds⟩,⟨MB,m,cm,ms⟩⟩:=d
 simp only [Ev.cs] at *
 go_enter func101,ntmps101
 have Ga:=(H.blk 6 rfl).Am 0
 go_wp2_with fail
 clear Ga
 have HP:Hid (AX Dj n [] s=AX Dj (n - 0) (([]:List Pk).map Pk.Ac) s):=rfl
 go_loopg [7] n (fun gg s6 wr=>∃ (k:Nat) (rows:List Pk) (A:Option Addr) (c:Nat) (l':List UInt8),gg=n - k∧k≤n∧s6=.int .i64 k∧Hid (rows.length=k)∧Hid (SL No w0 wr [MW (B+1) s l',Av B 45 #[.int .i64 0],Av (B+2) 166 #[.pointer (some ⟨B+1,0,none⟩)],Av g 29 #[.slice A k c],Cb 80 7 (.slice A k c) k (rows.flatMap Ar.cells),BK Oi rows,Av z 25 #[.slice DA n cn,.slice MB m cm],Av y 29 #[.slice none 0 0]])∧Hid (AX Dj n [] s=AX Dj (n - k) (rows.map Pk.Ac) l'))
 case atStart=>exact ⟨0,[],none,0,s,rfl,by omega,rfl,rfl,H,HP⟩
 case round=>
  clear H HP
  obtain ⟨k,rows,A,c,l',BG,hk,rfl,hac,H,HP⟩:=hrel
  have Cg:=Aa BG
  have hk16:k≤16:=by omega
  clear BG
  by_cases hlt:k<n
  ·have HN:=Aa (HP.trans (Ir hlt))
   have HA:=Aa (fun w (hr:Gb w (B+1) s l')=>jZ (B+1) s l' w hr)
   clear HP
   go_upto_region 2 with fail
   cases hx:Dj l' with
   |error e1=>
    rw [hx] at HA HN
    clear hx
    refine EG (S:=fun _=>True) (by kernel_rfl) trivial fun hHeld=>?_
    replace H:=Aa (H.drew)
    refine BJ NG ?_
    refine BJ NW ?_
    refine NV KG KF (fun KK Ad=>?_) fun KK Ad=>?_
    ·have c1:=(H.blk 3 rfl).Am 0
     go_simp
     clear c1
     refine Ai Ad trivial fun hHeld=>?_
     clear Ad KK
     refine BD KF fun KK Ad=>?_
     go_simp
     refine (HA _ (H.EN 0 rfl)).mono ?_;rintro e' w3 ⟨rfl,hg3,l3,hr3⟩
     replace H:=Aa (H.BP 0 rfl hg3 hr3);(try simp only [LS] at H)
     refine ⟨rfl,?_⟩
     have H9:SL No w0 _ (IZ B s l3 [Av g 29 #[.slice A k c],Cb 80 7 (.slice A k c) k (rows.flatMap Ar.cells),BK Oi rows,Av z 25 #[.slice DA n cn,.slice MB m cm],Av y 29 #[.slice none 0 0]]):=H.Ab
     exact SL.err H9 ⟨by rw [show JZ n s=.error e1 from HN.Ab];(try rfl),⟨A,k,c,rows⟩,l3,H9,by show k≤16;omega,fun _ _ h=>by rw [show JZ n s=.error e1 from HN.Ab] at h;cases h⟩
    ·go_simp
     refine (HA _ (H.EN 0 rfl)).mono ?_;rintro e' w3 ⟨rfl,hg3,l3,hr3⟩
     replace H:=Aa (H.BP 0 rfl hg3 hr3);(try simp only [LS] at H)
     refine ⟨rfl,?_⟩
     have H9:SL No w0 _ (IZ B s l3 [Av g 29 #[.slice A k c],Cb 80 7 (.slice A k c) k (rows.flatMap Ar.cells),BK Oi rows,Av z 25 #[.slice DA n cn,.slice MB m cm],Av y 29 #[.slice none 0 0]]):=H.Ab
     exact SL.err H9 ⟨by rw [show JZ n s=.error e1 from HN.Ab];(try rfl),⟨A,k,c,rows⟩,l3,H9,by show k≤16;omega,fun _ _ h=>by rw [show JZ n s=.error e1 from HN.Ab] at h;cases h⟩
   |ok q=>
    obtain ⟨rc,l3⟩:=q
    rw [hx] at HA HN
    have HN:Hid (AX Dj n [] s=AX Dj (n - (k+1)) (rows.map Pk.Ac++[rc]) l3):=HN.Ab
    clear hx
    refine EG (S:=fun _=>True) (by kernel_rfl) trivial fun hHeld=>?_
    replace H:=Aa (H.drew)
    refine BJ NG ?_
    refine BJ NW ?_
    refine NV KG KF (fun KK Ad=>?_) fun KK Ad=>?_
    ·have c1:=(H.blk 3 rfl).Am 0
     go_simp
     clear c1
     refine Ai Ad trivial fun hHeld=>?_
     clear Ad KK
     refine BD KF fun KK Ad=>?_
     go_simp
     refine (HA _ (H.EN 0 rfl)).mono ?_;rintro e' w3 ⟨D,rfl,Gg,hg3,hr3,hnew⟩
     replace H:=Aa (H.Gc 0 rfl hg3 hr3 (Oi D) hnew.1 hnew.2);(try simp only [LS] at H)
     have NY:=Aa Gg
     clear hg3 hr3 hnew Gg
     refine Ai Ad trivial fun hHeld=>?_
     clear Ad KK
     refine BD Mr fun KK Ad=>?_
     refine Bc rfl wL (.tmp 12) rfl (D.cs) rfl rfl (by omega) ?_
     replace H:=Aa (H.CJ ((Aj.refl _).alloc _) (Dc _ 80 (D.cs) _ rfl));(try simp only [LS] at H)
     refine Ai Ad trivial fun hHeld=>?_
     clear Ad KK
     refine BD Lv fun KK Ad=>?_
     refine Aw rfl (.tmp 10) (.tmp 13) _ rfl wL 0 (Bw _) _ k _ rfl (H.row 4 rfl) _ 1 1 _ rfl (Rd.Bf (H.row 9 rfl)) (Zb D) (by unfold maxLen;omega) (by omega) ?_
     intro vq wq AR Ay Bb
     replace H:=Aa (H.setRow 4 rfl Ay AR Bb);(try simp only [LS] at H)
     clear AR Ay Bb
     obtain ⟨A2,c2,rfl,_⟩:=Ao (H.row 4 rfl)
     refine Ai Ad trivial fun hHeld=>?_
     clear Ad KK
     refine BD Mq fun KK Ad=>?_
     go_simp
     refine Ai Ad trivial fun hHeld=>?_
     clear Ad KK
     refine BD LX fun KK Ad=>?_
     have c1:=(H.blk 3 rfl).Am 0;have f1:=(H.blk 3 rfl).frozen 0
     go_simp
     replace H:=Aa (H.setCell 3 rfl 0 (.slice A2 (k+1) c2));(try simp only [LS] at H)
     clear c1 f1
     refine Ai Ad trivial fun hHeld=>?_
     clear Ad KK
     refine BX ?_
     clear hHeld
     replace H:=Aa (H.both 5 8 (by omega) rfl rfl (BK Oi (rows++[D])) (Bq (H.get 5 rfl) (H.get 8 rfl)) Co);(try simp only [LS] at H)
     replace H:=Aa (H.Gh [0,1,2,3,4,5,6,7] (by decide) (by simp));(try simp only [LS] at H)
     have Il:Hid (AX Dj n [] s=AX Dj (n - (k+1)) ((rows++[D]).map Pk.Ac) l3):=by show _=_;rw [HN.Ab,BR,DI,EF,NY.Ab]
     go_wp2_with fail
     go_roundg (n - (k+1))
     case rel=>exact ⟨k+1,rows++[D],A2,c2,l3,rfl,by omega,by go_num,by show _=_;rw [BQ,hac.Ab];(try rfl),by rw [FD,CY,IM,EZ];exact H,Il⟩
     case measure=>rw [Cg.Ab];omega
    ·go_simp
     refine (HA _ (H.EN 0 rfl)).mono ?_;rintro e' w3 ⟨D,rfl,Gg,hg3,hr3,hnew⟩
     replace H:=Aa (H.Gc 0 rfl hg3 hr3 (Oi D) hnew.1 hnew.2);(try simp only [LS] at H)
     have NY:=Aa Gg
     clear hg3 hr3 hnew Gg
     refine Ai Ad trivial fun hHeld=>?_
     clear Ad KK
     refine NV KG Mr (fun KK Ad=>?_) fun KK Ad=>?_
     ·have c1:=(H.blk 3 rfl).Am 0
      go_simp
      clear c1
      refine Ai Ad trivial fun hHeld=>?_
      clear Ad KK
      refine BD Mr fun KK Ad=>?_
      refine Bc rfl wL (.tmp 12) rfl (D.cs) rfl rfl (by omega) ?_
      replace H:=Aa (H.CJ ((Aj.refl _).alloc _) (Dc _ 80 (D.cs) _ rfl));(try simp only [LS] at H)
      refine Ai Ad trivial fun hHeld=>?_
      clear Ad KK
      refine BD Lv fun KK Ad=>?_
      refine Aw rfl (.tmp 10) (.tmp 13) _ rfl wL 0 (Bw _) _ k _ rfl (H.row 4 rfl) _ 1 1 _ rfl (Rd.Bf (H.row 9 rfl)) (Zb D) (by unfold maxLen;omega) (by omega) ?_
      intro vq wq AR Ay Bb
      replace H:=Aa (H.setRow 4 rfl Ay AR Bb);(try simp only [LS] at H)
      clear AR Ay Bb
      obtain ⟨A2,c2,rfl,_⟩:=Ao (H.row 4 rfl)
      refine Ai Ad trivial fun hHeld=>?_
      clear Ad KK
      refine BD Mq fun KK Ad=>?_
      go_simp
      refine Ai Ad trivial fun hHeld=>?_
      clear Ad KK
      refine BD LX fun KK Ad=>?_
      have c1:=(H.blk 3 rfl).Am 0;have f1:=(H.blk 3 rfl).frozen 0
      go_simp
      replace H:=Aa (H.setCell 3 rfl 0 (.slice A2 (k+1) c2));(try simp only [LS] at H)
      clear c1 f1
      refine Ai Ad trivial fun hHeld=>?_
      clear Ad KK
      refine BX ?_
      clear hHeld
      replace H:=Aa (H.both 5 8 (by omega) rfl rfl (BK Oi (rows++[D])) (Bq (H.get 5 rfl) (H.get 8 rfl)) Co);(try simp only [LS] at H)
      replace H:=Aa (H.Gh [0,1,2,3,4,5,6,7] (by decide) (by simp));(try simp only [LS] at H)
      have Il:Hid (AX Dj n [] s=AX Dj (n - (k+1)) ((rows++[D]).map Pk.Ac) l3):=by show _=_;rw [HN.Ab,BR,DI,EF,NY.Ab]
      go_wp2_with fail
      go_roundg (n - (k+1))
      case rel=>exact ⟨k+1,rows++[D],A2,c2,l3,rfl,by omega,by go_num,by show _=_;rw [BQ,hac.Ab];(try rfl),by rw [FD,CY,IM,EZ];exact H,Il⟩
      case measure=>rw [Cg.Ab];omega
     ·refine Bc rfl wL (.tmp 12) rfl (D.cs) rfl rfl (by omega) ?_
      replace H:=Aa (H.CJ ((Aj.refl _).alloc _) (Dc _ 80 (D.cs) _ rfl));(try simp only [LS] at H)
      refine Ai Ad trivial fun hHeld=>?_
      clear Ad KK
      refine BD KG fun KK Ad=>?_
      have c1:=(H.blk 3 rfl).Am 0
      go_simp
      clear c1
      refine Ai Ad trivial fun hHeld=>?_
      clear Ad KK
      refine BD Lv fun KK Ad=>?_
      refine Aw rfl (.tmp 10) (.tmp 13) _ rfl wL 0 (Bw _) _ k _ rfl (H.row 4 rfl) _ 1 1 _ rfl (Rd.Bf (H.row 9 rfl)) (Zb D) (by unfold maxLen;omega) (by omega) ?_
      intro vq wq AR Ay Bb
      replace H:=Aa (H.setRow 4 rfl Ay AR Bb);(try simp only [LS] at H)
      clear AR Ay Bb
      obtain ⟨A2,c2,rfl,_⟩:=Ao (H.row 4 rfl)
      refine Ai Ad trivial fun hHeld=>?_
      clear Ad KK
      refine BD Mq fun KK Ad=>?_
      go_simp
      refine Ai Ad trivial fun hHeld=>?_
      clear Ad KK
      refine BD LX fun KK Ad=>?_
      have c1:=(H.blk 3 rfl).Am 0;have f1:=(H.blk 3 rfl).frozen 0
      go_simp
      replace H:=Aa (H.setCell 3 rfl 0 (.slice A2 (k+1) c2));(try simp only [LS] at H)
      clear c1 f1
      refine Ai Ad trivial fun hHeld=>?_
      clear Ad KK
      refine BX ?_
      clear hHeld
      replace H:=Aa (H.both 5 8 (by omega) rfl rfl (BK Oi (rows++[D])) (Bq (H.get 5 rfl) (H.get 8 rfl)) Co);(try simp only [LS] at H)
      replace H:=Aa (H.Gh [0,1,2,3,4,5,6,7] (by decide) (by simp));(try simp only [LS] at H)
      have Il:Hid (AX Dj n [] s=AX Dj (n - (k+1)) ((rows++[D]).map Pk.Ac) l3):=by show _=_;rw [HN.Ab,BR,DI,EF,NY.Ab]
      go_wp2_with fail
      go_roundg (n - (k+1))
      case rel=>exact ⟨k+1,rows++[D],A2,c2,l3,rfl,by omega,by go_num,by show _=_;rw [BQ,hac.Ab];(try rfl),by rw [FD,CY,IM,EZ];exact H,Il⟩
      case measure=>rw [Cg.Ab];omega
  ·have HN:Hid (JZ n s=.ok (rows.map Pk.Ac,l')):=by show _=_;unfold JZ;rw [HP.Ab,show n - k=0 by omega];(try rfl)
   clear HP
   go_wp2_with fail
   go_end0
   have H9:SL No w0 _ (IZ B s l' [Av g 29 #[.slice A k c],Cb 80 7 (.slice A k c) k (rows.flatMap Ar.cells),BK Oi rows,Av z 25 #[.slice DA n cn,.slice MB m cm],Av y 29 #[.slice none 0 0]]):=H.Ab
   exact SL.ok H9 ⟨by rw [HN.Ab];(try rfl),⟨A,k,c,rows⟩,l',H9,by show k≤16;omega,fun rs r h=>by rw [HN.Ab] at h;injection h with h;injection h with h _⟩
abbrev jT (X:Row Pk):EE:=⟨fun g=>(Cb 80 7 (.slice X.A X.n X.c) X.n (X.l.flatMap Ar.cells)).D g∨(BK Oi X.l).D g,fun w=>X.rd w∧X.n≤16∧∀ p ∈ X.l,p.set.n≤200⟩
theorem Yj {X:Row Pk} {w:World} (h1:(Cb 80 7 (.slice X.A X.n X.c) X.n (X.l.flatMap Ar.cells)).holds w) (h2:(BK Oi X.l).holds w) (h3:X.n≤16):(jT X).holds w:=
 ⟨fun g hg=>hg.elim (h1.1 g) (h2.1 g),fun w' hs hk=>⟨⟨Rd.Bf (h1.2 w' hs fun g hg=>hk g (.inl hg)),fun r hr=>(h2.2 w' hs (fun g hg=>hk g (.inr hg)) r hr).rd,by omega⟩,h3,fun r hr=>(h2.2 w' hs (fun g hg=>hk g (.inr hg)) r hr).sn⟩⟩
theorem JG (w:World):(jT ⟨none,0,0,[]⟩).holds w:=Yj (Gf (QW w 0 _ _)) (Df _ w) (by show 0≤16;omega)
theorem Lp {m:Nat}:∀ g,(jT ⟨none,0,0,[]⟩).D g→m≤g:=by
 rintro g (h|⟨T,hT,_⟩)
 ·simp [Value.ownBlock] at h
 ·cases hT
def Af5 (r:List PC × Int) (w:World) (e:Ending) (w':World):Prop:=∃ X:Qr,e=.returned (.tuple #[.agg X.cs,.int .i64 r.2])∧X.Ac=r.1∧Aj w w'∧Uq w w' (jT X.ps)
theorem fV (d:Ev) (s:List UInt8) (w:World) (hd:d.rd w) (hs:s.length≤140737488351232) (hn:d.dm.n≤1000000) (hm:d.ms.n≤1000000) (hdd:∀ x ∈ d.dm.l,x.tr.n≤1000000∧∀ t ∈ x.tr.l,t.up.n≤100000):
 Calls prog 63 #[.agg d.cs,.string ⟨s.toArray⟩] w (Af5 (DR d.Ac s) w):=by
 have hmf:∀ (fn:Fn) (first cap:Array Value) (w:World),(Instr.makeFunc fn first cap).run prog w=.ok (.func fn first cap) w:=fun _ _ _ _=>rfl
 have HC:=Aa (fun w' (hb:Aj w w')=>FM d w' (hd.mono hb) hn hm hdd)
 have HBC:=Aa (fun (X:Qr) w' (hX:X.rd w') (hb:Aj w w') (h2:∀ p ∈ X.ps.l,p.set.n≤100000)=>Sa d X w' (hd.mono hb) hX hn hm hdd h2)
 have hl1:d.Ac.DF.length=d.dm.n:=by have:d.dm.l.length=d.dm.n:=hd.dm.len;simpa using this
 have H:=Aa (((SL.start No w).alloc d.cs 25).alloc #[.slice none 0 0] 29)
 (try simp only [LS] at H)
 have hcs:d.cs=#[.slice d.dm.A d.dm.n d.dm.c,.slice d.ms.A d.ms.n d.ms.c]:=rfl
 have wJ:=Aa hcs
 clear hcs hd hdd
 by_cases hE:Ap d.Ac=0
 ·obtain ⟨_,q2,_,_,q5,_⟩:=BA hE
  have hn16:d.dm.n≤16:=by omega
  have HT0:Hid (DR d.Ac s=match JZ d.dm.n s with
   |.error k=>([],k)
   |.ok (q,r)=>if r≠[] then ([],3) else if Bl d.Ac q=0 then (q,0) else ([],Bl d.Ac q)):=by
   show _=_
   unfold DR
   rw [Ah (by omega),hl1]
   rfl
  rw [hE] at HC
  clear hE q2 q5 hl1
  go_enter func63,ntmps63
  rw [←wJ.Ab] at *
  go_wp2_with ((with_reducible refine OP 9 ?_);(refine Cx BL (H.blk 0 rfl) ?_))
  refine (HC _ H.to).mono ?_;rintro e w1 ⟨rfl,hb1⟩
  replace H:=Aa (H.Au hb1)
  clear hb1 HC
  generalize w.heap.size+1=y at *
  generalize w.heap.size=z at *
  go_wp2_with fail
  replace H:=Aa (H.alloc #[.slice none 0 0] 29);(try simp only [LS] at H)
  replace H:=Aa (H.ES 80 7);(try simp only [LS] at H)
  replace H:=Aa (H.add (Aj.refl _) (BK Oi []) (Df _ _) Iy);(try simp only [LS] at H)
  replace H:=Aa (H.Gh [2,3,4,0,1] (by decide) (by simp));(try simp only [LS] at H)
  generalize w1.heap.size=g at *
  generalize w1.alloc (.cells #[.slice none 0 0] 29)=W at *
  refine (ZL 101 #[.pointer (some ⟨z,0,none⟩),.pointer (some ⟨g,0,none⟩)] s W hs (Rask w s W.heap.size g z y d (JZ d.dm.n s)) (mR func101 (by kernel_rfl) (by kernel_rfl)) (fun w4 h1 h2 h3 h4 h5=>ZK w W.heap.size g z y s d w4 hn16 (H.begin h1 h3 h4 h5))).mono ?_
  rintro e w5 ⟨k,w4,rfl,⟨hk,X,q,hS,hX16,hD⟩,eF,_⟩
  replace H:=Aa (hS.ended eF);(try simp only [LS] at H)
  clear hS eF
  generalize W.heap.size=B at *
  cases hT:JZ d.dm.n s with
  |error k'=>
   have HT:Hid (DR d.Ac s=([],k')):=by show _=_;rw [HT0.Ab,hT]
   have hk':k'≠0:=Ju (fun l k h=>XY h) hT
   rw [hT] at hk
   have hk2:k=k':=hk
   subst hk2
   have dk:(k==0)=false:=by simpa using hk'
   have dk2:(k !=0)=true:=by simpa using hk'
   clear hT hk hk' hD HT0
   go_wp2_with ((with_reducible refine OS 4 ?_);(refine Ec FH H 4 rfl (#[.slice none 0 0]) (by simp [Value.oneCell']) ?_;clear H;intro wq H;(try simp only [LS] at H)))
   refine Ce (AJ rfl FH rfl (H.blk 4 rfl) rfl) rfl ?_
   rw [HT.Ab]
   exact ⟨⟨⟨none,0,0,[]⟩⟩,rfl,rfl,H.to,JG _,Lp⟩
  |ok q=>
   obtain ⟨rs,l⟩:=q
   rw [hT] at hk
   obtain rfl:=hD _ _ hT
   by_cases hl:l=[]
   ·have HT1:Hid (DR d.Ac s=if Bl d.Ac (X.l.map Pk.Ac)=0 then (X.l.map Pk.Ac,0) else ([],Bl d.Ac (X.l.map Pk.Ac))):=by show _=_;rw [HT0.Ab,hT];simp only;rw [Ah (by simp [hl])]
    have hk2:k=0:=by rw [hk];show (if l=[] then (0:Int) else 3)=0;rw [Ak hl]
    subst hk2
    clear hT hk hl hD HT0
    replace H:=Aa (H.both 1 2 (by omega) rfl rfl (jT X) (Yj (H.get 1 rfl) (H.get 2 rfl) hX16) (fun g hg=>hg));(try simp only [LS] at H)
    go_wp2_with (first|((with_reducible refine OP 20 ?_);(refine Cx BL (H.blk 2 rfl) ?_))|((with_reducible refine OP 21 ?_);(refine Cx FH (H.blk 0 rfl) ?_)))
    refine (HBC ⟨X⟩ _ (H.at_ 1 rfl).1 H.to (fun p hp=>by have:=(H.at_ 1 rfl).2.2 p hp;omega)).mono ?_;rintro e w6 ⟨rfl,hb6⟩
    replace H:=Aa (H.Au hb6)
    simp only [Qr.Ac]
    clear hb6 HBC
    by_cases hE2:Bl d.Ac (X.l.map Pk.Ac)=0
    ·have HT:Hid (DR d.Ac s=(X.l.map Pk.Ac,0)):=by show _=_;rw [HT1.Ab,Ak hE2]
     rw [hE2]
     clear hE2 HT1
     go_wp2_with (first|((with_reducible refine OP 27 ?_);(refine Cx FH (H.blk 0 rfl) ?_))|((with_reducible refine OS 4 ?_);(refine Ec FH H 3 rfl (#[.slice X.A X.n X.c]) (by simp [Value.oneCell']) ?_;clear H;intro wq H;(try simp only [LS] at H))))
     refine Ce (AJ rfl FH rfl (H.blk 3 rfl) rfl) rfl ?_
     rw [HT.Ab]
     exact ⟨⟨X⟩,rfl,rfl,H.to,H.get 1 rfl,H.new 1 rfl⟩
    ·have HT:Hid (DR d.Ac s=([],Bl d.Ac (X.l.map Pk.Ac))):=by show _=_;rw [HT1.Ab,Ah hE2]
     have dk:(Bl d.Ac (X.l.map Pk.Ac)==0)=false:=by simpa using hE2
     have dk2:(Bl d.Ac (X.l.map Pk.Ac) !=0)=true:=by simpa using hE2
     clear hE2 HT1
     go_wp2_with ((with_reducible refine OS 4 ?_);(refine Ec FH H 3 rfl (#[.slice none 0 0]) (by simp [Value.oneCell']) ?_;clear H;intro wq H;(try simp only [LS] at H)))
     refine Ce (AJ rfl FH rfl (H.blk 3 rfl) rfl) rfl ?_
     rw [HT.Ab]
     exact ⟨⟨⟨none,0,0,[]⟩⟩,rfl,rfl,H.to,JG _,Lp⟩
   ·have HT:Hid (DR d.Ac s=([],3)):=by show _=_;rw [HT0.Ab,hT];simp only;rw [Ak hl]
    have hk2:k=3:=by rw [hk];show (if l=[] then (0:Int) else 3)=3;rw [Ah hl]
    subst hk2
    clear hT hk hl hD HT0
    go_wp2_with ((with_reducible refine OS 4 ?_);(refine Ec FH H 4 rfl (#[.slice none 0 0]) (by simp [Value.oneCell']) ?_;clear H;intro wq H;(try simp only [LS] at H)))
    refine Ce (AJ rfl FH rfl (H.blk 4 rfl) rfl) rfl ?_
    rw [HT.Ab]
    exact ⟨⟨⟨none,0,0,[]⟩⟩,rfl,rfl,H.to,JG _,Lp⟩
 ·have HT:Hid (DR d.Ac s=([],Ap d.Ac)):=by show _=_;unfold DR;rw [Ak hE]
  have dE:(Ap d.Ac==0)=false:=by simpa using hE
  have dE2:(Ap d.Ac !=0)=true:=by simpa using hE
  clear hE
  go_enter func63,ntmps63
  rw [←wJ.Ab] at *
  go_wp2_with ((with_reducible refine OP 9 ?_);(refine Cx BL (H.blk 0 rfl) ?_))
  refine (HC _ H.to).mono ?_;rintro e w1 ⟨rfl,hb1⟩
  replace H:=Aa (H.Au hb1)
  clear hb1 HC
  go_wp2_with ((with_reducible refine OS 4 ?_);(refine Ec FH H 1 rfl (#[.slice none 0 0]) (by simp [Value.oneCell']) ?_;clear H;intro wq H;(try simp only [LS] at H)))
  refine Ce (AJ rfl FH rfl (H.blk 1 rfl) rfl) rfl ?_
  rw [HT.Ab]
  exact ⟨⟨⟨none,0,0,[]⟩⟩,rfl,rfl,H.to,JG _,Lp⟩
def wK (q:Qr):Prop:=q.ps.n≤20∧∀ p ∈ q.ps.l,p.set.n≤250
theorem wK.set {q:Qr} (h:wK q):∀ p ∈ q.ps.l,p.set.n≤100000:=fun p hp=>by have:=h.2 p hp;omega
theorem mY (q:Qr) (w:World) (hq:q.rd w):
 Calls prog 8 #[.agg q.cs] w (ZY (wK q) w):=by
 have HQ:=Aa (show q.ps.rd w from hq)
 have hl1:Hid (q.ps.l.length=q.ps.n):=Row.rd.len hq
 have n63:q.ps.n≤9223372036854775807:=hq.n63
 have H:=Aa ((SL.start No w).alloc q.cs 29)
 (try simp only [LS] at H)
 obtain ⟨⟨A,n,c,ps⟩⟩:=q
 simp only [Qr.cs] at *
 clear hq
 go_enter func8,ntmps8
 go_wp2_with fail
 generalize w.heap.size=x at *
 generalize World.alloc w _=w1 at *
 have HA:Hid (∀ i p,i<0→ps[i]?=some p→p.set.n≤250):=fun i t hi=>absurd hi (by omega)
 go_loopg [3,4] 22 (fun gg s3 s4 wr=>∃ (k sm:Nat),gg=22 - k∧k≤21∧k≤n∧s4=.int .i64 k∧s3=.int .i64 sm∧sm≤254000 * k∧Hid (SL No w wr [Av x 29 #[.slice A n c]])∧Hid (∀ i p,i<k→ps[i]?=some p→p.set.n≤250))
 case atStart=>exact ⟨0,0,rfl,by omega,by omega,rfl,rfl,by omega,H,HA⟩
 case round=>
  clear H HA
  obtain ⟨k,sm,BG,hk21,hkn,rfl,rfl,hsm,H,HA⟩:=hrel
  obtain ⟨W0,hW0⟩:∃ W0,W0=wr:=⟨_,rfl⟩
  subst hW0
  have Cg:=Aa BG
  clear BG
  have Ga:=(H.blk 0 rfl).Am 0
  by_cases hlt:k<n∧k≤20
  ·obtain ⟨h1,h2⟩:=hlt
   have e1:decide ((k:Int)≤20)=true:=by simp<;>omega
   obtain ⟨bb,oo,p,hA,hbb,hpk,hpr,hrg⟩:=(HQ.mono H.to).rW (k:=k) h1
   simp only at hA
   subst hA
   have HPK:=Aa hpk
   have s63:=hpr.set.n63
   have HX:=Aa (fun w' (hb:Aj W0 w')=>hpr.set.mono hb)
   have HC:=Aa (fun w' (hb:Aj W0 w') (o:Nat) v (h:p.cs.toList[o]?=some v)=>(hb.cell hbb).trans (hrg o v h))
   have i0:(0:Int)≤k:=by omega
   have i1:(k:Int)<n:=by omega
   clear hpk hpr hrg
   obtain ⟨pf,pt,lo,hi,⟨A3,n3,c3,set⟩,g,pb⟩:=p
   simp only [Pk.cs] at *
   have r2:=HC W0 (Aj.refl _) 2 _ rfl
   have r3:=HC W0 (Aj.refl _) 3 _ rfl
   obtain ⟨q1,hq1,hq12⟩:∃ q:Nat,(min (lo.length:Int) 1000)=q∧q≤1000:=⟨min lo.length 1000,by omega,by omega⟩
   obtain ⟨q2,hq2,hq22⟩:∃ q:Nat,(min (hi.length:Int) 1000)=q∧q≤1000:=⟨min hi.length 1000,by omega,by omega⟩
   go_upto_region 5 with fail
   have GA:=fun u:Over W0=>Over.cell Ga u
   have D9:=fun u:Over W0=>Over.cell r2 u
   have f_r3:=fun u:Over W0=>Over.cell r3 u
   refine Al ?_
   (try simp only [Act.put,LP])
   repeat (go_big_quiet_step (fail))
   refine CX ?_
   rintro w5 ⟨⟨_,FP⟩,rfl⟩
   (try dsimp only)
   replace H:=Aa (H.Au FP)
   clear GA D9 f_r3 Ga r2 r3
   have HB0:=Aa FP
   clear FP
   have Ga:=(H.blk 0 rfl).Am 0
   have r4:=HC w5 HB0.Ab 4 _ rfl
   obtain ⟨sm2,hsm2,hs3⟩:∃ sm2:Nat,(sm2:Int)=sm+q1+q2∧sm2≤254000 * k+2000:=⟨sm+q1+q2,by omega,by omega⟩
   go_wp2_with fail
   clear Ga r4 e1
   go_loopg [3,5] 252 (fun gg s3 s5 wx=>∃ (j s2:Nat),gg=252 - j∧j≤251∧j≤n3∧s5=.int .i64 j∧s3=.int .i64 s2∧s2≤254000 * k+2000+1001 * j∧Hid (Aj W0 wx)∧Hid (SL No w wx [Av x 29 #[.slice (some ⟨bb,oo,none⟩) n c]]))
   case atStart=>exact ⟨0,sm2,rfl,by omega,by omega,rfl,by rw [hsm2],by omega,HB0,H⟩
   case round=>
    clear H HB0 hsm2 hs3 sm2
    obtain ⟨j,s2,hgj,hj251,hjn,rfl,rfl,hs2,HB0,H⟩:=hrel
    have Kv:=Aa hgj
    clear hgj
    have Ga:=(H.blk 0 rfl).Am 0
    have r4:=HC wr HB0.Ab 4 _ rfl
    by_cases hjl:j<n3∧j≤250
    ·obtain ⟨g1,g2⟩:=hjl
     have y1:decide ((j:Int)≤250)=true:=by simp<;>omega
     obtain ⟨b4,o4,t,Zq,htk,htl,u0⟩:=(HX _ HB0.Ab).FE (k:=j) g1
     simp only at Zq
     subst Zq
     have j0:(0:Int)≤j:=by omega
     have j1:(j:Int)<n3:=by omega
     obtain ⟨q3,hq3,hq32⟩:∃ q:Nat,(min (t.length:Int) 1000)=q∧q≤1000:=⟨min t.length 1000,by omega,by omega⟩
     clear htk
     go_wp2
     clear Ga r4 u0
     go_roundg (252 - (j+1))
     case rel=>exact ⟨j+1,s2+q3+1,rfl,by omega,by omega,by go_num,by go_num,by omega,HB0,H⟩
     case measure=>rw [Kv.Ab];omega
    ·have f0:(decide ((j:Int)<n3)=false∧decide (j<n3)=false∧¬ j<n3)∨(decide ((j:Int)<n3)=true∧decide (j<n3)=true∧j<n3∧decide ((j:Int)≤250)=false):=by
      by_cases h:j<n3
      ·right
       refine ⟨by simp<;>omega,by simp<;>omega,h,by simp<;>omega⟩
      ·left
       refine ⟨by simp<;>omega,by simp<;>omega,h⟩
     by_cases h250:n3≤250
     ·have d1:decide ((250:Int)<n3)=false:=by simp<;>omega
      have HN:Hid (∀ i p,i<k+1→ps[i]?=some p→p.set.n≤250):=by
       intro i d' hi hid
       rcases (show i<k∨i=k by omega) with h|h
       ·exact HA i d' h hid
       ·subst h
        rw [HPK.Ab] at hid
        injection hid with hid
        subst hid
        exact h250
      clear HA hjl
      rcases f0 with ⟨f1,f2,f3⟩|⟨f1,f2,f3,f4⟩
      ·go_wp2_with fail
       go_roundg (22 - (k+1))
       case rel=>exact ⟨k+1,s2,rfl,by omega,by omega,by go_num,rfl,by omega,H,HN⟩
       case measure=>rw [Cg.Ab];omega
      ·exfalso
       have:=UH f4
       omega
     ·have d1:decide ((250:Int)<n3)=true:=by simp<;>omega
      clear HA hjl
      rcases f0 with ⟨f1,f2,f3⟩|⟨f1,f2,f3,f4⟩
      all_goals
       go_wp2
       go_ret
       exact ⟨false,rfl,(fun h=>by cases h),H.to⟩
  ·have e0:(decide ((k:Int)<n)=false∧decide (k<n)=false∧¬ k<n)∨(decide ((k:Int)<n)=true∧decide (k<n)=true∧k<n∧decide ((k:Int)≤20)=false):=by
    by_cases h:k<n
    ·right
     refine ⟨by simp<;>omega,by simp<;>omega,h,by simp<;>omega⟩
    ·left
     refine ⟨by simp<;>omega,by simp<;>omega,h⟩
   clear hlt
   have nQ:Hid (n≤20→∀ p ∈ ps,p.set.n≤250):=by
    intro h20 d hd
    obtain ⟨i,hi⟩:=Iz.1 hd
    have hil:i<ps.length:=(Ca.1 hi).1
    refine HA i d ?_ hi
    have:=hl1.Ab
    rcases e0 with ⟨_,_,h⟩|⟨_,_,h,h'⟩
    ·omega
    ·simp at h';omega
   clear HA
   by_cases h20:n≤20
   ·have d1:decide ((n:Int)≤20)=true:=by simp<;>omega
    have HX:=Aa (nQ h20)
    have hFew:Hid (wK ⟨⟨A,n,c,ps⟩⟩):=⟨h20,HX.Ab⟩
    rcases e0 with ⟨e1,e2,e3⟩|⟨e1,e2,e3,e4⟩
    all_goals
     go_wp2
     go_ret
     exact ⟨_,rfl,fun _=>hFew.Ab,H.to⟩
   ·have d1:decide ((n:Int)≤20)=false:=by simp<;>omega
    rcases e0 with ⟨e1,e2,e3⟩|⟨e1,e2,e3,e4⟩
    all_goals
     go_wp2
     go_ret
     exact ⟨false,rfl,(fun h=>by cases h),H.to⟩
theorem bM (d:Dm) (p:Pk) (w:World) (hd:d.rd w) (hp:p.rd w) (hs:p.set.n≤100000):
 Calls prog 27 #[.agg d.cs,.agg p.cs] w fun e w'=>e=.returned (.int .i64 (AO d.Ac p.Ac))∧Aj w w':=by
 have HP:=Aa hp.set
 have HD:=Aa hd.tr
 have hl:Hid (d.tr.l.length=d.tr.n):=hd.tr.len
 have hsl:Hid (p.set.l.length=p.set.n):=hp.set.len
 have n63:=hd.tr.n63
 have s63:=hp.set.n63
 have l63:=hp.lo
 have h63:=hp.hi
 have H:=Aa (((SL.start No w).alloc d.cs 73).alloc p.cs 80)
 (try simp only [LS] at H)
 obtain ⟨pf,pt,lo,hi,⟨A,n,c,set⟩,g,pb⟩:=p
 obtain ⟨nm,⟨A2,n2,cp2,AB⟩⟩:=d
 simp only [Pk.cs,Pk.Ac,Dm.cs,Dm.Ac] at *
 clear hp hd
 have c0:=(H.blk 1 rfl).Am 0
 have c1:=(H.blk 1 rfl).Am 1
 have c2:=(H.blk 1 rfl).Am 2
 have c3:=(H.blk 1 rfl).Am 3
 have c4:=(H.blk 1 rfl).Am 4
 have c5:=(H.blk 0 rfl).Am 1
 by_cases h0:pf=0
 ·subst h0
  by_cases ht:pt=0
  ·subst ht
   cases lo with
   |cons a r=>
    have HE:Hid (AO ⟨nm,AB.map Bg.Ac⟩ ⟨0,0,a::r,hi,set,g,pb⟩=2):=by show _=_;unfold AO;rw [Ak rfl,Ah (by simp)]
    go_enter func27,ntmps27
    go_wp2
    go_ret
    rw [HE.Ab]
    exact ⟨rfl,H.to⟩
   |nil=>
    cases hi with
    |cons a r=>
     have HE:Hid (AO ⟨nm,AB.map Bg.Ac⟩ ⟨0,0,[],a::r,set,g,pb⟩=2):=by show _=_;unfold AO;rw [Ak rfl,Ah (by simp)]
     go_enter func27,ntmps27
     go_wp2
     go_ret
     rw [HE.Ab]
     exact ⟨rfl,H.to⟩
    |nil=>
     by_cases hn:n=0
     ·have HE:Hid (AO ⟨nm,AB.map Bg.Ac⟩ ⟨0,0,[],[],set,g,pb⟩=0):=by show _=_;unfold AO;rw [Ak rfl,Ak ⟨rfl,rfl,rfl,by have:=hsl.Ab;simp only;omega⟩]
      subst hn
      go_enter func27,ntmps27
      go_wp2
      go_ret
      rw [HE.Ab]
      exact ⟨rfl,H.to⟩
     ·have HE:Hid (AO ⟨nm,AB.map Bg.Ac⟩ ⟨0,0,[],[],set,g,pb⟩=2):=by show _=_;unfold AO;rw [Ak rfl,Ah (fun h=>hn (by have:=hsl.Ab;have:=h.2.2.2;simp only at this;omega))]
      have d1:decide ((0:Int)<(n:Int))=true:=by simp<;>omega
      go_enter func27,ntmps27
      go_wp2
      go_ret
      rw [HE.Ab]
      exact ⟨rfl,H.to⟩
  ·have z1:(pt==0)=false:=by simpa using ht
   have z2:(pt !=0)=true:=by simpa using ht
   have HE:Hid (AO ⟨nm,AB.map Bg.Ac⟩ ⟨0,pt,lo,hi,set,g,pb⟩=2):=by show _=_;unfold AO;rw [Ak rfl,Ah (fun h=>ht h.1)]
   go_enter func27,ntmps27
   go_wp2
   go_ret
   rw [HE.Ab]
   exact ⟨rfl,H.to⟩
 ·have z0:(pf==0)=false:=by simpa using h0
  by_cases h12:pf=1∨pf=2
  ·have Kw:Hid (AO ⟨nm,AB.map Bg.Ac⟩ ⟨pf,pt,lo,hi,set,g,pb⟩=if 0≤pt then (match (AB.map Bg.Ac)[pt.toNat]? with|none=>2|some tr=>if pf=1 then Fx ⟨pf,pt,lo,hi,set,g,pb⟩ else Ez tr.ts ⟨pf,pt,lo,hi,set,g,pb⟩) else 2):=by
    show _=_;unfold AO;rw [Ah h0,Ak h12];(try rfl)
   by_cases hp0:pt<0
   ·have d1:decide (pt<0)=true:=by simpa using hp0
    have HE:Hid (AO ⟨nm,AB.map Bg.Ac⟩ ⟨pf,pt,lo,hi,set,g,pb⟩=2):=by show _=_;rw [Kw.Ab,Ah (by omega)]
    clear Kw
    rcases h12 with h1|h1
    ·subst h1
     go_enter func27,ntmps27
     go_wp2
     go_ret
     rw [HE.Ab]
     exact ⟨rfl,H.to⟩
    ·subst h1
     go_enter func27,ntmps27
     go_wp2
     go_ret
     rw [HE.Ab]
     exact ⟨rfl,H.to⟩
   ·have d1:decide (pt<0)=false:=by simpa using hp0
    by_cases hpn:pt<n2
    ·have d2:decide ((n2:Int)≤pt)=false:=by simp<;>omega
     obtain ⟨t,rfl⟩:∃ k:Nat,pt=k:=⟨pt.toNat,by omega⟩
     have htn:t<n2:=by omega
     obtain ⟨bb,oo,T,hA,hbb,wO,hTr,hrg⟩:=(HD.mono H.to).JN (k:=t) htn
     simp only at hA
     subst hA
     have Yp:(AB.map Bg.Ac)[t]?=some T.Ac:=by rw [DD,wO];(try rfl)
     have ZU:Hid (AO ⟨nm,AB.map Bg.Ac⟩ ⟨pf,t,lo,hi,set,g,pb⟩=if pf=1 then Fx ⟨pf,t,lo,hi,set,g,pb⟩ else Ez T.ts.l ⟨pf,t,lo,hi,set,g,pb⟩):=by
      show _=_;rw [Kw.Ab,Ak (by omega),Da,Yp]
     have i0:(0:Int)≤t:=by omega
     have i1:(t:Int)<n2:=by omega
     have gQ:=Aa hTr.ts
     have hq:=hrg 1 _ rfl
     clear Kw wO hrg Yp hTr hbb
     rcases h12 with h1|h1
     ·subst h1
      have HE2:Hid (AO ⟨nm,AB.map Bg.Ac⟩ ⟨1,t,lo,hi,set,g,pb⟩=Fx ⟨1,t,lo,hi,set,g,pb⟩):=by show _=_;rw [ZU.Ab,Ak rfl]
      clear ZU hq
      by_cases hn:n=0
      ·have hs0:¬ 0<set.length:=by have:=hsl.Ab;omega
       subst hn
       by_cases h1:16<lo.length
       ·have e1:decide ((16:Int)<(lo.length:Int))=true:=by simp<;>omega
        have HE:Hid (AO ⟨nm,AB.map Bg.Ac⟩ ⟨1,t,lo,hi,set,g,pb⟩=5):=by show _=_;rw [HE2.Ab];unfold Fx;rw [Ah hs0,Ak (.inl h1)]
        go_enter func27,ntmps27
        go_wp2
        go_ret
        rw [HE.Ab]
        exact ⟨rfl,H.to⟩
       ·have e1:decide ((16:Int)<(lo.length:Int))=false:=by simp<;>omega
        by_cases h2:16<hi.length
        ·have e2:decide ((16:Int)<(hi.length:Int))=true:=by simp<;>omega
         have HE:Hid (AO ⟨nm,AB.map Bg.Ac⟩ ⟨1,t,lo,hi,set,g,pb⟩=5):=by show _=_;rw [HE2.Ab];unfold Fx;rw [Ah hs0,Ak (.inr h2)]
         go_enter func27,ntmps27
         go_wp2
         go_ret
         rw [HE.Ab]
         exact ⟨rfl,H.to⟩
        ·have e2:decide ((16:Int)<(hi.length:Int))=false:=by simp<;>omega
         have HE:Hid (AO ⟨nm,AB.map Bg.Ac⟩ ⟨1,t,lo,hi,set,g,pb⟩=0):=by show _=_;rw [HE2.Ab];unfold Fx;rw [Ah hs0,Ah (by simp only;omega)]
         go_enter func27,ntmps27
         go_wp2
         go_ret
         rw [HE.Ab]
         exact ⟨rfl,H.to⟩
      ·have e1:decide ((0:Int)<(n:Int))=true:=by simp<;>omega
       have HE:Hid (AO ⟨nm,AB.map Bg.Ac⟩ ⟨1,t,lo,hi,set,g,pb⟩=2):=by show _=_;rw [HE2.Ab];unfold Fx;rw [Ak (by have:=hsl.Ab;simp only;omega)]
       go_enter func27,ntmps27
       go_wp2
       go_ret
       rw [HE.Ab]
       exact ⟨rfl,H.to⟩
     ·subst h1
      have HE2:Hid (AO ⟨nm,AB.map Bg.Ac⟩ ⟨2,t,lo,hi,set,g,pb⟩=Ez T.ts.l ⟨2,t,lo,hi,set,g,pb⟩):=by show _=_;rw [ZU.Ab,Ah (by omega)]
      clear ZU
      cases lo with
      |cons a r=>
       have HE:Hid (AO ⟨nm,AB.map Bg.Ac⟩ ⟨2,t,a::r,hi,set,g,pb⟩=2):=by show _=_;rw [HE2.Ab];unfold Ez;rw [Ah (by simp)]
       go_enter func27,ntmps27
       go_wp2
       go_ret
       rw [HE.Ab]
       exact ⟨rfl,H.to⟩
      |nil=>
       cases hi with
       |cons a r=>
        have HE:Hid (AO ⟨nm,AB.map Bg.Ac⟩ ⟨2,t,[],a::r,set,g,pb⟩=2):=by show _=_;rw [HE2.Ab];unfold Ez;rw [Ah (by simp)]
        go_enter func27,ntmps27
        go_wp2
        go_ret
        rw [HE.Ab]
        exact ⟨rfl,H.to⟩
       |nil=>
        have HE3:Hid (AO ⟨nm,AB.map Bg.Ac⟩ ⟨2,t,[],[],set,g,pb⟩=if BH set≠0 then BH set else Gy T.ts.l (set.drop 0)):=by show _=_;rw [HE2.Ab];unfold Ez;rw [Ak ⟨rfl,rfl⟩];(try rfl)
        clear HE2
        go_enter func27,ntmps27
        go_wp2_with fail
        refine (SG A n c set _ (HP.mono H.to).texts (HP.mono H.to).aL hs).mono ?_;rintro e w1 ⟨rfl,hb1⟩
        have hq1:=(hb1.cell (PN _ _ hq)).trans hq
        replace H:=Aa (H.Au hb1)
        replace gQ:=Aa (gQ.mono hb1)
        clear c0 c1 c2 c3 c4 c5 hb1 hq
        have c4:=(H.blk 1 rfl).Am 4
        by_cases hE:BH set=0
        ·have ZU:Hid (AO ⟨nm,AB.map Bg.Ac⟩ ⟨2,t,[],[],set,g,pb⟩=Gy T.ts.l (set.drop 0)):=by show _=_;rw [HE3.Ab,Ah (by omega)]
         rw [hE]
         clear HE3 hE
         go_wp2_with fail
         have hbl:=PN _ _ hq1
         clear c4
         generalize w.heap.size+1=y at *
         generalize w.heap.size=x at *
         have HB1:Hid (Aj w1 w1):=Aj.refl _
         go_loopg [85] n (fun gg i wr=>∃ k:Nat,gg=n - k∧k≤n∧i=.int .i64 k∧Hid (Aj w1 wr)∧Hid (SL No w wr [Av x 73 #[.string ⟨nm.toArray⟩,.slice (some ⟨bb,oo,none⟩) n2 cp2],Av y 80 #[.int .i64 2,.int .i64 t,.string ⟨#[]⟩,.string ⟨#[]⟩,.slice A n c,.bool g,.int .i64 pb]])∧Hid (AO ⟨nm,AB.map Bg.Ac⟩ ⟨2,t,[],[],set,g,pb⟩=Gy T.ts.l (set.drop k)))
         case atStart=>exact ⟨0,rfl,by omega,rfl,HB1,H,ZU⟩
         case round=>
          clear H ZU HB1
          obtain ⟨k,BG,hk,rfl,HB,H,HE⟩:=hrel
          have Cg:=Aa BG
          clear BG
          by_cases hlt:k<n
          ·obtain ⟨b3,o3,s,hA,hsk,hsl2,q1⟩:=(HP.mono H.to).FE (k:=k) hlt
           simp only at hA
           subst hA
           have Jf:=Aa (TM (tr:=T.ts.l) hsk)
           have j0:(0:Int)≤k:=by omega
           have j1:(k:Int)<n:=by omega
           have c1:=(H.blk 1 rfl).Am 1
           have c5:=(H.blk 0 rfl).Am 1
           have q2:=(HB.cell hbl).trans hq1
           clear hsk
           go_wp2_with fail
           refine (oJ T.ts s _ (gQ.mono HB.Ab)).mono ?_;rintro e w2 ⟨rfl,rfl⟩
           clear c1 c5 q1 q2
           cases hP:posOf s T.ts.l with
           |none=>
            have HN:Hid (AO ⟨nm,AB.map Bg.Ac⟩ ⟨2,t,[],[],set,g,pb⟩=13):=by show _=_;rw [HE.Ab,Jf.Ab,hP]
            have hAt:Te s T.ts.l=-1:=by unfold Te;rw [hP]
            rw [hAt]
            clear HE Jf hP hAt
            go_wp2
            go_ret
            rw [HN.Ab]
            exact ⟨rfl,H.to⟩
           |some p=>
            have HN:Hid (AO ⟨nm,AB.map Bg.Ac⟩ ⟨2,t,[],[],set,g,pb⟩=Gy T.ts.l (set.drop (k+1))):=by show _=_;rw [HE.Ab,Jf.Ab,hP]
            have hAt:Te s T.ts.l=(p:Int):=by unfold Te;rw [hP]
            have z1:decide ((p:Int)<0)=false:=by simp<;>omega
            rw [hAt]
            clear HE Jf hP hAt
            go_wp2
            go_roundg (n - (k+1))
            case rel=>exact ⟨k+1,rfl,by omega,by go_num,HB,H,HN⟩
            case measure=>rw [Cg.Ab];omega
          ·have HN:Hid (AO ⟨nm,AB.map Bg.Ac⟩ ⟨2,t,[],[],set,g,pb⟩=0):=by show _=_;rw [HE.Ab,EY (by have:=hsl.Ab;omega)];(try rfl)
           clear HE
           go_wp2
           go_ret
           rw [HN.Ab]
           exact ⟨rfl,H.to⟩
        ·have ZU:Hid (AO ⟨nm,AB.map Bg.Ac⟩ ⟨2,t,[],[],set,g,pb⟩=BH set):=by show _=_;rw [HE3.Ab,Ak hE]
         have z1:(BH set !=0)=true:=by simpa using hE
         have z2:(BH set==0)=false:=by simpa using hE
         clear HE3 hE
         go_wp2
         go_ret
         rw [ZU.Ab]
         exact ⟨rfl,H.to⟩
    ·have d2:decide ((n2:Int)≤pt)=true:=by simp<;>omega
     have HE:Hid (AO ⟨nm,AB.map Bg.Ac⟩ ⟨pf,pt,lo,hi,set,g,pb⟩=2):=by
      show _=_;rw [Kw.Ab,Ak (by omega),Gt (by have:=hl.Ab;simp only [Cq] at this ⊢;omega)]
     clear Kw
     rcases h12 with h1|h1
     ·subst h1
      go_enter func27,ntmps27
      go_wp2
      go_ret
      rw [HE.Ab]
      exact ⟨rfl,H.to⟩
     ·subst h1
      go_enter func27,ntmps27
      go_wp2
      go_ret
      rw [HE.Ab]
      exact ⟨rfl,H.to⟩
  ·have z1:(pf==1)=false:=by simp<;>omega
   have z2:(pf==2)=false:=by simp<;>omega
   have z3:(pf !=1)=true:=by simp<;>omega
   have z4:(pf !=2)=true:=by simp<;>omega
   have HE:Hid (AO ⟨nm,AB.map Bg.Ac⟩ ⟨pf,pt,lo,hi,set,g,pb⟩=2):=by show _=_;unfold AO;rw [Ah h0,Ah h12]
   go_enter func27,ntmps27
   go_wp2
   go_ret
   rw [HE.Ab]
   exact ⟨rfl,H.to⟩
theorem ZI (s:Ev) (q:Qr) (w:World) (hs:s.rd w) (hq:q.rd w) (hn:s.dm.n≤1000000) (hm:s.ms.n≤1000000) (hd:∀ d ∈ s.dm.l,d.tr.n≤1000000∧∀ t ∈ d.tr.l,t.up.n≤100000) (hp:∀ p ∈ q.ps.l,p.set.n≤100000):
 Calls prog 9 #[.agg s.cs,.agg q.cs] w fun e w'=>e=.returned (.int .i64 (Bl s.Ac q.Ac))∧Aj w w':=by
 have HC:=Aa (fun w' (hb:Aj w w')=>Rj s w' (hs.mono hb) hn hm (fun x hx=>(hd x hx).1))
 have hl1:Hid (s.dm.l.length=s.dm.n):=hs.dm.len
 have hl2:Hid (q.ps.l.length=q.ps.n):=Row.rd.len hq
 have HD:=Aa hs.dm
 have HQ:=Aa (show q.ps.rd w from hq)
 have n63:=hs.dm.n63
 have m63:q.ps.n≤9223372036854775807:=hq.n63
 have qC:=Aa hp
 have H:=Aa (((SL.start No w).alloc s.cs 25).alloc q.cs 29)
 (try simp only [LS] at H)
 obtain ⟨⟨A,n,c,ds⟩,⟨A2,n2,c2,ms⟩⟩:=s
 obtain ⟨⟨B,m,d,ps⟩⟩:=q
 simp only [Ev.cs,Ev.Ac,Qr.cs,Qr.Ac] at *
 clear hs hq hp hd
 go_enter func9,ntmps9
 go_wp2_with ((with_reducible refine OP 9 ?_);(refine Cx BL (H.blk 0 rfl) ?_))
 refine (HC _ H.to).mono ?_;rintro e w1 ⟨rfl,hb1⟩
 replace H:=Aa (H.Au hb1)
 clear hb1 HC
 by_cases hE:Ap ⟨ds.map Dm.Ac,ms⟩=0
 ·have Kw:Hid (Bl ⟨ds.map Dm.Ac,ms⟩ (ps.map Pk.Ac)=if (ps.map Pk.Ac).length≠(ds.map Dm.Ac).length then 2 else Cn (ds.map Dm.Ac) (ps.map Pk.Ac)):=by show _=_;unfold Bl;rw [Ah (by omega)]
  rw [hE]
  have Ga:=(H.blk 0 rfl).Am 0
  have RU:=(H.blk 1 rfl).Am 0
  by_cases hl:m=n
  ·subst hl
   have HB:Hid (Bl ⟨ds.map Dm.Ac,ms⟩ (ps.map Pk.Ac)=Cn ((ds.map Dm.Ac).drop 0) ((ps.map Pk.Ac).drop 0)):=by
    show _=_;rw [Kw.Ab,Ah (by have:=hl1.Ab;have:=hl2.Ab;simp only [Cq] at this ⊢;omega)];(try rfl)
   clear Kw hE
   go_wp2_with fail
   generalize w.heap.size+1=y at *
   generalize w.heap.size=x at *
   clear Ga RU
   go_loopg [24] m (fun gg i wr=>∃ k:Nat,gg=m - k∧k≤m∧i=.int .i64 k∧Hid (SL No w wr [Av x 25 #[.slice A m c,.slice A2 n2 c2],Av y 29 #[.slice B m d]])∧Hid (Bl ⟨ds.map Dm.Ac,ms⟩ (ps.map Pk.Ac)=Cn ((ds.map Dm.Ac).drop k) ((ps.map Pk.Ac).drop k)))
   case atStart=>exact ⟨0,rfl,by omega,rfl,H,HB⟩
   case round=>
    clear H HB
    obtain ⟨k,BG,hk,rfl,H,HB⟩:=hrel
    have Cg:=Aa BG
    clear BG
    by_cases hlt:k<m
    ·obtain ⟨b1,o1,D,hA,hb1,UC,IJ,hrg1⟩:=(HD.mono H.to).Ta (k:=k) hlt
     simp only at hA
     subst hA
     obtain ⟨b2,o2,p,hB,hb2,hpk,hpr,hrg2⟩:=(HQ.mono H.to).rW (k:=k) hlt
     simp only at hB
     subst hB
     have Gg:(ds.map Dm.Ac)[k]?=some D.Ac:=by rw [DD,UC];(try rfl)
     have hpc:(ps.map Pk.Ac)[k]?=some p.Ac:=by rw [DD,hpk];(try rfl)
     have Jf:=Aa (PX Gg hpc)
     have HR1:=Aa hrg1
     have HR2:=Aa hrg2
     have aF:=Aa IJ
     have X4:=Aa hpr
     have hps:=qC p (CE hpk)
     have i0:(0:Int)≤k:=by omega
     have i1:(k:Int)<m:=by omega
     have D63:=IJ.tr.n63
     have hDl:Hid (D.tr.l.length=D.tr.n):=IJ.tr.len
     clear UC hpk hrg1 hrg2 Gg hpc IJ hpr hb2
     have RU:=(H.blk 1 rfl).Am 0
     go_upto_region 10 with (first|((with_reducible refine OP 31 ?_);(refine Ae rfl Ea (.tmp 30) rfl b2 (o2+k * 7) rfl p.cs rfl HR2.Ab ?_))|((with_reducible refine OS 7 ?_);(refine Fu Ea (p.cs) (Nb p) ?_;replace H:=Aa (H.alloc (p.cs) 80);(try simp only [LS] at H))))
     clear RU
     replace aF:=Aa (aF.mono ((Aj.refl wr).alloc (.cells p.cs 80)))
     replace X4:=Aa (X4.mono ((Aj.refl wr).alloc (.cells p.cs 80)))
     replace HR1:=Aa (Ee hb1 HR1 ((Aj.refl wr).alloc (.cells p.cs 80)))
     replace hb1:b1<(wr.alloc (.cells p.cs 80)).heap.size:=Kk hb1 ((Aj.refl wr).alloc (.cells p.cs 80)).size
     generalize wr.heap.size=z at *
     generalize wr.alloc (.cells p.cs 80)=w3 at *
     have Ga:=(H.blk 0 rfl).Am 0
     have GA:=fun u:Over w3=>Over.cell Ga u
     refine Al ?_
     (try simp only [Act.put,LP])
     repeat (first
      |((with_reducible show wpQuiet _ _ _ _ (⟨some 36,_,_,_,_,_⟩::_) _);refine Af (by first|rfl|go_simp) Dl (.tmp 35) rfl b1 (o1+k * 2) rfl D.cs rfl hb1 HR1.Ab ?_;simp only [Act.put,LP])
      |((with_reducible show wpQuiet _ _ _ _ (⟨some 37,_,_,_,_,_⟩::_) _);refine Af (by first|rfl|go_simp) Ea (.tmp 7) rfl _ (0) rfl _ rfl (H.blk 2 rfl).lt (H.blk 2 rfl).range ?_;simp only [Act.put,LP])
      |go_big_quiet_step (((go_at_call 27;rename_i u;exact Be (bM D p _ (aF.mono u.Au) (X4.mono u.Au) hps)))))
     refine CX ?_
     rintro w5 ⟨⟨_,FP⟩,rfl⟩
     (try dsimp only)
     replace H:=Aa (H.Au FP)
     clear GA Ga
     obtain ⟨w2,hw2⟩:∃ w2,w2=w5:=⟨_,rfl⟩
     subst hw2
     replace aF:=Aa (aF.mono FP)
     replace HR1:=Aa (Ee hb1 HR1 FP)
     replace hb1:=Kk hb1 FP.size
     clear FP X4 HR2
     by_cases hf:AO D.Ac p.Ac=0
     ·rw [hf]
      obtain ⟨pf,pt,lo,hi,⟨A3,n3,c3,set⟩,g,pb⟩:=p
      simp only [Pk.cs,Pk.Ac] at *
      have Ga:=(H.blk 0 rfl).Am 0
      have TZ:=(H.blk 2 rfl).Am 5
      have NJ:=(H.blk 2 rfl).Am 6
      have hq:=HR1.Ab 1 _ rfl
      cases g with
      |true=>
       cases hh:decide (0≤pb∧pb<(D.tr.n:Int)) with
       |true=>
        have hh2:=LK hh
        have e1:decide (pb<0)=false:=by simp<;>omega
        have e2:decide ((D.tr.n:Int)≤pb)=false:=by simp<;>omega
        have HN:Hid (Bl ⟨ds.map Dm.Ac,ms⟩ (ps.map Pk.Ac)=Cn ((ds.map Dm.Ac).drop (k+1)) ((ps.map Pk.Ac).drop (k+1))):=by
         have hpe:CB D.Ac ⟨pf,pt,lo,hi,set,true,pb⟩=0:=by unfold CB Wn;have h9:=hDl.Ab;have:=LK hh;rw [Ah (by rw [hf];omega),Ah (by simp only [Cq];simp;omega)]
         show _=_
         rw [HB.Ab,Jf.Ab,hpe,Ah (by omega)]
        clear HB Jf hf
        go_upto_region 13 with fail
        have GA:=fun u:Over w2=>Over.cell Ga u
        have Jd:=fun u:Over w2=>Over.cell TZ u
        have JV:=fun u:Over w2=>Over.cell NJ u
        have Zw:=fun u:Over w2=>Over.cell hq u
        refine Al ?_
        (try simp only [Act.put,LP])
        repeat (go_big_quiet_step (fail))
        refine CX ?_
        rintro w5 ⟨⟨_,FP⟩,rfl⟩
        (try dsimp only)
        replace H:=Aa (H.Au FP)
        clear GA Jd JV Zw Ga TZ NJ hq
        replace H:=Aa (H.Gh [0,1] (by decide) (by simp));(try simp only [LS] at H)
        go_wp2
        go_roundg (m - (k+1))
        case rel=>exact ⟨k+1,rfl,by omega,by go_num,H,HN⟩
        case measure=>rw [Cg.Ab];omega
       |false=>
        have hh2:=UH hh
        have HN:Hid (Bl ⟨ds.map Dm.Ac,ms⟩ (ps.map Pk.Ac)=2):=by
         have hpe:CB D.Ac ⟨pf,pt,lo,hi,set,true,pb⟩=2:=by unfold CB Wn;have h9:=hDl.Ab;have:=UH hh;rw [Ah (by rw [hf];omega),Ak (Or.inl ⟨rfl,by simp only [Cq];simp;omega⟩)]
         show _=_
         rw [HB.Ab,Jf.Ab,hpe,Ak (by omega)]
        clear HB Jf hf
        by_cases hb0:pb<0
        ·have e1:decide (pb<0)=true:=by simpa using hb0
         go_upto_region 13 with fail
         have GA:=fun u:Over w2=>Over.cell Ga u
         have Jd:=fun u:Over w2=>Over.cell TZ u
         have JV:=fun u:Over w2=>Over.cell NJ u
         have Zw:=fun u:Over w2=>Over.cell hq u
         refine Al ?_
         (try simp only [Act.put,LP])
         repeat (go_big_quiet_step (fail))
         refine CX ?_
         rintro w5 ⟨⟨_,FP⟩,rfl⟩
         (try dsimp only)
         replace H:=Aa (H.Au FP)
         clear GA Jd JV Zw Ga TZ NJ hq
         go_wp2
         go_ret
         rw [HN.Ab]
         exact ⟨rfl,H.to⟩
        ·have e1:decide (pb<0)=false:=by simpa using hb0
         have e2:decide ((D.tr.n:Int)≤pb)=true:=by simp<;>omega
         go_upto_region 13 with fail
         have GA:=fun u:Over w2=>Over.cell Ga u
         have Jd:=fun u:Over w2=>Over.cell TZ u
         have JV:=fun u:Over w2=>Over.cell NJ u
         have Zw:=fun u:Over w2=>Over.cell hq u
         refine Al ?_
         (try simp only [Act.put,LP])
         repeat (go_big_quiet_step (fail))
         refine CX ?_
         rintro w5 ⟨⟨_,FP⟩,rfl⟩
         (try dsimp only)
         replace H:=Aa (H.Au FP)
         clear GA Jd JV Zw Ga TZ NJ hq
         go_wp2
         go_ret
         rw [HN.Ab]
         exact ⟨rfl,H.to⟩
      |false=>
       by_cases hb:pb=0
       ·have HN:Hid (Bl ⟨ds.map Dm.Ac,ms⟩ (ps.map Pk.Ac)=Cn ((ds.map Dm.Ac).drop (k+1)) ((ps.map Pk.Ac).drop (k+1))):=by
         have hpe:CB D.Ac ⟨pf,pt,lo,hi,set,false,pb⟩=0:=by unfold CB Wn;have h9:=hDl.Ab;rw [Ah (by rw [hf];omega),Ah (by simp [hb])]
         show _=_
         rw [HB.Ab,Jf.Ab,hpe,Ah (by omega)]
        subst hb
        clear HB Jf hf
        go_upto_region 13 with fail
        have GA:=fun u:Over w2=>Over.cell Ga u
        have Jd:=fun u:Over w2=>Over.cell TZ u
        have JV:=fun u:Over w2=>Over.cell NJ u
        have Zw:=fun u:Over w2=>Over.cell hq u
        refine Al ?_
        (try simp only [Act.put,LP])
        repeat (go_big_quiet_step (fail))
        refine CX ?_
        rintro w5 ⟨⟨_,FP⟩,rfl⟩
        (try dsimp only)
        replace H:=Aa (H.Au FP)
        clear GA Jd JV Zw Ga TZ NJ hq
        replace H:=Aa (H.Gh [0,1] (by decide) (by simp));(try simp only [LS] at H)
        go_wp2
        go_roundg (m - (k+1))
        case rel=>exact ⟨k+1,rfl,by omega,by go_num,H,HN⟩
        case measure=>rw [Cg.Ab];omega
       ·have HN:Hid (Bl ⟨ds.map Dm.Ac,ms⟩ (ps.map Pk.Ac)=2):=by
         have hpe:CB D.Ac ⟨pf,pt,lo,hi,set,false,pb⟩=2:=by unfold CB Wn;have h9:=hDl.Ab;rw [Ah (by rw [hf];omega),Ak (Or.inr ⟨rfl,hb⟩)]
         show _=_
         rw [HB.Ab,Jf.Ab,hpe,Ak (by omega)]
        have z1:(pb !=0)=true:=by simpa using hb
        have z2:(pb==0)=false:=by simpa using hb
        clear HB Jf hf
        go_upto_region 13 with fail
        have GA:=fun u:Over w2=>Over.cell Ga u
        have Jd:=fun u:Over w2=>Over.cell TZ u
        have JV:=fun u:Over w2=>Over.cell NJ u
        have Zw:=fun u:Over w2=>Over.cell hq u
        refine Al ?_
        (try simp only [Act.put,LP])
        repeat (go_big_quiet_step (fail))
        refine CX ?_
        rintro w5 ⟨⟨_,FP⟩,rfl⟩
        (try dsimp only)
        replace H:=Aa (H.Au FP)
        clear GA Jd JV Zw Ga TZ NJ hq
        go_wp2
        go_ret
        rw [HN.Ab]
        exact ⟨rfl,H.to⟩
     ·have HN:Hid (Bl ⟨ds.map Dm.Ac,ms⟩ (ps.map Pk.Ac)=AO D.Ac p.Ac):=by
       have hpe:CB D.Ac p.Ac=AO D.Ac p.Ac:=by unfold CB;rw [Ak hf]
       show _=_
       rw [HB.Ab,Jf.Ab,hpe,Ak hf]
      have z1:(AO D.Ac p.Ac !=0)=true:=by simpa using hf
      have z2:(AO D.Ac p.Ac==0)=false:=by simpa using hf
      clear HB Jf hf
      go_wp2
      go_ret
      rw [HN.Ab]
      exact ⟨rfl,H.to⟩
    ·have HN:Hid (Bl ⟨ds.map Dm.Ac,ms⟩ (ps.map Pk.Ac)=0):=by
      show _=_;rw [HB.Ab,EY (by have:=hl1.Ab;simp only [Cq] at this ⊢;omega)];(try rfl)
     clear HB
     go_wp2
     go_ret
     rw [HN.Ab]
     exact ⟨rfl,H.to⟩
  ·have HN:Hid (Bl ⟨ds.map Dm.Ac,ms⟩ (ps.map Pk.Ac)=2):=by show _=_;rw [Kw.Ab,Ak (by have:=hl1.Ab;have:=hl2.Ab;simp only [Cq] at this ⊢;omega)]
   have g1:((m:Int) !=(n:Int))=true:=by simp<;>omega
   have g2:(m !=n)=true:=by simp<;>omega
   clear hE Kw
   go_wp2
   go_ret
   rw [HN.Ab]
   exact ⟨rfl,H.to⟩
 ·have HN:Hid (Bl ⟨ds.map Dm.Ac,ms⟩ (ps.map Pk.Ac)=Ap ⟨ds.map Dm.Ac,ms⟩):=by show _=_;unfold Bl;rw [Ak hE]
  have z1:(Ap ⟨ds.map Dm.Ac,ms⟩ !=0)=true:=by simpa using hE
  have z2:(Ap ⟨ds.map Dm.Ac,ms⟩==0)=false:=by simpa using hE
  clear hE
  go_wp2
  go_ret
  rw [HN.Ab]
  exact ⟨rfl,H.to⟩
end Go.Proofs.YtijplolmkcdflaaGreat
namespace Go.Proofs.YtijplolmkcdflaaGreat
open Go.RowKit
theorem V5.mono {α:Type} {s:List UInt8} {p:List UInt8→PR α} {t k t' k':Int} {x:α} (h:V5 s p t k t' k' x) (h0:k'=0):k=0:=by
 rcases h with ⟨h1,_,h2⟩|⟨h1,_⟩
 ·omega
 ·exact h1
theorem V5.st {α:Type} {s:List UInt8} {p:List UInt8→PR α} {t k t' k':Int} {x:α} (h:V5 s p t k t' k' x):k'≠0∨(k'=0∧∃ tn:Nat,t'=tn∧tn≤s.length):=by
 rcases h with ⟨h1,_,h2⟩|⟨h1,tn,_,_,h⟩
 ·exact .inl (by omega)
 ·rcases h with ⟨h,_⟩|⟨h,tm,h2,h3,_⟩
  ·exact .inl h
  ·exact .inr ⟨h,tm,h2,h3⟩
theorem V5.bind {α β:Type} {s:List UInt8} {p:List UInt8→PR α} {q:List UInt8→PR β} {r:List UInt8→PR β} {t k t1 k1 t2 k2:Int} {x:α} {y:β} (h:V5 s p t k t1 k1 x) (h2:V5 s q t1 k1 t2 k2 y)
 (he:∀ l e,p l=.error e→r l=.error e) (ho:∀ l l',p l=.ok (x,l')→r l=q l'):V5 s r t k t2 k2 y:=by
 rcases h with ⟨a1,rfl,rfl⟩|⟨rfl,tn,rfl,htn,h⟩
 ·rcases h2 with ⟨_,rfl,rfl⟩|⟨b1,_⟩
  ·exact .inl ⟨a1,rfl,rfl⟩
  ·exact absurd b1 a1
 ·refine .inr ⟨rfl,tn,rfl,htn,?_⟩
  rcases h with ⟨a1,a2⟩|⟨rfl,tm,rfl,htm,a2⟩
  ·rcases h2 with ⟨_,rfl,rfl⟩|⟨b1,_⟩
   ·exact .inl ⟨a1,he _ _ a2⟩
   ·exact absurd b1 a1
  ·rcases h2 with ⟨b1,_⟩|⟨_,tm2,b2,_,h2⟩
   ·exact absurd rfl b1
   ·obtain rfl:tm2=tm:=by omega
    rw [ho _ _ a2]
    exact h2
theorem xG {ts:List (List UInt8)}:∀ (was:List UInt8),(∀ t ∈ ts,t.length≤16)→(JM was ts).length≤34 * ts.length:=by
 induction ts with
 |nil=>intro was _;exact BZ 0
 |cons a r ih=>
  intro was h
  have h1:=ih a (fun t ht=>h t (EO _ ht))
  have h2:=h a (Dr ..)
  have h3:=Bp (alike was a)
  have h4:=Bp (a.drop (alike was a)).length
  rw [JM]
  unfold Cc
  simp only [BQ,CZ,IA] at *
  omega
theorem oF {ts:List (List UInt8)} (h:BH ts=0):(MS ts).length≤9+34 * ts.length:=by
 have h1:=xG (ts:=ts) [] (fun t ht=>Gv h ht)
 have h2:=Bp ts.length
 unfold MS
 rw [BQ]
 omega
theorem Rs {l:List UInt8} {m:Nat} (h:l.length≤m):(Cc l).length≤9+m:=by
 have:=Bp l.length
 unfold Cc
 rw [BQ]
 omega
structure pY (p:PC):Prop where
 f:p.f=0∨(p.f=1∧p.lo.length≤16∧p.hi.length≤16)∨(p.f=2∧BH p.set=0∧p.set.length≤200)
 b:0≤p.MN∧p.MN≤1000000
 t:0≤p.t∧p.t≤1000000
theorem nI.put {d:DC} {p:PC} (hd:Ba d=0) (h:nI d p):pY p:=by
 obtain ⟨_,d1,d2,_⟩:=Ej hd
 refine ⟨?_,?_,?_⟩
 ·rcases h.f with h|h|h
  ·exact .inl h.1
  ·exact .inr (.inl ⟨h.1,h.2.2.1,h.2.2.2.1⟩)
  ·obtain ⟨h1,_,_,h2,_,tr,h3,h4⟩:=h
   obtain ⟨a,ha⟩:=Pn (FR (Ej hd).2.2.2) (CE h3)
   have h5:=(Du ha).2.2.1
   have h6:=N8 h2 h4
   exact .inr (.inr ⟨h1,h2,by omega⟩)
 ·rcases h.b with h|h<;>omega
 ·rcases h.f with h|h|h
  ·omega
  ·omega
  ·obtain ⟨h1,_,_,h2,h7,tr,h3,h4⟩:=h
   have:=(Ca.1 h3).1
   omega
theorem WL {s:SC} {q:List PC} (h:Bl s q=0):∀ p ∈ q,pY p:=fun p hp=>by
 obtain ⟨h1,h2,h3⟩:=Em h
 obtain ⟨k,hk⟩:=List.getElem?_of_mem hp
 have hk1:=(Ca.1 hk).1
 obtain ⟨d,hd⟩:∃ d,s.DF[k]?=some d:=⟨_,Ep (by omega)⟩
 exact (Ja (Oo h3 h2 k d p hd hk)).put ((BA h1).2.2.1 d (CE hd))
theorem VF {p:PC} (h:pY p):(Dv p).length≤7000:=by
 have h1:=Bp p.f.toNat
 have h2:=Bp p.t.toNat
 have h3:=Bp (if p.g=true then p.MN.toNat+1 else 0)
 unfold Dv
 simp only [BQ]
 rcases h.f with h|⟨h,h4,h5⟩|⟨h,h4,h5⟩
 ·rw [Ah (by omega),Ah (by omega)]
  simp only [KM]
  omega
 ·have h6:=Rs h4
  have h7:=Rs h5
  rw [Ak h]
  simp only [BQ]
  omega
 ·have h6:=oF h4
  rw [Ah (by omega),Ak h]
  simp only [BQ]
  omega
end Go.Proofs.YtijplolmkcdflaaGreat
namespace Go.Proofs.YtijplolmkcdflaaGreat
open Tryz
open Go.RowKit
theorem bT (q:Qr) (w:World) (hq:q.rd w) (hp:∀ p ∈ q.Ac,pY p) (hn16:q.ps.n≤16):
 Calls prog 11 #[.agg q.cs] w fun e w'=>e=.returned (.string ⟨(Tf q.Ac).toArray⟩)∧Aj w w':=by
 have hlen:Hid (q.ps.l.length=q.ps.n):=Row.rd.len hq
 have HQ:=Aa (show q.ps.rd w from hq)
 have HOk:=Aa hp
 have H:=Aa ((SL.start No w).alloc q.cs 29)
 (try simp only [LS] at H)
 obtain ⟨⟨A,n,c,ps⟩⟩:=q
 simp only [Qr.cs,Qr.Ac] at *
 clear hq hp
 go_enter func11,ntmps11
 have Ga:=(H.blk 0 rfl).Am 0
 go_wp2_with fail
 clear Ga
 generalize w.heap.size=y at *
 generalize World.alloc _ _=w0 at *
 have HL:Hid (([]:List UInt8)=((ps.map Pk.Ac).take 0).flatMap Dv):=rfl
 go_loopg [3,9] n (fun gg o i wr=>∃ (k:Nat) (l:List UInt8),gg=n - k∧k≤n∧i=.int .i64 k∧o=.string ⟨l.toArray⟩∧l.length≤7000 * k∧Hid (SL No w wr [Av y 29 #[.slice A n c]])∧Hid (l=((ps.map Pk.Ac).take k).flatMap Dv))
 case atStart=>exact ⟨0,[],rfl,by omega,rfl,rfl,Bw _,H,HL⟩
 case round=>
  clear H HL
  obtain ⟨k,l,BG,hk,rfl,rfl,hll,H,HL⟩:=hrel
  have Cg:=Aa BG
  clear BG
  by_cases hlt:k<n
  ·obtain ⟨bb,oo,p,hA,hbb,hpk,hpr,hrg⟩:=(HQ.mono H.to).rW (k:=k) hlt
   simp only at hA
   subst hA
   have hpc:(ps.map Pk.Ac)[k]?=some p.Ac:=by rw [DD,hpk];(try rfl)
   have hok:=HOk p.Ac (CE hpc)
   have HPL:Hid ((Dv p.Ac).length≤7000):=VF hok
   have HN:Hid (l++Dv p.Ac=((ps.map Pk.Ac).take (k+1)).flatMap Dv):=by show _=_;rw [Ci hpc,FD,←HL.Ab];simp
   have HR:=Aa hrg
   have HP:=Aa hpr.set
   have hsl:Hid (p.set.l.length=p.set.n):=hpr.set.len
   clear hpk hpr hrg hpc hbb HL
   obtain ⟨pf,pt,lo,hi,⟨A3,n3,c3,set⟩,g,pb⟩:=p
   obtain ⟨hf,⟨hb0,hb1⟩,⟨ht0,ht1⟩⟩:=hok
   simp only [Pk.cs,Pk.Ac] at *
   have hq1:=Bp pt.toNat
   have hq3:=Bp (pb.toNat+1)
   have hq4:=Bp 0
   have hb2:AP (pb+1):=by unfold AP;omega
   have wpb:IntKind.i64.wrap (pb+1)=pb+1:=Kj _ (by omega)
   go_wp2_with (first|((with_reducible refine OP 12 ?_);(refine Ae rfl Ea (.tmp 11) rfl bb (oo+k * 7) rfl #[.int .i64 pf,.int .i64 pt,.string ⟨lo.toArray⟩,.string ⟨hi.toArray⟩,.slice A3 n3 c3,.bool g,.int .i64 pb] rfl HR.Ab ?_))|((with_reducible refine OS 5 ?_);(refine Fu Ea (#[.int .i64 pf,.int .i64 pt,.string ⟨lo.toArray⟩,.string ⟨hi.toArray⟩,.slice A3 n3 c3,.bool g,.int .i64 pb]) (by simp [Value.oneCell']) ?_;replace H:=Aa (H.alloc (#[.int .i64 pf,.int .i64 pt,.string ⟨lo.toArray⟩,.string ⟨hi.toArray⟩,.slice A3 n3 c3,.bool g,.int .i64 pb]) 80);(try simp only [LS] at H);have Ga:=(H.blk 1 rfl).Am 0)))
   have HB0:=Aa ((Aj.refl wr).alloc (.cells #[.int .i64 pf,.int .i64 pt,.string ⟨lo.toArray⟩,.string ⟨hi.toArray⟩,.slice A3 n3 c3,.bool g,.int .i64 pb] 80))
   replace HP:=Aa (HP.mono HB0.Ab)
   clear HB0
   generalize wr.heap.size=z at *
   generalize World.alloc wr _=w8 at *
   rcases hf with rfl|⟨rfl,hlo,hhi⟩|⟨rfl,hr,hn⟩
   ·refine (BU 0 _ (by omega) (by omega)).mono ?_;rintro e w2 ⟨rfl,hb2'⟩
    replace H:=Aa (H.Au hb2');(try simp only [LS] at H)
    rw [show (0:Int).toNat=0 from rfl]
    clear hb2' Ga
    have Ga:=(H.blk 1 rfl).Am 0
    have NJ:=(H.blk 1 rfl).Am 5
    have aC:=(H.blk 1 rfl).Am 6
    cases g with
    |true=>
     go_wp2_with fail
     refine (BU (pb+1) _ (by omega) (by omega)).mono ?_;rintro e w9 ⟨rfl,MM⟩
     rw [show (pb+1).toNat=pb.toNat+1 by omega]
     replace H:=Aa (H.Au MM)
     clear MM
     replace H:=Aa (H.Gh [0] (by decide) (by simp));(try simp only [LS] at H)
     go_wp2
     go_roundg (n - (k+1))
     case rel=>
      refine ⟨k+1,_,rfl,by omega,by go_num,by simp only [Cs];(try rfl),?_,H,?_⟩
      ·have h9:=HPL.Ab;unfold Dv at h9;simp at h9 ⊢;omega
      ·show _=_;rw [←HN.Ab];unfold Dv;simp
     case measure=>rw [Cg.Ab];omega
    |false=>
     go_wp2_with fail
     refine (BU 0 _ (by omega) (by omega)).mono ?_;rintro e w9 ⟨rfl,MM⟩
     replace H:=Aa (H.Au MM)
     clear MM
     replace H:=Aa (H.Gh [0] (by decide) (by simp));(try simp only [LS] at H)
     go_wp2
     go_roundg (n - (k+1))
     case rel=>
      refine ⟨k+1,_,rfl,by omega,by go_num,by simp only [Cs];(try rfl),?_,H,?_⟩
      ·have h9:=HPL.Ab;unfold Dv at h9;simp at h9 ⊢;omega
      ·show _=_;rw [←HN.Ab];unfold Dv;simp
     case measure=>rw [Cg.Ab];omega
   ·have hp1:=Rs hlo
    have hp2:=Rs hhi
    have hq5:=Bp 1
    refine (BU 1 _ (by omega) (by omega)).mono ?_;rintro e w2 ⟨rfl,hb2'⟩
    replace H:=Aa (H.Au hb2');(try simp only [LS] at H)
    rw [show (1:Int).toNat=1 from rfl]
    clear hb2' Ga
    have Ga:=(H.blk 1 rfl).Am 0
    have RU:=(H.blk 1 rfl).Am 1
    go_wp2_with fail
    refine (BU pt _ (by omega) (by omega)).mono ?_;rintro e w3 ⟨rfl,hb3⟩
    replace H:=Aa (H.Au hb3)
    clear hb3 Ga RU
    have Ga:=(H.blk 1 rfl).Am 0
    have TZ:=(H.blk 1 rfl).Am 2
    have cc3:=(H.blk 1 rfl).Am 3
    go_upto_region 9 with fail
    have Jd:=fun u:Over w3=>Over.cell TZ u
    have Ae5:=fun u:Over w3=>Over.cell cc3 u
    refine Al ?_
    (try simp only [Act.put,LP])
    repeat (go_big_quiet_step (((go_at_call 30;rename_i u;exact Be (GI _ _ (by omega))))))
    refine CX ?_
    rintro w5 ⟨⟨_,FP⟩,rfl⟩
    (try dsimp only)
    replace H:=Aa (H.Au FP)
    clear Jd Ae5 TZ cc3
    clear Ga
    have Ga:=(H.blk 1 rfl).Am 0
    have NJ:=(H.blk 1 rfl).Am 5
    have aC:=(H.blk 1 rfl).Am 6
    cases g with
    |true=>
     go_wp2_with fail
     refine (BU (pb+1) _ (by omega) (by omega)).mono ?_;rintro e w9 ⟨rfl,MM⟩
     rw [show (pb+1).toNat=pb.toNat+1 by omega]
     replace H:=Aa (H.Au MM)
     clear MM
     replace H:=Aa (H.Gh [0] (by decide) (by simp));(try simp only [LS] at H)
     go_wp2
     go_roundg (n - (k+1))
     case rel=>
      refine ⟨k+1,_,rfl,by omega,by go_num,by simp only [Cs];(try rfl),?_,H,?_⟩
      ·have h9:=HPL.Ab;unfold Dv at h9;simp at h9 ⊢;omega
      ·show _=_;rw [←HN.Ab];unfold Dv;simp
     case measure=>rw [Cg.Ab];omega
    |false=>
     go_wp2_with fail
     refine (BU 0 _ (by omega) (by omega)).mono ?_;rintro e w9 ⟨rfl,MM⟩
     replace H:=Aa (H.Au MM)
     clear MM
     replace H:=Aa (H.Gh [0] (by decide) (by simp));(try simp only [LS] at H)
     go_wp2
     go_roundg (n - (k+1))
     case rel=>
      refine ⟨k+1,_,rfl,by omega,by go_num,by simp only [Cs];(try rfl),?_,H,?_⟩
      ·have h9:=HPL.Ab;unfold Dv at h9;simp at h9 ⊢;omega
      ·show _=_;rw [←HN.Ab];unfold Dv;simp
     case measure=>rw [Cg.Ab];omega
   ·have hp1:=oF hr
    have hq5:=Bp 2
    have hsn:=hsl.Ab
    refine (BU 2 _ (by omega) (by omega)).mono ?_;rintro e w2 ⟨rfl,hb2'⟩
    replace H:=Aa (H.Au hb2');(try simp only [LS] at H)
    replace HP:=Aa (HP.mono hb2')
    rw [show (2:Int).toNat=2 from rfl]
    clear hb2' Ga
    have Ga:=(H.blk 1 rfl).Am 0
    have RU:=(H.blk 1 rfl).Am 1
    go_wp2_with fail
    refine (BU pt _ (by omega) (by omega)).mono ?_;rintro e w3 ⟨rfl,hb3⟩
    replace H:=Aa (H.Au hb3)
    replace HP:=Aa (HP.mono hb3)
    clear hb3 Ga RU
    have Ga:=(H.blk 1 rfl).Am 0
    have cc4:=(H.blk 1 rfl).Am 4
    go_wp2_with fail
    refine (XU A3 n3 c3 set _ HP.texts hr (by omega)).mono ?_;rintro e w4 ⟨rfl,hb4⟩
    replace H:=Aa (H.Au hb4)
    clear hb4 Ga cc4
    have NJ:=(H.blk 1 rfl).Am 5
    have aC:=(H.blk 1 rfl).Am 6
    cases g with
    |true=>
     go_wp2_with fail
     refine (BU (pb+1) _ (by omega) (by omega)).mono ?_;rintro e w9 ⟨rfl,MM⟩
     rw [show (pb+1).toNat=pb.toNat+1 by omega]
     replace H:=Aa (H.Au MM)
     clear MM
     replace H:=Aa (H.Gh [0] (by decide) (by simp));(try simp only [LS] at H)
     go_wp2
     go_roundg (n - (k+1))
     case rel=>
      refine ⟨k+1,_,rfl,by omega,by go_num,by simp only [Cs];(try rfl),?_,H,?_⟩
      ·have h9:=HPL.Ab;unfold Dv at h9;simp at h9 ⊢;omega
      ·show _=_;rw [←HN.Ab];unfold Dv;simp
     case measure=>rw [Cg.Ab];omega
    |false=>
     go_wp2_with fail
     refine (BU 0 _ (by omega) (by omega)).mono ?_;rintro e w9 ⟨rfl,MM⟩
     replace H:=Aa (H.Au MM)
     clear MM
     replace H:=Aa (H.Gh [0] (by decide) (by simp));(try simp only [LS] at H)
     go_wp2
     go_roundg (n - (k+1))
     case rel=>
      refine ⟨k+1,_,rfl,by omega,by go_num,by simp only [Cs];(try rfl),?_,H,?_⟩
      ·have h9:=HPL.Ab;unfold Dv at h9;simp at h9 ⊢;omega
      ·show _=_;rw [←HN.Ab];unfold Dv;simp
     case measure=>rw [Cg.Ab];omega
  ·have HN:Hid (l=Tf (ps.map Pk.Ac)):=by
    show _=_
    rw [HL.Ab,DY (by have:=hlen.Ab;simp;omega)]
    rfl
   clear HL
   go_wp2
   go_ret
   rw [←HN.Ab]
   exact ⟨rfl,H.to⟩
end Go.Proofs.YtijplolmkcdflaaGreat
namespace Go.Proofs.YtijplolmkcdflaaGreat
open Go.RowKit
section
variable {P : Program}
end
abbrev Pk.nil:Pk:=⟨0,0,[],[],⟨none,0,0,[]⟩,false,0⟩
section
variable {P : Program} {w : World}
end
structure pR where
 t:Int
 tk:Row Int
 io:Row Int
abbrev pR.cs (x:pR):Array Value:=#[.int .i64 x.t,.slice x.tk.A x.tk.n x.tk.c,.slice x.io.A x.io.n x.io.c]
structure pR.rd (w:World) (x:pR):Prop where
 t:AP x.t
 tk:x.tk.rd w
 io:x.io.rd w
 tb:x.tk.n≤140737488351232
 ib:x.io.n≤140737488351232
theorem pR.rd.mono {w w':World} {x:pR} (h:x.rd w) (hb:Aj w w'):x.rd w':=⟨h.t,h.tk.mono hb,h.io.mono hb,h.tb,h.ib⟩
instance Ab2:Ar pR where
 size:=3
 bytes:=56
 cells x:=x.cs.toList
 ok w x:=x.rd w
 len _:=rfl
 pos:=by omega
 mono hb h:=h.mono hb
structure SnC where
 t:Int
 tk:List Int
 io:List Int
deriving DecidableEq
abbrev pR.Ac (x:pR):SnC:=⟨x.t,x.tk.l,x.io.l⟩
structure H7 (x:pR) (w:World):Prop where
 t:AP x.t
 tk:w.ownsRow 0 3 1 (.slice x.tk.A x.tk.n x.tk.c) x.tk.n (x.tk.l.map (Value.int .i64))
 io:w.ownsRow 0 3 1 (.slice x.io.A x.io.n x.io.c) x.io.n (x.io.l.map (Value.int .i64))
 tl:∀ v ∈ x.tk.l,AP v
 il:∀ v ∈ x.io.l,AP v
 tn:x.tk.n≤1000000
 inn:x.io.n≤1000000
def pR.D (x:pR) (g:Nat):Prop:=x.tk.v.ownBlock=some g∨x.io.v.ownBlock=some g
theorem H7.rd {x:pR} {w:World} (h:H7 x w):pR.rd w x:=
 ⟨h.t,⟨by have:=Rd.Bf h.tk;rw [EX];exact this,fun t ht=>h.tl t ht,by have:=h.tn;omega⟩,⟨by have:=Rd.Bf h.io;rw [EX];exact this,fun t ht=>h.il t ht,by have:=h.inn;omega⟩,by have:=h.tn;omega,by have:=h.inn;omega⟩
def iY (p:PC):Int:=if p.f≠0∧p.g=true then min p.t p.MN else if p.f≠0 then p.t else if p.g=true then p.MN else -1
end Go.Proofs.YtijplolmkcdflaaGreat
namespace Go.Proofs.YtijplolmkcdflaaGreat
open Tryz
open Go.RowKit
def Ch:List DC→List PC→List Int→List (List UInt8)→Except Int (List (List UInt8))
 |d::ds,p::ps,ks,acc=>
  if p.g=true then
   match d.AB[p.MN.toNat]? with
   |none=>.error 13
   |some tr=>
    match ks with
    |[]=>.error 13
    |k::ks=>if k<0 then .error 13 else match tr.ts[k.toNat]? with|none=>.error 13|some t=>Ch ds ps ks (acc++[t])
  else Ch ds ps ks acc
 |_,_,[],acc=>.ok acc
 |_,_,_::_,_=>.error 2
def Dx (s:SC) (q:List PC) (ks:List Int):Except Int (List (List UInt8)):=if Bl s q≠0 then .error (Bl s q) else Ch s.DF q ks []
theorem VP {ds:List DC} {ps:List PC} {k:Nat} {d:DC} {p:PC} {ks:List Int} {acc:List (List UInt8)} (hd:ds[k]?=some d) (hp:ps[k]?=some p) (hg:p.g=false):Ch (ds.drop k) (ps.drop k) ks acc=Ch (ds.drop (k+1)) (ps.drop (k+1)) ks acc:=by
 obtain ⟨h1,rfl⟩:=Ca.1 hd
 obtain ⟨h2,rfl⟩:=Ca.1 hp
 rw [DZ h1,DZ h2,Ch,Ah (by rw [hg];simp)]
theorem VO {ds:List DC} {ps:List PC} {k:Nat} {d:DC} {p:PC} {tr:TC} {ks:List Int} {acc:List (List UInt8)} (hd:ds[k]?=some d) (hp:ps[k]?=some p) (hg:p.g=true) (ht:d.AB[p.MN.toNat]?=some tr):
 Ch (ds.drop k) (ps.drop k) ks acc=(match ks with|[]=>.error 13|k'::ks=>if k'<0 then .error 13 else match tr.ts[k'.toNat]? with|none=>.error 13|some t=>Ch (ds.drop (k+1)) (ps.drop (k+1)) ks (acc++[t])):=by
 obtain ⟨h1,rfl⟩:=Ca.1 hd
 obtain ⟨h2,rfl⟩:=Ca.1 hp
 rw [DZ h1,DZ h2,Ch,Ak hg,ht]
theorem Xp {ks:List Int} {acc:List (List UInt8)}:Ch [] [] ks acc=(match ks with|[]=>.ok acc|_::_=>.error 2):=by cases ks<;>rfl
def wE (o:Except Int (List (List UInt8))) (w:World) (e:Ending) (w':World):Prop:=
 match o with
 |.error k=>e=.returned (.tuple #[.slice none 0 0,.int .i64 k])∧Aj w w'
 |.ok ts=>∃ (A:Option Addr) (c:Nat),e=.returned (.tuple #[.slice A ts.length c,.int .i64 0])∧Aj w w'∧w'.ownsRow w.heap.size 9 1 (.slice A ts.length c) ts.length (ts.map tx)
theorem Row.rd.tail {w:World} {b o n c:Nat} {l:List Int} (h:Row.rd w ⟨some ⟨b,o,none⟩,n,c,l⟩) (h1:1≤n) (hc:n≤c):Row.rd w ⟨some ⟨b,o+1,none⟩,n - 1,c - 1,l.drop 1⟩:=by
 have hr:=h.r.drop (k:=1) (cap:=c) h1 hc
 have hl:l.length=n:=h.len
 have h63:n≤_:=h.n63
 refine ⟨?_,fun a ha=>h.all a (QX ha),by show n - 1≤_;omega⟩
 by_cases hc1:c=1
 ·obtain rfl:n=1:=by omega
  show Rd w 1 _ 0 ((l.drop 1).flatMap Ar.cells)
  rw [EY (by omega)]
  exact Rd.nil
 ·rw [Ah hc1] at hr
  show Rd w 1 _ (n - 1) ((l.drop 1).flatMap Ar.cells)
  rw [EX,List.map_drop]
  simp only at hr
  rw [EX] at hr
  exact hr
theorem mG {α:Type} {l:List α} {j:Nat} {x:α} (h:l[j]?=some x):l.drop j=x::l.drop (j+1):=by
 obtain ⟨h1,rfl⟩:=Ca.1 h
 exact DZ h1
theorem sZ (s:Ev) (q:Qr) (x:Row Int) (w:World) (hs:s.rd w) (hq:q.rd w) (hx:x.rd w) (KD:x.n≤x.c) (hn:s.dm.n≤1000000) (hm:s.ms.n≤1000000) (hd:∀ d ∈ s.dm.l,d.tr.n≤1000000∧∀ t ∈ d.tr.l,t.up.n≤100000) (hp:∀ p ∈ q.ps.l,p.set.n≤100000):
 Calls prog 65 #[.agg s.cs,.agg q.cs,.slice x.A x.n x.c] w (wE (Dx s.Ac q.Ac x.l) w):=by
 have HC:=Aa (fun w' (hb:Aj w w')=>Sa s q w' (hs.mono hb) (Row.rd.mono hq hb) hn hm hd hp)
 have hl1:Hid (s.dm.l.length=s.dm.n):=hs.dm.len
 have hl2:Hid (q.ps.l.length=q.ps.n):=Row.rd.len hq
 have HD:=Aa hs.dm
 have HQ:=Aa (show q.ps.rd w from hq)
 have m63:q.ps.n≤9223372036854775807:=hq.n63
 have H:=Aa (((SL.start No w).alloc s.cs 25).alloc q.cs 29)
 (try simp only [LS] at H)
 have HKR0:Hid (Row.rd w ⟨x.A,x.n,x.c,x.l.drop 0⟩):=by rw [Y5];exact hx
 obtain ⟨⟨DA,dn,dc,ds⟩,⟨MA,mn,mc,ms⟩⟩:=s
 obtain ⟨⟨A,n,c,ps⟩⟩:=q
 obtain ⟨XA,xn,xc,keys⟩:=x
 simp only [Ev.cs,Qr.cs,Ev.Ac,Qr.Ac] at *
 clear hs hq hd hp hx
 go_enter func65,ntmps65
 go_wp2_with (first|((with_reducible refine OP 13 ?_);(refine Cx BL (H.blk 0 rfl) ?_))|((with_reducible refine OP 14 ?_);(refine Cx FH (H.blk 1 rfl) ?_)))
 refine (HC _ H.to).mono ?_;rintro e w1 ⟨rfl,hb1⟩
 replace H:=Aa (H.Au hb1)
 clear hb1 HC
 by_cases hE:Bl ⟨ds.map Dm.Ac,ms⟩ (ps.map Pk.Ac)=0
 ·obtain ⟨e1,e2,e3⟩:=Em hE
  have e4:=(BA e1).2.1
  have HPO:=Aa (fun k d p h1 h2=>Ja (Oo e3 e2 k d p h1 h2))
  have hdn:dn=n:=by have:=hl1.Ab;have:=hl2.Ab;simp only [Cq] at e2 e4;omega
  have hn16:n≤16:=by have:=hl2.Ab;simp only [Cq] at e2 e4;omega
  have HN0:Hid (Dx ⟨ds.map Dm.Ac,ms⟩ (ps.map Pk.Ac) keys=Ch ((ds.map Dm.Ac).drop 0) ((ps.map Pk.Ac).drop 0) (keys.drop 0) []):=by show _=_;unfold Dx;rw [Ah (by omega)];(try rfl)
  rw [hE]
  subst hdn
  clear hE e1 e2 e3 e4
  have Ga:=(H.blk 1 rfl).Am 0
  go_wp2_with fail
  clear Ga
  replace H:=Aa (H.ES 9 1);(try simp only [LS] at H)
  generalize w.heap.size+1=y at *
  generalize w.heap.size=x at *
  obtain ⟨KA,hKA⟩:∃ KA,KA=XA:=⟨_,rfl⟩
  obtain ⟨kn,hkn⟩:∃ kn,kn=xn:=⟨_,rfl⟩
  obtain ⟨kc,hkc⟩:∃ kc,kc=xc:=⟨_,rfl⟩
  rw [←hKA,←hkn,←hkc] at HKR0
  rw [←hkn,←hkc] at KD
  go_loopg [9,2,22] dn (fun gg s9 s2 i wr=>∃ (k:Nat) (acc:List (List UInt8)) (j:Nat) (B:Option Addr) (cB:Nat) (KA:Option Addr) (kn kc jj:Nat),gg=dn - k∧k≤dn∧i=.int .i64 k∧s9=.slice B j cB∧s2=.slice KA kn kc∧Hid (acc.length=j)∧Hid (SL No w wr [Av x 25 #[.slice DA dn dc,.slice MA mn mc],Av y 29 #[.slice A dn c],Cb 9 1 (.slice B j cB) j (acc.map tx)])∧Hid (Dx ⟨ds.map Dm.Ac,ms⟩ (ps.map Pk.Ac) keys=Ch ((ds.map Dm.Ac).drop k) ((ps.map Pk.Ac).drop k) (keys.drop jj) acc)∧Hid (Row.rd w ⟨KA,kn,kc,keys.drop jj⟩)∧j≤k∧kn≤kc)
  case atStart=>exact ⟨0,[],0,none,0,KA,kn,kc,0,rfl,by omega,rfl,rfl,by rw [hKA,hkn,hkc],rfl,H,HN0,HKR0,BZ _,KD⟩
  case round=>
   clear H HN0 HKR0 KD hKA hkn hkc KA kn kc
   obtain ⟨k,acc,j,B,cB,KA,kn,kc,jj,BG,hk,rfl,rfl,rfl,hac,H,HN,HKR,hjk,hkc⟩:=hrel
   have Cg:=Aa BG
   clear BG
   have kl:Hid ((keys.drop jj).length=kn):=HKR.len
   have k63:=HKR.n63
   by_cases hlt:k<dn
   ·obtain ⟨b1,o1,D,hA,hb1,UC,IJ,hrg1⟩:=(HD.mono H.to).Ta (k:=k) hlt
    simp only at hA
    subst hA
    obtain ⟨b2,o2,p,hB,hb2,hpk,hpr,hrg2⟩:=(HQ.mono H.to).rW (k:=k) hlt
    simp only at hB
    subst hB
    have Gg:(ds.map Dm.Ac)[k]?=some D.Ac:=by rw [DD,UC];(try rfl)
    have hpc:(ps.map Pk.Ac)[k]?=some p.Ac:=by rw [DD,hpk];(try rfl)
    have HPk:=Aa (HPO k D.Ac p.Ac Gg hpc)
    have wI:=Aa Gg
    have HPC:=Aa hpc
    have HR1:=Aa (fun w' (hb:Aj wr w')=>Ee hb1 hrg1 hb)
    have aF:=Aa (fun w' (hb:Aj wr w')=>IJ.tr.mono hb)
    have HDl:Hid (D.tr.l.length=D.tr.n):=IJ.tr.len
    have HR2:=Aa hrg2
    have i0:(0:Int)≤k:=by omega
    have i1:(k:Int)<dn:=by omega
    have D63:=IJ.tr.n63
    clear UC hpk hrg1 hrg2 IJ hpr hb1 hb2 Gg hpc
    obtain ⟨pf,pt,lo,hi,⟨A3,n3,c3,set⟩,g,pb⟩:=p
    simp only [Pk.cs,Pk.Ac] at *
    go_upto_region 8 with (first|((with_reducible refine OP 26 ?_);(refine Ae rfl Ea (.tmp 25) rfl b2 (o2+k * 7) rfl #[.int .i64 pf,.int .i64 pt,.string ⟨lo.toArray⟩,.string ⟨hi.toArray⟩,.slice A3 n3 c3,.bool g,.int .i64 pb] rfl HR2.Ab ?_))|((with_reducible refine OS 11 ?_);(refine Fu Ea (#[.int .i64 pf,.int .i64 pt,.string ⟨lo.toArray⟩,.string ⟨hi.toArray⟩,.slice A3 n3 c3,.bool g,.int .i64 pb]) (by simp [Value.oneCell']) ?_;replace H:=Aa (H.alloc (#[.int .i64 pf,.int .i64 pt,.string ⟨lo.toArray⟩,.string ⟨hi.toArray⟩,.slice A3 n3 c3,.bool g,.int .i64 pb]) 80);(try simp only [LS] at H))))
    (try simp only [Act.put,LP])
    have HB:=Aa ((Aj.refl wr).alloc (.cells #[.int .i64 pf,.int .i64 pt,.string ⟨lo.toArray⟩,.string ⟨hi.toArray⟩,.slice A3 n3 c3,.bool g,.int .i64 pb] 80))
    clear HR2
    generalize wr.heap.size=z at *
    generalize World.alloc wr _=w5 at *
    have cp5:=(H.blk 3 rfl).Am 5
    cases g with
    |false=>
     have Il:Hid (Dx ⟨ds.map Dm.Ac,ms⟩ (ps.map Pk.Ac) keys=Ch ((ds.map Dm.Ac).drop (k+1)) ((ps.map Pk.Ac).drop (k+1)) (keys.drop jj) acc):=by show _=_;rw [HN.Ab,VP wI HPC rfl]
     replace H:=Aa (H.Gh [0,1,2] (by decide) (by simp));(try simp only [LS] at H)
     clear HN HPk wI HPC
     go_wp2_with fail
     go_roundg (dn - (k+1))
     case rel=>exact ⟨k+1,acc,j,B,cB,KA,kn,kc,jj,rfl,by omega,by go_num,rfl,rfl,hac,H,Il,HKR,by omega,hkc⟩
     case measure=>rw [Cg.Ab];omega
    |true=>
     obtain ⟨pb,rfl⟩:∃ b:Nat,pb=b:=⟨pb.toNat,by have hPb:=HPk.b;simp only at hPb;rcases hPb with h|h;omega;cases h.1⟩
     have hbn:pb<D.tr.n:=by
      have:=HDl.Ab
      rcases HPk.b with h|h
      ·have h2:=h.2.2;simp only [Cq] at h2;omega
      ·cases h.1
     have q1:=HR1 w5 HB.Ab 1 _ rfl
     obtain ⟨b4,o4,Tr,Zq,hbb4,wO,hTr,j3⟩:=(aF w5 HB.Ab).JN (k:=pb) hbn
     rw [Zq] at q1
     have q2:=j3 1 _ rfl
     have htrc:D.Ac.AB[(pb:Int).toNat]?=some Tr.Ac:=by rw [Da];show (D.tr.l.map Bg.Ac)[pb]?=_;rw [DD,wO];(try rfl)
     have Xb:=Aa (HN.trans (VO wI HPC rfl htrc))
     have gQ:=Aa hTr.ts
     have htl:Hid (Tr.ts.l.length=Tr.ts.n):=hTr.ts.len
     have T63:=hTr.ts.n63
     have j0:(0:Int)≤pb:=by omega
     have j1:(pb:Int)<D.tr.n:=by omega
     have cs0:=(H.blk 0 rfl).Am 0
     have cp6:=(H.blk 3 rfl).Am 6
     clear wO hTr j3 htrc HN HPk wI HPC aF HR1 hbb4 Zq
     go_upto_region 9 with fail
     have Ae3:=fun u:Over w5=>Over.cell cs0 u
     have Ae4:=fun u:Over w5=>Over.cell cp6 u
     have f_q1:=fun u:Over w5=>Over.cell q1 u
     have f_q2:=fun u:Over w5=>Over.cell q2 u
     refine Al ?_
     (try simp only [Act.put,LP])
     repeat (go_big_quiet_step (fail))
     refine CX ?_
     rintro w5 ⟨⟨_,FP⟩,rfl⟩
     (try dsimp only)
     replace H:=Aa (H.Au FP)
     clear Ae3 Ae4 f_q1 f_q2 cs0 cp6 q1 q2
     replace gQ:=Aa (gQ.mono FP)
     clear FP HB
     by_cases hk0:kn=0
     ·have hnil:keys.drop jj=[]:=Km (by rw [kl.Ab];exact hk0)
      subst hk0
      have Il:Hid (Dx ⟨ds.map Dm.Ac,ms⟩ (ps.map Pk.Ac) keys=.error 13):=by show _=_;rw [Xb.Ab];rw [hnil]
      go_wp2
      go_ret2
      rw [Il.Ab]
      exact ⟨rfl,H.to⟩
     ·obtain ⟨b6,o6,kz,hA6,hkz,hkI,q6⟩:=(HKR.mono H.to).PZ (k:=0) (by show 0<kn;omega)
      simp only at hA6 hkz
      subst hA6
      simp only [Jk] at q6
      have z1:((kn:Int)==0)=false:=by simp<;>omega
      have z2:(kn==0)=false:=by simp<;>omega
      have z3:(0:Int)<kn:=by omega
      have z4:0<kn:=by omega
      have z5:1≤kn:=by omega
      have z6:(1:Int)≤kn:=by omega
      have z7:(kn:Int)≤kc:=by omega
      have z8:(1:Int)≤kc:=by omega
      have z9:1≤kc:=by omega
      have hkd:keys.drop jj=kz::keys.drop (jj+1):=by
       rw [KN,Jk] at hkz
       exact mG hkz
      rw [hkd] at Xb
      by_cases hz0:kz<0
      ·have d1:decide (kz<0)=true:=by simpa using hz0
       have Il:Hid (Dx ⟨ds.map Dm.Ac,ms⟩ (ps.map Pk.Ac) keys=.error 13):=by show _=_;rw [Xb.Ab];simp only;rw [Ak hz0]
       go_wp2
       go_ret2
       rw [Il.Ab]
       exact ⟨rfl,H.to⟩
      ·have d1:decide (kz<0)=false:=by simpa using hz0
       obtain ⟨kv,rfl⟩:∃ b:Nat,kz=b:=⟨kz.toNat,by omega⟩
       by_cases hzn:kv<Tr.ts.n
       ·have d2:decide ((Tr.ts.n:Int)≤kv)=false:=by simp<;>omega
        have d3:decide (Tr.ts.n≤kv)=false:=by simp<;>omega
        obtain ⟨b7,o7,nm,hA7,hnk,hnl,q7⟩:=gQ.FE (k:=kv) hzn
        have HN:Hid (Dx ⟨ds.map Dm.Ac,ms⟩ (ps.map Pk.Ac) keys=Ch ((ds.map Dm.Ac).drop (k+1)) ((ps.map Pk.Ac).drop (k+1)) (keys.drop (jj+1)) (acc++[nm])):=by
         show _=_;rw [Xb.Ab];simp only;rw [Ah hz0,Da,show (Tr.Ac).ts[kv]?=some nm from hnk]
        have i2:(0:Int)≤kv:=by omega
        have i3:(kv:Int)<Tr.ts.n:=by omega
        rw [hA7]
        by_cases hk1:kc=1
        ·obtain rfl:kn=1:=by omega
         subst hk1
         have HKR2:Hid (Row.rd w ⟨some ⟨b6,o6,none⟩,0,0,keys.drop (jj+1)⟩):=by
          have hnil:keys.drop (jj+1)=[]:=by
           have h:=kl.Ab
           rw [IA] at h
           exact EY (by omega)
          rw [hnil]
          exact ⟨Rd.nil,(fun a ha=>by cases ha),by show (0:Nat)≤_;omega⟩
         clear hnk Xb hkd hkz hA7
         go_upto_region 12 with fail
         refine EG (S:=fun _=>True) (by kernel_rfl) trivial fun hHeld=>?_
         replace H:=Aa (H.drew)
         refine BJ NG ?_
         refine BJ KG ?_
         refine BJ NW ?_
         refine BJ Qb ?_
         refine BJ KF ?_
         refine BJ Jj ?_
         refine BD Mr fun KK Ad=>?_
         go_simp
         refine Ai Ad trivial fun hHeld=>?_
         clear Ad KK
         refine BD Lv fun KK Ad=>?_
         go_simp
         refine Ai Ad trivial fun hHeld=>?_
         clear Ad KK
         refine BD Mq fun KK Ad=>?_
         go_simp
         refine Ai Ad trivial fun hHeld=>?_
         clear Ad KK
         refine BD LX fun KK Ad=>?_
         refine Bu rfl JC (.tmp 64) rfl (.string ⟨nm.toArray⟩) rfl #[.string ⟨nm.toArray⟩] rfl rfl (by omega) ?_
         replace H:=Aa (H.alloc #[.string ⟨nm.toArray⟩] 9);(try simp only [LS] at H)
         refine Ai Ad trivial fun hHeld=>?_
         clear Ad KK
         refine BD Px fun KK Ad=>?_
         refine Aw rfl (.tmp 58) (.tmp 65) _ rfl JC 0 (Bw _) _ j _ rfl (H.row 2 rfl) _ 1 1 _ rfl (AQ (H.blk 4 rfl) rfl) (by simp [Value.oneCell']) (by unfold maxLen;omega) (by omega) ?_
         intro vq wq AR Ay Bb
         replace H:=Aa (H.setRow 2 rfl Ay AR Bb);(try simp only [LS] at H)
         clear AR Ay Bb
         obtain ⟨A9,c9,rfl,_⟩:=Ao (H.row 2 rfl)
         refine Ai Ad trivial fun hHeld=>?_
         clear Ad KK
         refine BD IL fun KK Ad=>?_
         go_simp
         refine Ai Ad trivial fun hHeld=>?_
         clear Ad KK
         refine BD Ji fun KK Ad=>?_
         go_simp
         refine Ai Ad trivial fun hHeld=>?_
         clear Ad KK
         refine BX ?_
         clear hHeld
         replace H:=Aa (H.Gh [0,1,2] (by decide) (by simp));(try simp only [LS] at H)
         go_wp2_with fail
         go_roundg (dn - (k+1))
         case rel=>exact ⟨k+1,acc++[nm],j+1,A9,c9,_,_,_,_,rfl,by omega,by go_num,rfl,rfl,by show _=_;rw [BQ,hac.Ab];(try rfl),by rw [BR];exact H,HN,HKR2,by omega⟩
         case measure=>rw [Cg.Ab];omega
        ·have HKR2:Hid (Row.rd w ⟨some ⟨b6,o6+1,none⟩,kn - 1,kc - 1,keys.drop (jj+1)⟩):=by have h:=HKR.tail z5 hkc;rw [Qj] at h;exact h
         have y1:¬ kc - 1=0:=by omega
         have y2:(kc - 1==0)=false:=by simp<;>omega
         have y3:((kc:Int) - 1==0)=false:=by simp<;>omega
         have y4:¬ (kc:Int) - 1=0:=by omega
         have y5:¬ (kc:Int)=1:=by omega
         clear hnk Xb hkd hkz hA7
         go_upto_region 12 with fail
         refine EG (S:=fun _=>True) (by kernel_rfl) trivial fun hHeld=>?_
         replace H:=Aa (H.drew)
         refine BJ NG ?_
         refine BJ KG ?_
         refine BJ NW ?_
         refine BJ Qb ?_
         refine BJ KF ?_
         refine BJ Jj ?_
         refine BD Mr fun KK Ad=>?_
         go_simp
         refine Ai Ad trivial fun hHeld=>?_
         clear Ad KK
         refine BD Lv fun KK Ad=>?_
         go_simp
         refine Ai Ad trivial fun hHeld=>?_
         clear Ad KK
         refine BD Mq fun KK Ad=>?_
         go_simp
         refine Ai Ad trivial fun hHeld=>?_
         clear Ad KK
         refine BD LX fun KK Ad=>?_
         refine Bu rfl JC (.tmp 64) rfl (.string ⟨nm.toArray⟩) rfl #[.string ⟨nm.toArray⟩] rfl rfl (by omega) ?_
         replace H:=Aa (H.alloc #[.string ⟨nm.toArray⟩] 9);(try simp only [LS] at H)
         refine Ai Ad trivial fun hHeld=>?_
         clear Ad KK
         refine BD Px fun KK Ad=>?_
         refine Aw rfl (.tmp 58) (.tmp 65) _ rfl JC 0 (Bw _) _ j _ rfl (H.row 2 rfl) _ 1 1 _ rfl (AQ (H.blk 4 rfl) rfl) (by simp [Value.oneCell']) (by unfold maxLen;omega) (by omega) ?_
         intro vq wq AR Ay Bb
         replace H:=Aa (H.setRow 2 rfl Ay AR Bb);(try simp only [LS] at H)
         clear AR Ay Bb
         obtain ⟨A9,c9,rfl,_⟩:=Ao (H.row 2 rfl)
         refine Ai Ad trivial fun hHeld=>?_
         clear Ad KK
         refine BD IL fun KK Ad=>?_
         go_simp
         refine Ai Ad trivial fun hHeld=>?_
         clear Ad KK
         refine BD Ji fun KK Ad=>?_
         go_simp
         refine Ai Ad trivial fun hHeld=>?_
         clear Ad KK
         refine BX ?_
         clear hHeld
         replace H:=Aa (H.Gh [0,1,2] (by decide) (by simp));(try simp only [LS] at H)
         go_wp2_with fail
         go_roundg (dn - (k+1))
         case rel=>exact ⟨k+1,acc++[nm],j+1,A9,c9,_,_,_,_,rfl,by omega,by go_num,rfl,rfl,by show _=_;rw [BQ,hac.Ab];(try rfl),by rw [BR];exact H,HN,HKR2,by omega⟩
         case measure=>rw [Cg.Ab];omega
       ·have d2:decide ((Tr.ts.n:Int)≤kv)=true:=by simp<;>omega
        have d3:decide (Tr.ts.n≤kv)=true:=by simp<;>omega
        have Il:Hid (Dx ⟨ds.map Dm.Ac,ms⟩ (ps.map Pk.Ac) keys=.error 13):=by show _=_;rw [Xb.Ab];simp only;rw [Ah hz0,Da,show (Tr.Ac).ts[kv]?=none from Gt (by rw [htl.Ab];omega)]
        go_wp2
        go_ret2
        rw [Il.Ab]
        exact ⟨rfl,H.to⟩
   ·have Xb:Hid (Dx ⟨ds.map Dm.Ac,ms⟩ (ps.map Pk.Ac) keys=(match keys.drop jj with|[]=>.ok acc|_::_=>.error 2)):=by
     show _=_
     rw [HN.Ab,EY (by have:=hl1.Ab;simp;omega),EY (by have:=hl2.Ab;simp;omega),Xp]
    by_cases hk0:kn=0
    ·have hnil:keys.drop jj=[]:=Km (by rw [kl.Ab];exact hk0)
     have Il:Hid (Dx ⟨ds.map Dm.Ac,ms⟩ (ps.map Pk.Ac) keys=.ok acc):=by show _=_;rw [Xb.Ab,hnil]
     have hjl:acc.length=j:=hac.Ab
     subst hk0
     clear HN Xb
     go_wp2
     go_ret2
     rw [Il.Ab]
     refine ⟨B,cB,?_,H.to,?_⟩
     ·rw [hjl];(try rfl)
     ·rw [hjl];exact H.yF 2 rfl
    ·have z3:decide ((0:Int)<kn)=true:=by simp<;>omega
     have z4:decide (0<kn)=true:=by simp<;>omega
     have Il:Hid (Dx ⟨ds.map Dm.Ac,ms⟩ (ps.map Pk.Ac) keys=.error 2):=by
      show _=_;rw [Xb.Ab]
      cases hd:keys.drop jj with
      |nil=>exact absurd (by rw [←kl.Ab,hd];(try rfl)) hk0
      |cons a r=>rfl
     clear HN Xb
     go_wp2
     go_ret2
     rw [Il.Ab]
     exact ⟨rfl,H.to⟩
 ·have HN:Hid (Dx ⟨ds.map Dm.Ac,ms⟩ (ps.map Pk.Ac) keys=.error (Bl ⟨ds.map Dm.Ac,ms⟩ (ps.map Pk.Ac))):=by show _=_;unfold Dx;rw [Ak hE]
  have z1:(Bl ⟨ds.map Dm.Ac,ms⟩ (ps.map Pk.Ac) !=0)=true:=by simpa using hE
  have z2:(Bl ⟨ds.map Dm.Ac,ms⟩ (ps.map Pk.Ac)==0)=false:=by simpa using hE
  clear hE
  go_wp2
  go_ret2
  rw [HN.Ab]
  exact ⟨rfl,H.to⟩
end Go.Proofs.YtijplolmkcdflaaGreat
namespace Go.Proofs.YtijplolmkcdflaaGreat
open Go.RowKit
structure MC where
 cat:CC
 rows:List BS
 has:Bool
 closed:Bool
def MC.nil:MC:=⟨CC.nil,[],false,false⟩
def RG (d:DC) (p:PC) (key:Int):Bool:=Ox p (((d.AB[p.t.toNat]?).bind fun t=>t.ts[(De d.AB 0 p.t key).toNat]?).getD [])
def Eh:List DC→List PC→List Int→Option (List Int)
 |d::ds,p::ps,k::ks=>if RG d p k=true then (Eh ds ps ks).map fun l=>if p.g=true then De d.AB 0 p.MN k::l else l else none
 |_,_,_=>some []
def CW (s:SC) (q:List PC) (l:List BS):List BS:=l.filterMap fun f=>(Eh s.DF q f.1).map fun ks=>(ks,f.2)
def QH (s:SC) (q:List PC) (ks:List Int):List (List UInt8):=match Dx s q ks with|.ok l=>l|.error _=>[]
def Jm (l:List BS):List BS:=(NI (AZ l)).getD []
def QI (s:SC) (q:List PC) (l:List BS):List (List (List UInt8) × Ag):=l.map fun f=>(QH s q f.1,f.2)
def pJ (s:SC) (q:List PC) (l:List BS):aG:=if 500<l.length then ⟨6,[],[]⟩ else ⟨0,QI s q l,[]⟩
def Mj (s:MC) (b:List UInt8):aG:=
 if (DR s.cat.sc b).2≠0 then ⟨(DR s.cat.sc b).2,[],[]⟩
 else pJ s.cat.sc (DR s.cat.sc b).1 (Jm (CW s.cat.sc (DR s.cat.sc b).1 s.rows))
def Fv (s:MC) (b:List UInt8):MC × Int:=
 if (Dn s.cat.sc b).2≠0 then (s,(Dn s.cat.sc b).2)
 else if (BO s.cat ((Dn s.cat.sc b).1.map (·.vs))).2≠0 then (s,(BO s.cat ((Dn s.cat.sc b).1.map (·.vs))).2)
 else (⟨(BO s.cat ((Dn s.cat.sc b).1.map (·.vs))).1,s.rows++(Dn s.cat.sc b).1.map (Gz s.cat.sc),s.has,s.closed⟩,0)
def Ij (s:MC) (b:List UInt8):MC × Int:=
 if s.has=true then (s,11)
 else if (Ff b).2≠0 then (s,(Ff b).2)
 else (⟨⟨(Ff b).1,0,0,0,0,0,0,0⟩,s.rows,true,s.closed⟩,0)
def Eu (s:MC) (c:NS):MC × aG:=
 if s.closed=true then (s,⟨17,[],[]⟩)
 else if c.kind<1∨7<c.kind then (s,⟨2,[],[]⟩)
 else if c.kind=1 then ((Ij s c.data).1,⟨(Ij s c.data).2,[],[]⟩)
 else if (c.kind=4∨c.kind=6∨c.kind=7)∧c.data≠[] then (s,⟨2,[],[]⟩)
 else if c.kind=7 then (⟨s.cat,s.rows,s.has,true⟩,⟨0,[],[]⟩)
 else if s.has=false then (s,⟨10,[],[]⟩)
 else if c.kind=2∨c.kind=3 then ((Fv s c.data).1,⟨(Fv s c.data).2,[],[]⟩)
 else if c.kind=5 then (s,Mj s c.data)
 else if c.kind=6 then (s,⟨0,[],[s.cat.fa,((Jm s.rows).length:Int)]⟩)
 else (s,⟨0,[],[]⟩)
def Ih (g:Ag→Int):List BS→Int
 |[]=>0
 |f::l=>max (g f.2) 0+Ih g l
def Ii (g:Ag→Int):List BS→Int
 |[]=>0
 |f::l=>min (g f.2) 0+Ii g l
theorem VC (g:Ag→Int) (l m:List BS):Ih g (l++m)=Ih g l+Ih g m∧Ii g (l++m)=Ii g l+Ii g m:=by
 induction l with
 |nil=>simp [Ih,Ii]
 |cons f l ih=>rw [IQ,Ih,Ih,Ii,Ii,ih.1,ih.2];omega
theorem Ya (g:Ag→Int) {l m:List BS} (h:l.Perm m):Ih g l=Ih g m∧Ii g l=Ii g m:=by
 induction h with
 |nil=>exact ⟨rfl,rfl⟩
 |cons x _ ih=>simp only [Ih,Ii,ih.1,ih.2,and_self]
 |swap x y l=>simp only [Ih,Ii];omega
 |trans _ _ ih1 ih2=>exact ⟨ih1.1.trans ih2.1,ih1.2.trans ih2.2⟩
theorem Ux (g:Ag→Int) (l:List BS):0≤Ih g l∧Ii g l≤0:=by
 induction l with
 |nil=>simp [Ih,Ii]
 |cons f l ih=>rw [Ih,Ii];omega
theorem jB (g:Ag→Int) (hg:∀ a b,g (Xa a b)=g a+g b) (k:List Int) (l:List BS):∀ a,Eb k l=some a→Ii g l≤g a∧g a≤Ih g l:=by
 induction l with
 |nil=>intro a h;cases h
 |cons f l ih=>
  intro a h
  have hn:=Ux g l
  rw [Eb] at h
  rw [Ih,Ii]
  split at h
  ·cases hs:Eb k l with
   |none=>rw [hs] at h;simp only at h;injection h with h;subst h;omega
   |some b=>
    rw [hs] at h
    simp only at h
    injection h with h
    subst h
    have:=ih b hs
    rw [hg]
    omega
  ·have:=ih a h
   omega
theorem xJ (k:List Int) (l:List BS) (hl:∀ f ∈ l,1≤f.2.c):∀ a,Eb k l=some a→1≤a.c:=by
 induction l with
 |nil=>intro a h;cases h
 |cons f l ih=>
  intro a h
  have hf:=hl f Dr
  have ih':=ih fun x hx=>hl x (EO _ hx)
  rw [Eb] at h
  split at h
  ·cases hs:Eb k l with
   |none=>rw [hs] at h;simp only at h;injection h with h;subst h;exact hf
   |some b=>
    rw [hs] at h
    simp only at h
    injection h with h
    subst h
    have:=ih' b hs
    show 1≤f.2.c+b.c
    omega
  ·exact ih' a h
def Nr (g:Ag→Int) (l:List BS):Prop:=AP (Ih g l)∧AP (Ii g l)
structure Pz (l:List BS):Prop where
 one:∀ f ∈ l,1≤f.2.c
 c:Nr (fun a=>a.c) l
 p:Nr (fun a=>a.p.s) l
 q:Nr (fun a=>a.q.s) l
 r:Nr (fun a=>a.r.s) l
theorem Nr.perm {g:Ag→Int} {l m:List BS} (h:l.Perm m) (hf:Nr g m):Nr g l:=by unfold Nr;rw [(Ya g h).1,(Ya g h).2];exact hf
theorem Pz.perm {l m:List BS} (h:l.Perm m) (hf:Pz m):Pz l:=⟨fun f hx=>hf.one f (h.mem_iff.1 hx),hf.c.perm h,hf.p.perm h,hf.q.perm h,hf.r.perm h⟩
theorem Nr.left {g:Ag→Int} {l m:List BS} (hf:Nr g (l++m)):Nr g l:=by
 obtain ⟨h1,h2⟩:=hf
 rw [(VC g l m).1] at h1
 rw [(VC g l m).2] at h2
 have a:=Ux g l
 have b:=Ux g m
 unfold Nr AP at *
 omega
theorem Pz.left {l m:List BS} (hf:Pz (l++m)):Pz l:=⟨fun f hx=>hf.one f (List.mem_append_left _ hx),hf.c.left,hf.p.left,hf.q.left,hf.r.left⟩
theorem Nr.sum {g:Ag→Int} (hg:∀ a b,g (Xa a b)=g a+g b) {l:List BS} (hf:Nr g l) {k:List Int} {a:Ag} (h:Eb k l=some a):AP (g a):=by
 have:=jB g hg k l a h
 have a:=Ux g l
 unfold Nr AP at *
 omega
theorem uB {a b:Ag} (ha:1≤a.c) (hb:1≤b.c) (hc:AP (Xa a b).c) (hp:AP (Xa a b).p.s) (hq:AP (Xa a b).q.s) (hr:AP (Xa a b).r.s):a.join b=(Xa a b,true):=by
 unfold AP at *
 unfold Xa Uk at *
 simp only at hc hp hq hr
 unfold Ag.join
 rw [Ah (by omega),Ah (by omega),Jp hc,Jp hp,Jp hq,Jp hr,Ak ⟨rfl,rfl,rfl,rfl⟩]
 unfold NQ.join
 rw [Jp hp,Jp hq,Jp hr]
theorem XK {acc:List BS} {p:BS} (hr:WV (acc++[p])):Eb p.1 (acc++[p])=some p.2:=by
 have hn:Eb p.1 acc=none:=Ky fun x hx e=>by
  have h:=(UR.1 hr).2.2 x hx p (Dt.2 rfl)
  rw [e,Pj] at h
  omega
 rw [KR,hn]
 simp [Eb,sM]
theorem C8 (l:List BS):∀ acc m:List BS,WV acc→(∀ k,Eb k acc=Eb k m)→Pz (m++l)→Uh l→(∀ p,acc.getLast?=some p→∀ f ∈ l,CS f p=false)→
 ∃ r,Ew acc l=some r∧WV r∧∀ k,Eb k r=Eb k (m++l):=by
 induction l with
 |nil=>
  intro acc m hr hk _ _ _
  exact ⟨acc,rfl,hr,fun k=>by rw [EZ];exact hk k⟩
 |cons f l ih=>
  intro acc m hr hk hf hs hb
  have hsl:Uh l:=aU hs
  have hfl:∀ x ∈ l,CS x f=false:=fun x hx=>by
   obtain ⟨j,hj⟩:=Iz.1 hx
   exact hs 0 (j+1) f x (by omega) rfl (by rw [FW];exact hj)
  have em:m++f::l=(m++[f])++l:=by simp
  have hf2:Pz ((m++[f])++l):=em ▸ hf
  have app:(∀ p,acc.getLast?=some p→Cu p.1 f.1=-1)→∃ r,Ew (acc++[f]) l=some r∧WV r∧∀ k,Eb k r=Eb k (m++f::l):=by
   intro hp
   obtain ⟨r,h1,h2,h3⟩:=ih (acc++[f]) (m++[f]) (rF hr hp) (fun k=>by rw [KR,KR,hk]) hf2 hsl (fun p hp x hx=>by
    rw [List.getLast?_concat] at hp
    injection hp with hp;subst hp
    exact hfl x hx)
   exact ⟨r,h1,h2,fun k=>by rw [em];exact h3 k⟩
  cases hla:acc.getLast? with
  |none=>
   rw [Ew,Fp,hla]
   exact app fun p hp=>by rw [hla] at hp;cases hp
  |some p=>
   have hac:=VY hla
   by_cases he:Cu p.1 f.1=0
   ·have hpf:=Pm he
    have hs1:Eb p.1 (m++[f])=some (Xa p.2 f.2):=by
     rw [KR,←hk]
     conv=>lhs;rw [hac]
     rw [XK (by rw [←hac];exact hr)]
     simp [Eb,hpf.symm,sM]
    have hl1:=hf2.left
    have h1p:1≤p.2.c:=by
     have:Eb p.1 m=some p.2:=by rw [←hk,hac];exact XK (by rw [←hac];exact hr)
     exact xJ _ _ (fun x hx=>hl1.left.one x hx) _ this
    have hj:p.2.join f.2=(Xa p.2 f.2,true):=uB h1p (hl1.one f (List.mem_append_right _ (Dt.2 rfl)))
     (hl1.c.sum (fun _ _=>rfl) hs1) (hl1.p.sum (fun _ _=>rfl) hs1) (hl1.q.sum (fun _ _=>rfl) hs1) (hl1.r.sum (fun _ _=>rfl) hs1)
    rw [Ew,Fp,hla]
    simp only
    rw [Ak he,hj,Ak rfl]
    simp only
    obtain ⟨r,h1,h2,h3⟩:=ih (acc.dropLast++[(p.1,Xa p.2 f.2)]) (m++[f]) (by
     rw [hac] at hr
     unfold WV at hr ⊢
     rw [UR] at hr ⊢
     refine ⟨hr.1,List.pairwise_singleton _ _,fun a ha b hb=>?_⟩
     rw [Dt] at hb
     subst hb
     exact hr.2.2 a ha p (Dt.2 rfl)) (fun k=>by
     rw [KR (m:=[f]),←hk k]
     conv=>rhs;rw [hac]
     rw [KR,KR]
     by_cases hkk:p.1=k
     ·have hk2:f.1=k:=by rw [←hpf];exact hkk
      simp only [Eb,hkk,hk2,ER]
      cases Eb k acc.dropLast<;>simp [sM,Pp]
     ·have hk2:¬ f.1=k:=by rw [←hpf];exact hkk
      simp only [Eb,hkk,hk2,if_false]
      cases Eb k acc.dropLast<;>simp [sM]) hf2 hsl (fun q hq x hx=>by
     rw [List.getLast?_concat] at hq
     injection hq with hq;subst hq
     have:=hb p hla x (EO _ hx)
     exact this)
    exact ⟨r,h1,h2,fun k=>by rw [em];exact h3 k⟩
   ·rw [Ew,Fp,hla]
    simp only
    rw [Ah he]
    simp only
    refine app fun q hq=>?_
    rw [hla] at hq
    injection hq with hq;subst hq
    have h1:=hb p hla f (Dr ..)
    have r1:=FT p.1 f.1
    have s1:=ED p.1 f.1
    simp [CS,FY] at h1
    omega
theorem Pb {l:List BS} (hf:Pz l):∃ r,NI (AZ l)=some r∧WV r∧∀ k,Eb k r=Eb k l:=by
 have hp:=jE l
 obtain ⟨r,h1,h2,h3⟩:=C8 (AZ l) [] [] List.Pairwise.nil (fun _=>rfl) (by rw [Fy];exact hf.perm hp) (Rf l) (fun p hp=>by cases hp)
 exact ⟨r,h1,h2,fun k=>by rw [h3,Fy,XJ hp]⟩
theorem QO {l:List BS} (hf:Pz l):NI (AZ l)=some (Jm l):=by
 obtain ⟨r,h1,_⟩:=Pb hf
 unfold Jm
 rw [h1]
 rfl
theorem Wu {l m:List BS} (hf:Pz l) (h:m.Perm l):Jm m=Jm l:=by
 obtain ⟨r,h1,h2,h3⟩:=Pb hf
 obtain ⟨r',q1,q2,q3⟩:=Pb (hf.perm h)
 unfold Jm
 rw [h1,q1]
 show r'=r
 exact oI q2 h2 fun k=>by rw [q3,h3,XJ h]
theorem A8 {l r:List BS} (hf:Pz l) (h:NI (AZ l)=some r):∀ f ∈ r,∃ g ∈ l,g.1=f.1:=by
 obtain ⟨r',h1,h2,h3⟩:=Pb hf
 rw [h] at h1
 injection h1 with h1
 subst h1
 intro f hx
 refine Sv fun hn=>?_
 have h4:Eb f.1 l=none:=Ky fun g hg e=>hn ⟨g,hg,e⟩
 rw [←h3] at h4
 exact Ma hx rfl h4
def NL:List DC→List Int→Prop
 |d::ds,k::ks=>(0≤k∧k<(Ed d.AB 0:Int))∧NL ds ks
 |[],[]=>True
 |_,_=>False
theorem NL.len:∀ {ds:List DC} {ks:List Int},NL ds ks→ks.length=ds.length
 |[],[],_=>rfl
 |d::ds,k::ks,h=>by rw [CZ,CZ,h.2.len]
theorem NL.at_:∀ {ds:List DC} {ks:List Int},NL ds ks→∀ {i:Nat} {d k},ds[i]?=some d→ks[i]?=some k→0≤k∧k<(Ed d.AB 0:Int)
 |d::ds,k::ks,h,0,d',k',hd,hk=>by
  injection hd with hd;injection hk with hk;subst hd;subst hk;exact h.1
 |d::ds,k::ks,h,i+1,d',k',hd,hk=>by
  rw [FW] at hd hk
  exact h.2.at_ hd hk
 |[],[],_,i,d,k,hd,_=>by simp at hd
theorem Vu:∀ {ds:List DC} {ts:List (List UInt8)} {ks:List Int},ts.length=ds.length→Cz ds ts=.ok ks→NL ds ks
 |[],[],ks,_,h=>by simp only [Cz] at h;injection h with h;subst h;trivial
 |d::ds,t::ts,ks,hl,h=>by
  rw [Cz] at h
  cases ht:d.AB with
  |nil=>rw [ht] at h;cases h
  |cons tr l=>
   rw [ht] at h
   simp only at h
   cases hp:posOf t tr.ts with
   |none=>rw [hp] at h;cases h
   |some p=>
    rw [hp] at h
    simp only at h
    cases hr:Cz ds ts with
    |error e=>rw [hr] at h;cases h
    |ok rs=>
     rw [hr] at h
     simp only at h
     injection h with h
     subst h
     refine ⟨⟨by omega,?_⟩,Vu (by simpa using hl) hr⟩
     have:=Ru hp
     rw [ht]
     show (p:Int)<((tr.ts.length:Nat):Int)
     omega
 |[],t::ts,ks,hl,h=>by simp at hl
 |d::ds,[],ks,hl,h=>by simp at hl
theorem yE {s:SC} {r:RC} {ks:List Int} (h:rowOf s r=.ok ks):NL s.DF ks∧r.vs.length=s.ms.length:=by
 unfold rowOf at h
 split at h
 ·cases h
 ·rename_i hn
  have h1:r.ts.length=s.DF.length:=Sv fun e=>hn (.inl e)
  have h2:r.vs.length=s.ms.length:=Sv fun e=>hn (.inr e)
  exact ⟨Vu h1 h,h2⟩
theorem D8 {s:SC} {r:RC} {ks:List Int} (h:rowOf s r=.ok ks):Gz s r=(ks,Ag.of r.vs):=by unfold Gz;rw [h]
structure MInv (s:MC):Prop where
 no:s.has=false→s.cat=CC.nil∧s.rows=[]
 err:s.has=true→Cj s.cat=0
 ok:Pv s.cat
 fa:s.cat.fa=s.rows.length
 len:s.rows.length≤4000
 p0:s.cat.p0=Ih (fun a=>a.p.s) s.rows
 q0:s.cat.q0=Ii (fun a=>a.p.s) s.rows
 p1:s.cat.p1=Ih (fun a=>a.q.s) s.rows
 q1:s.cat.q1=Ii (fun a=>a.q.s) s.rows
 p2:s.cat.p2=Ih (fun a=>a.r.s) s.rows
 q2:s.cat.q2=Ii (fun a=>a.r.s) s.rows
 rows:∀ f ∈ s.rows,f.2.c=1∧NL s.cat.sc.DF f.1
theorem MInv.nil:MInv MC.nil:=⟨fun _=>⟨rfl,rfl⟩,fun h=>(by cases h),(by unfold Pv MC.nil CC.nil AP;simp),rfl,by simp [MC.nil],rfl,rfl,rfl,rfl,rfl,rfl,fun f hf=>by cases hf⟩
theorem yP {l:List BS} (h:∀ f ∈ l,f.2.c=1):Ih (fun a=>a.c) l=l.length∧Ii (fun a=>a.c) l=0:=by
 induction l with
 |nil=>exact ⟨rfl,rfl⟩
 |cons f l ih=>
  have h1:=h f Dr
  have h2:=ih fun x hx=>h x (EO _ hx)
  rw [Ih,Ii,h2.1,h2.2,h1,CZ]
  omega
theorem MInv.fit {s:MC} (h:MInv s):Pz s.rows:=by
 obtain ⟨o0,o1,o2,o3,o4,o5⟩:=h.ok
 have hc:=yP (fun f hf=>(h.rows f hf).1)
 refine ⟨fun f hf=>by rw [(h.rows f hf).1];exact Lj _,?_,⟨h.p0 ▸ o0,h.q0 ▸ o1⟩,⟨h.p1 ▸ o2,h.q1 ▸ o3⟩,⟨h.p2 ▸ o4,h.q2 ▸ o5⟩⟩
 unfold Nr
 rw [hc.1,hc.2]
 have:=h.len
 unfold AP
 omega
theorem uS (g:Ag→Int) (s:SC) (q:List PC) (l:List BS):0≤Ih g (CW s q l)∧Ih g (CW s q l)≤Ih g l∧Ii g (CW s q l)≤0∧Ii g l≤Ii g (CW s q l):=by
 induction l with
 |nil=>simp [CW,Ih,Ii]
 |cons f l ih=>
  unfold CW at ih ⊢
  rw [List.filterMap_cons]
  rw [Ih,Ii]
  cases hp:(Eh s.DF q f.1).map fun ks=>(ks,f.2) with
  |none=>simp only;omega
  |some y=>
   simp only
   have e:y.2=f.2:=by
    cases hk:Eh s.DF q f.1 with
    |none=>rw [hk] at hp;cases hp
    |some ks=>rw [hk] at hp;injection hp with hp;rw [←hp]
   rw [Ih,Ii,e]
   omega
theorem Wp {s:SC} {q:List PC} {l:List BS} {g:BS} (h:g ∈ CW s q l):∃ f ∈ l,Eh s.DF q f.1=some g.1∧g.2=f.2:=by
 unfold CW at h
 obtain ⟨f,hf,hg⟩:=List.mem_filterMap.1 h
 cases hk:Eh s.DF q f.1 with
 |none=>rw [hk] at hg;cases hg
 |some ks=>rw [hk] at hg;injection hg with hg;subst hg;exact ⟨f,hf,hk,rfl⟩
theorem QN {s:SC} {q:List PC} {l:List BS} (h:Pz l):Pz (CW s q l):=by
 have k:∀ g,Nr g l→Nr g (CW s q l):=fun g hg=>by
  have:=uS g s q l
  unfold Nr AP at *
  omega
 exact ⟨fun f hf=>by obtain ⟨x,hx,_,e⟩:=Wp hf;rw [e];exact h.one x hx,k _ h.c,k _ h.p,k _ h.q,k _ h.r⟩
theorem TL:∀ {ds:List DC} {ps:List PC} {ks l:List Int},(∀ d ∈ ds,Ic d.AB)→ps.length=ds.length→Cn ds ps=0→NL ds ks→Eh ds ps ks=some l→∀ acc,∃ ts,Ch ds ps l acc=.ok ts
 |[],[],[],l,_,_,_,_,h,acc=>by
  rw [Eh] at h
  ·injection h with h;subst h;exact ⟨acc,rfl⟩
  ·intros;contradiction
 |d::ds,p::ps,k::ks,l,hok,hl,hp,hk,h,acc=>by
  have hp1:CB d p=0:=by
   rw [Cn] at hp;split at hp;· (rename_i h1;exact absurd hp h1)
   ·rename_i h1;exact Ob.1 h1
  have hp2:Cn ds ps=0:=by rw [Cn,Ah (by simp [hp1])] at hp;exact hp
  rw [Eh] at h
  split at h
  ·cases hr:Eh ds ps ks with
   |none=>rw [hr] at h;cases h
   |some m=>
    rw [hr] at h
    simp only [Option.map_some] at h
    injection h with h
    subst h
    have ih:=TL (fun x hx=>hok x (EO _ hx)) (by simpa using hl) hp2 hk.2 hr
    have hb:=(Ja hp1).b
    cases hg:p.g with
    |false=>
     rw [Ch]
     rw [Ah (by simp [hg]),Ah (by simp [hg])]
     exact ih acc
    |true=>
     rcases hb with ⟨_,b0,b1⟩|⟨hx,_⟩
     ·have hA:=hok d Dr
      obtain ⟨⟨k0,k1⟩,_⟩:=hk
      obtain ⟨n,rfl⟩:∃ n:Nat,k=n:=⟨k.toNat,by omega⟩
      obtain ⟨b,hbb⟩:∃ n:Nat,p.MN=n:=⟨p.MN.toNat,by omega⟩
      have hlt:b<d.AB.length:=by omega
      have hlw:=Ow hA (f:=0) (t:=b) (i:=n) (by omega) hlt (by omega)
      rw [Ch]
      rw [Ak (by simp [hg]),Ak (by simp [hg]),hbb]
      have e1:d.AB[((b:Nat):Int).toNat]?=some d.AB[b]:=by rw [Da];exact Ep hlt
      rw [e1]
      simp only
      have e2:Ed d.AB b=d.AB[b].ts.length:=by unfold Ed;rw [Ep hlt]
      rw [e2] at hlw
      have hlw0:=hlw.2.1
      have hlw1:=hlw.2.2
      simp only [Int.natCast_zero] at hlw0 hlw1
      rw [Ah (show ¬ De d.AB 0 (b:Int) (n:Int)<0 by omega)]
      have hz:(De d.AB 0 (b:Int) (n:Int)).toNat<d.AB[b].ts.length:=by omega
      rw [Ep hz]
      exact ih _
     ·rw [hg] at hx;cases hx
  ·cases h
 |[],[],_::_,_,_,_,_,hk,_,_=>hk.elim
 |[],_::_,_,_,_,hl,_,_,_,_=>by simp at hl
 |_::_,[],_,_,_,hl,_,_,_,_=>by simp at hl
 |_::_,_::_,[],_,_,_,_,hk,_,_=>hk.elim
theorem Zh {s:SC} {q:List PC} {ks l:List Int} (hE:Bl s q=0) (hk:NL s.DF ks) (h:Eh s.DF q ks=some l):Dx s q l=.ok (QH s q l):=by
 obtain ⟨h1,h2,h3⟩:=Em hE
 have hA:∀ d ∈ s.DF,Ic d.AB:=fun d hd=>FR (Ej ((BA h1).2.2.1 d hd)).2.2.2
 obtain ⟨ts,ht⟩:=TL hA h2 h3 hk h []
 have:Dx s q l=.ok ts:=by unfold Dx;rw [Ah (by simp [hE])];exact ht
 unfold QH
 rw [this]
theorem Zr {s:MC} (hi:MInv s) {q:List PC} (hE:Bl s.cat.sc q=0):∀ f ∈ Jm (CW s.cat.sc q s.rows),Dx s.cat.sc q f.1=.ok (QH s.cat.sc q f.1):=fun f hf=>by
 have hfit:=QN (s:=s.cat.sc) (q:=q) hi.fit
 obtain ⟨g,hg,e⟩:=A8 hfit (QO hfit) f hf
 obtain ⟨x,hx,hp,_⟩:=Wp hg
 rw [←e]
 exact Zh hE (hi.rows x hx).2 hp
theorem RY {s:SC} {b:List UInt8} (h:(Dn s b).2=0):BF s (Dn s b).1=0:=by
 unfold Dn at h ⊢
 split at h
 ·rename_i h1;exact absurd h h1
 ·rename_i h1
  rw [Ah h1]
  cases hp:Qt s.DF.length s.ms.length b with
  |error k=>rw [hp] at h;exact absurd h (cK hp)
  |ok o=>
   obtain ⟨rows,r⟩:=o
   rw [hp] at h
   simp only at h ⊢
   split at h
   ·rename_i h2
    rw [Ak h2]
    split at h
    ·rename_i h3;rw [Ak h3];exact h3
    ·rename_i h3;exact absurd h h3
   ·cases h
theorem VI (vs:List Int) (i:Nat):(Ls vs i).s=vs.getD i 0:=by
 unfold Ls
 rw [nU]
 cases vs[i]?<;>rfl
theorem vZ (s:SC) (l:List RC):∀ c:CC,(Bt c (l.map (·.vs))).p0=c.p0+Ih (fun a=>a.p.s) (l.map (Gz s))∧(Bt c (l.map (·.vs))).q0=c.q0+Ii (fun a=>a.p.s) (l.map (Gz s))
 ∧(Bt c (l.map (·.vs))).p1=c.p1+Ih (fun a=>a.q.s) (l.map (Gz s))∧(Bt c (l.map (·.vs))).q1=c.q1+Ii (fun a=>a.q.s) (l.map (Gz s))
 ∧(Bt c (l.map (·.vs))).p2=c.p2+Ih (fun a=>a.r.s) (l.map (Gz s))∧(Bt c (l.map (·.vs))).q2=c.q2+Ii (fun a=>a.r.s) (l.map (Gz s)):=by
 induction l with
 |nil=>intro c;simp [Bt,Ih,Ii]
 |cons r l ih=>
  intro c
  have e:Bt c ((r::l).map (·.vs))=Bt (Fz c r.vs) (l.map (·.vs)):=rfl
  have h:=ih (Fz c r.vs)
  rw [e,DI]
  obtain ⟨a0,a1,a2,a3,a4,a5⟩:=h
  rw [a0,a1,a2,a3,a4,a5]
  simp only [Ih,Ii]
  have f0:(Gz s r).2.p.s=r.vs.getD 0 0:=VI _ _
  have f1:(Gz s r).2.q.s=r.vs.getD 1 0:=VI _ _
  have f2:(Gz s r).2.r.s=r.vs.getD 2 0:=VI _ _
  rw [f0,f1,f2]
  unfold Fz Sg
  simp only
  omega
theorem MInv.load {s:MC} (h:MInv s) (hh:s.has=true) (b:List UInt8):MInv (Fv s b).1:=by
 unfold Fv
 split
 ·exact h
 ·rename_i h1
  split
  ·exact h
  ·rename_i h2
   simp only
   have hB:=RY (Ob.1 h1)
   obtain ⟨b1,b2,b3⟩:=DK hB
   generalize (Dn s.cat.sc b).1=R at *
   have hE:=h.err hh
   obtain ⟨v1,v2⟩:=GD hE h.ok (R.map (·.vs))
   have hg:Lx s.cat (R.map (·.vs)):=Sv fun hn=>h2 (v2 hn)
   rw [v1 hg]
   simp only
   obtain ⟨a0,a1,a2,a3,a4,a5⟩:=vZ s.cat.sc R s.cat
   have ap:=fun g=>VC g s.rows (R.map (Gz s.cat.sc))
   refine ⟨fun h=>?_,fun _=>eX hE hg,?_,?_,?_,?_,?_,?_,?_,?_,?_,?_⟩
   ·rw [hh] at h;cases h
   ·exact hg.2.2
   ·show s.cat.fa+((R.map (·.vs)).length:Int)=_
    rw [h.fa,BQ,Cq,Cq]
    omega
   ·have:=hg.1
    rw [h.fa] at this
    rw [BQ,Cq]
    rw [Cq] at this
    omega
   ·show (Bt _ _).p0=_;rw [a0,(ap _).1,h.p0]
   ·show (Bt _ _).q0=_;rw [a1,(ap _).2,h.q0]
   ·show (Bt _ _).p1=_;rw [a2,(ap _).1,h.p1]
   ·show (Bt _ _).q1=_;rw [a3,(ap _).2,h.q1]
   ·show (Bt _ _).p2=_;rw [a4,(ap _).1,h.p2]
   ·show (Bt _ _).q2=_;rw [a5,(ap _).2,h.q2]
   ·intro f hf
    rcases DT.1 hf with hf|hf
    ·exact h.rows f hf
    ·obtain ⟨r,hr,rfl⟩:=GZ.1 hf
     obtain ⟨ks,hk⟩:=b3 r hr
     rw [D8 hk]
     exact ⟨rfl,(yE hk).1⟩
theorem Rk {b:List UInt8} (h:(Ff b).2=0):Ap (Ff b).1=0:=by
 unfold Ff at h ⊢
 cases hp:KW b with
 |error k=>rw [hp] at h;exact absurd h (bV hp)
 |ok o=>
  obtain ⟨t,l⟩:=o
  rw [hp] at h
  simp only at h ⊢
  split at h
  ·rename_i h1;rw [Ak h1];exact (rQ hp).1
  ·cases h
theorem MInv.crea {s:MC} (h:MInv s) (b:List UInt8):MInv (Ij s b).1:=by
 unfold Ij
 split
 ·exact h
 ·rename_i h1
  split
  ·exact h
  ·rename_i h2
   have h0:s.has=false:=by simpa using h1
   obtain ⟨e1,e2⟩:=h.no h0
   have hz:=Rk (Ob.1 h2)
   refine ⟨fun h=>(by cases h),fun _=>?_,by unfold Pv AP;simp,?_,?_,?_,?_,?_,?_,?_,?_,?_⟩<;>simp only [e2]
   ·exact Nn.2 ⟨hz,Lj _,by show (0:Int)≤4000;omega,KL (Lj _) (Lj _) (fun _=>⟨rfl,rfl⟩),KL (Lj _) (Lj _) (fun _=>⟨rfl,rfl⟩),KL (Lj _) (Lj _) (fun _=>⟨rfl,rfl⟩)⟩
   ·rfl
   ·simp
   ·rfl
   ·rfl
   ·rfl
   ·rfl
   ·rfl
   ·rfl
   ·intro f hf;cases hf
theorem MInv.step {s:MC} (h:MInv s) (c:NS):MInv (Eu s c).1:=by
 unfold Eu
 split
 ·exact h
 split
 ·exact h
 split
 ·exact h.crea _
 split
 ·exact h
 split
 ·exact ⟨h.no,h.err,h.ok,h.fa,h.len,h.p0,h.q0,h.p1,h.q1,h.p2,h.q2,h.rows⟩
 split
 ·exact h
 rename_i hn
 split
 ·exact h.load (by simpa using hn) _
 split
 ·exact h
 split
 ·exact h
 ·exact h
theorem eT {α:Type} [Ar α] (l:List α) (k:Nat) (f:α) (hk:k<l.length) (j:Nat):
 ((l.set k f).flatMap Ar.cells)[j]?=if k * Ar.size α≤j∧j<k * Ar.size α+Ar.size α then (Ar.cells f)[j - k * Ar.size α]? else (l.flatMap Ar.cells)[j]?:=by
 have hp:0<Ar.size α:=Ar.pos
 by_cases hj:j<l.length * Ar.size α
 ·have hi:j / Ar.size α<l.length:=Nat.div_lt_of_lt_mul (by rw [Oc];exact hj)
  have hjm:j / Ar.size α * Ar.size α+j % Ar.size α=j:=by rw [Oc];exact Nat.div_add_mod j _
  have hr:=Nat.mod_lt j hp
  by_cases e:k=j / Ar.size α
  ·have hg:(l.set k f)[j / Ar.size α]?=some f:=by rw [←e];exact LZ hk
   have h1:=KI (l.set k f) _ _ _ hg hr
   rw [hjm] at h1
   rw [h1,Ak (by rw [e];omega)]
   congr 1
   rw [e]
   omega
  ·have hg:(l.set k f)[j / Ar.size α]?=some (l[j / Ar.size α]'hi):=by rw [Nw e,Ep hi]
   have h1:=KI (l.set k f) _ _ _ hg hr
   have h2:=KI l _ _ _ (Ep hi) hr
   rw [hjm] at h1 h2
   rw [h1,h2,Ah]
   intro ⟨h3,h4⟩
   apply e
   have h5:k * Ar.size α+Ar.size α=(k+1) * Ar.size α:=by rw [Gs,JX]
   rw [h5] at h4
   exact (Nat.div_eq_of_lt_le h3 h4).symm
 ·have h5:k * Ar.size α+Ar.size α=(k+1) * Ar.size α:=by rw [Gs,JX]
  have h6:(k+1) * Ar.size α≤l.length * Ar.size α:=Nv _ hk
  rw [Gt (by rw [Dz,Qm];omega),Gt (l:=l.flatMap Ar.cells) (by rw [Dz];omega),Ah (by omega)]
section
variable {α : Type} [Ar α] {w : World} {base : Nat} {e : TypeId} {g n c : Nat} {l : List α}
theorem Gd (h:w.ownsRow base e (Ar.size α) (.slice (some ⟨g,0,none⟩) n c) n (l.flatMap Ar.cells)) {k:Nat} {a:α} (ha:l[k]?=some a):w.rangeAt g (k * Ar.size α) (Ar.cells a)∧g<w.heap.size:=by
 have hr:=Rd.Bf h
 have hl:=FO hr
 have hk:k<n:=by have:=(Ca.1 ha).1;omega
 obtain ⟨b,o,a',e1,hb,ha',hc⟩:=XV hr hk
 injection e1 with e1
 injection e1 with e1 e2
 subst e1 e2
 rw [ha] at ha'
 injection ha' with ha'
 subst ha'
 exact ⟨fun j u hu=>by have:=hc j u hu;rwa [Hw] at this,hb⟩
theorem QB (h:w.ownsRow base e (Ar.size α) (.slice (some ⟨g,0,none⟩) n c) n (l.flatMap Ar.cells)) {k:Nat} (hk:k<n) (f:α):
 (w.setCells g (k * Ar.size α) (Ar.cells f)).ownsRow base e (Ar.size α) (.slice (some ⟨g,0,none⟩) n c) n ((l.set k f).flatMap Ar.cells):=by
 have hl:=FO (Rd.Bf h)
 refine ⟨by rw [Dz,Qm,hl],?_⟩
 rcases h.2 with ⟨h0,_⟩|⟨g',cap,cur,hv,hb,hh,hn,hm,hs,ht⟩
 ·cases h0
 ·injection hv with h1 h2 h3
  injection h1 with h1
  injection h1 with h1
  subst h1 h3
  refine .inr ⟨g,c,Dp cur (k * Ar.size α) (Ar.cells f),rfl,hb,Br.Dp (Ar.cells f) (k * Ar.size α) hh,hn,hm,by rw [Ll];exact hs,?_⟩
  apply UJ
  intro j
  rw [eT l k f (by omega) j]
  have hns:n * Ar.size α≤cur.size:=by rw [hs];exact Nv _ hn
  by_cases hj:j<n * Ar.size α
  ·rw [Gu hj,UW,MV _ _ _ _ (by omega),Ar.len]
   have h4:(l.flatMap Ar.cells)[j]?=cur[j]?:=by rw [←ht,Gu hj,UW]
   rw [h4]
  ·rw [Gt (by rw [Fa];omega)]
   have h5:k * Ar.size α+Ar.size α=(k+1) * Ar.size α:=by rw [Gs,JX]
   have h6:(k+1) * Ar.size α≤n * Ar.size α:=Nv _ hk
   rw [Ah (by omega),Gt (by rw [Dz,hl];omega)]
theorem OT (h:w.ownsRow base e (Ar.size α) (.slice (some ⟨g,0,none⟩) n c) n (l.flatMap Ar.cells)) {k:Nat} (hk:k<n):w.there g (k * Ar.size α) (Ar.size α):=by
 rcases h.2 with ⟨h0,_⟩|⟨g',cap,cur,hv,hb,hh,hn,hm,hs,ht⟩
 ·cases h0
 ·injection hv with h1 h2 h3
  injection h1 with h1
  injection h1 with h1
  subst h1 h3
  have hb2:Br w g e cur:=hh
  intro j hj
  have h5:k * Ar.size α+Ar.size α=(k+1) * Ar.size α:=by rw [Gs,JX]
  have h6:(k+1) * Ar.size α≤c * Ar.size α:=Nv _ (by omega)
  rw [hb2.cell,hb2.frozen,UY (by rw [hs];omega)]
  exact ⟨rfl,rfl⟩
theorem Jq {P:Program} {ops:Array Oper} {rest:List Oper} {op:Oper} {a:Act} {Q:Exit→Act→World→Prop} (hgd:op.guard=none) {ty:TypeId} {size:Nat} (R:DV P ty size) (x y:Operand) (ho:op.op=.store ty x y) (hsz:size=Ar.size α)
 (k:Nat) (hx:a.eval x=.pointer (some ⟨g,k * Ar.size α,none⟩)) (h:w.ownsRow base e (Ar.size α) (.slice (some ⟨g,0,none⟩) n c) n (l.flatMap Ar.cells)) (hk:k<n) (f:α) (cs:Array Value) (hcs:cs.toList=Ar.cells f) (hy:a.eval y=.agg cs) (h1:cs.all (·.oneCell')=true)
 (hn:∀ w',w'.ownsRow base e (Ar.size α) (.slice (some ⟨g,0,none⟩) n c) n ((l.set k f).flatMap Ar.cells)→w.grownBy w' (some g)→wpList P ops Q rest (a.put op.dst undef) w'):wpList P ops Q (op::rest) a w:=by
 have hss:cs.size=Ar.size α:=by have:=Cm List.length hcs;rw [Array.length_toList,Ar.len] at this;exact this
 refine UI hgd ty x y ho g (k * Ar.size α) cs hx hy (by rw [hss];exact OT h hk) (by rw [R.hi,hss,hsz]) h1 ?_
 rw [hcs]
 exact hn _ (QB h hk f) (Db w g _ _)
end
end Go.Proofs.YtijplolmkcdflaaGreat
namespace Go.Proofs.YtijplolmkcdflaaGreat
open Tryz
open Go.RowKit
theorem FZ {n:Nat} {k:Int} (h:k≠0):Xv n (CC.nil,k)=(CC.nil,k):=by unfold Xv;rw [Ah h]
theorem Row.rd.xP {w:World} {x:Row (Row Int)} (h:x.rd w) {k:Nat} (hk:k<x.n):∃ b o y,x.A=some ⟨b,o,none⟩∧x.l[k]?=some y∧y.ok w∧w.cell? ⟨b,o+k,none⟩=some (.slice y.A y.n y.c):=by
 obtain ⟨b,o,y,e,hy,hc⟩:=OO rfl h.r hk
 exact ⟨b,o,y,e,hy,h.all y (CE hy),hc _ rfl⟩
theorem Nl (s:Ct) (r:Row (Row Int)) (w:World) (hs:s.rd w) (hm:SmS s.sc) (hr:r.rd w) (hrn:r.n≤1000000):
 Calls prog 59 #[.agg s.cs,.slice r.A r.n r.c] w (WX (BO s.Ac (r.l.map (·.l))) w):=by
 have HC:=Aa (fun w' (hb:Aj w w')=>ZB s w' (hs.mono hb) hm)
 have HK:=Aa (fun hE w' (hb:Aj w w')=>RV s.sc w' (hs.sc.mono hb) hE)
 have HRW:=Aa hr
 have HRA:Hid (∀ y ∈ r.l,∀ w',Aj w w'→y.rd w'):=fun y hy w' hb=>(hr.all y hy).Vw.mono hb
 have hrl:Hid (r.l.length=r.n):=hr.len
 have aB:Hid (s.sc.ms.l.length=s.sc.ms.n):=hs.sc.ms.len
 have H:=Aa (((SL.start No w).alloc s.cs 63).alloc #[.slice none 0 0,.slice none 0 0,.int .i64 0,.int .i64 0,.int .i64 0,.int .i64 0,.int .i64 0,.int .i64 0,.int .i64 0] 63)
 (try simp only [LS] at H)
 have hfa:=hs.fa
 unfold AP at hfa
 have HI0:Hid (AP s.p0∧AP s.q0∧AP s.p1∧AP s.q1∧AP s.p2∧AP s.q2):=⟨hs.p0,hs.q0,hs.p1,hs.q1,hs.p2,hs.q2⟩
 generalize hO:BO s.Ac (r.l.map (·.l))=O
 have HO:=Aa hO
 clear hO
 obtain ⟨⟨⟨A,n,c,ds⟩,⟨MA,mn,mc,ms⟩⟩,fa,p0,q0,p1,q1,p2,q2⟩:=s
 obtain ⟨RA,rn,rc,rs⟩:=r
 simp only [Ct.cs,Ev.cs,Ct.Ac,Ev.Ac] at *
 obtain ⟨f1,f2⟩:=hfa
 clear hs hm hr
 go_enter func59,ntmps59
 go_upto_region 1 with fail
 generalize w.heap.size+1=y at *
 generalize w.heap.size=x at *
 generalize World.alloc (World.alloc _ _) _=w1 at *
 go_wp2_with ((with_reducible refine OP 13 ?_);(refine Cx Cw (H.blk 0 rfl) ?_))
 refine (HC _ H.to).mono ?_;rintro e w2 ⟨rfl,hb2⟩
 replace H:=Aa (H.Au hb2)
 clear hb2 HC
 by_cases hE:Cj ⟨⟨ds.map Dm.Ac,ms⟩,fa,p0,q0,p1,q1,p2,q2⟩=0
 ·obtain ⟨g1,g2,g3⟩:=OE hE
  have hm3:mn≤3:=by have h:ms.length≤3:=(BA g1).2.2.2.2.1;have:=aB.Ab;omega
  replace HK:=Aa (HK g1)
  simp only at g2 g3
  by_cases h4:4000<fa+rn
  ·have ZT:Hid (O=(CC.nil,6)):=by have h:=HO.Ab;unfold BO at h;rw [Ah (by simp [hE]),Ak (by rw [Cq,hrl.Ab];exact h4)] at h;exact h.symm
   have e1:decide (4000 - fa<(rn:Int))=true:=UU (by omega)
   rw [hE]
   have c2:=(H.blk 0 rfl).Am 2
   clear hE g1 HK HO
   go_wp2_with ((with_reducible refine OS 4 ?_);(refine Ec Cw H 1 rfl (#[.slice none 0 0,.slice none 0 0,.int .i64 0,.int .i64 0,.int .i64 0,.int .i64 0,.int .i64 0,.int .i64 0,.int .i64 0]) (by simp [Value.oneCell']) ?_;clear H;intro wq H;(try simp only [LS] at H)))
   refine Ce (AJ rfl Cw rfl (H.blk 1 rfl) rfl) rfl ?_
   rw [ZT.Ab]
   exact Cv H.to
  ·have HO4:Hid (O=Xv rn (Eo mn ⟨⟨ds.map Dm.Ac,ms⟩,fa,p0,q0,p1,q1,p2,q2⟩ (rs.map (·.l)))):=by have h:=HO.Ab;unfold BO at h;rw [Ah (by simp [hE]),Ah (by rw [Cq,hrl.Ab];exact h4)] at h;rw [←h,Cq,hrl.Ab];show Xv rn (Eo ms.length _ _)=_;rw [aB.Ab]
   have e1:decide (4000 - fa<(rn:Int))=false:=wV (by omega)
   rw [hE]
   have c2:=(H.blk 0 rfl).Am 2
   clear hE g1 HO
   go_upto_region 6 with fail
   clear c2 e1
   refine EG (S:=fun w=>w.cell? ⟨x,0,none⟩=some (.slice A n c)∧w.cell? ⟨x,1,none⟩=some (.slice MA mn mc)∧w.cell? ⟨x,2,none⟩=some (.int .i64 fa)∧w.cell? ⟨x,3,none⟩=some (.int .i64 p0)∧w.cell? ⟨x,4,none⟩=some (.int .i64 q0)∧w.cell? ⟨x,5,none⟩=some (.int .i64 p1)∧w.cell? ⟨x,6,none⟩=some (.int .i64 q1)∧w.cell? ⟨x,7,none⟩=some (.int .i64 p2)∧w.cell? ⟨x,8,none⟩=some (.int .i64 q2)) (by kernel_rfl) (by exact ⟨(H.blk 0 rfl).cell 0,(H.blk 0 rfl).cell 1,(H.blk 0 rfl).cell 2,(H.blk 0 rfl).cell 3,(H.blk 0 rfl).cell 4,(H.blk 0 rfl).cell 5,(H.blk 0 rfl).cell 6,(H.blk 0 rfl).cell 7,(H.blk 0 rfl).cell 8⟩) fun hHeld=>?_
   replace H:=Aa (H.drew)
   refine BJ NG ?_
   refine BJ KG ?_
   refine BJ KF ?_
   refine BJ Mr ?_
   refine BJ Lv ?_
   refine BJ Mq ?_
   refine NV NW Px (fun KK Ad=>?_) fun KK Ad=>?_
   ·go_simp
    refine (HK _ H.to).mono ?_;rintro e w3 ⟨D,rfl,hD,hb3,hN⟩
    replace H:=Aa (H.add hb3 _ hN.1 hN.2);(try simp only [LS] at H)
    have wI:=Aa hD
    clear hN hD hb3
    obtain ⟨⟨B,m,d,es⟩,⟨MB,mm,md,mt⟩⟩:=D
    simp only [Ev.cs,Ev.Ac] at *
    have hbd:∀ w:World,(Instr.build 63 #[(0,.agg #[.slice B m d,.slice MB mm md]),(1,.int .i64 fa),(2,.agg #[.int .i64 p0,.int .i64 q0,.int .i64 p1,.int .i64 q1,.int .i64 p2,.int .i64 q2])]).run prog w=.ok (.agg #[.slice B m d,.slice MB mm md,.int .i64 fa,.int .i64 p0,.int .i64 q0,.int .i64 p1,.int .i64 q1,.int .i64 p2,.int .i64 q2]) w:=fun _=>by kernel_rfl
    refine Ai Ad (by exact ⟨(H.blk 0 rfl).cell 0,(H.blk 0 rfl).cell 1,(H.blk 0 rfl).cell 2,(H.blk 0 rfl).cell 3,(H.blk 0 rfl).cell 4,(H.blk 0 rfl).cell 5,(H.blk 0 rfl).cell 6,(H.blk 0 rfl).cell 7,(H.blk 0 rfl).cell 8⟩) fun hHeld=>?_
    clear Ad KK
    refine NV LX Px (fun KK Ad=>?_) fun KK Ad=>?_
    ·go_simp
     refine Ai Ad (by exact ⟨(H.blk 0 rfl).cell 0,(H.blk 0 rfl).cell 1,(H.blk 0 rfl).cell 2,(H.blk 0 rfl).cell 3,(H.blk 0 rfl).cell 4,(H.blk 0 rfl).cell 5,(H.blk 0 rfl).cell 6,(H.blk 0 rfl).cell 7,(H.blk 0 rfl).cell 8⟩) fun hHeld=>?_
     clear Ad KK
     refine BD Px fun KK Ad=>?_
     go_simp
     replace H:=Aa (H.alloc #[.slice none 0 0,.slice none 0 0,.int .i64 0,.int .i64 0,.int .i64 0,.int .i64 0,.int .i64 0,.int .i64 0,.int .i64 0] 63);(try simp only [LS] at H)
     refine Ai Ad (by exact ⟨(H.blk 0 rfl).cell 0,(H.blk 0 rfl).cell 1,(H.blk 0 rfl).cell 2,(H.blk 0 rfl).cell 3,(H.blk 0 rfl).cell 4,(H.blk 0 rfl).cell 5,(H.blk 0 rfl).cell 6,(H.blk 0 rfl).cell 7,(H.blk 0 rfl).cell 8⟩) fun hHeld=>?_
     clear Ad KK
     refine BD Qb fun KK Ad=>?_
     generalize w3.heap.size=z at *
     generalize World.alloc w3 _=w4 at *
     refine KS rfl Cw (.tmp 7) (.tmp 33) rfl _ rfl (H.blk 3 rfl) rfl (#[.slice B m d,.slice MB mm md,.int .i64 fa,.int .i64 p0,.int .i64 q0,.int .i64 p1,.int .i64 q1,.int .i64 p2,.int .i64 q2]) rfl rfl (by simp [Value.oneCell']) ?_
     intro wq bq Ay
     replace H:=Aa (H.AY 3 rfl Ay bq);(try simp only [LS] at H)
     clear Ay bq
     refine Ai Ad (by exact ⟨(H.blk 0 rfl).cell 0,(H.blk 0 rfl).cell 1,(H.blk 0 rfl).cell 2,(H.blk 0 rfl).cell 3,(H.blk 0 rfl).cell 4,(H.blk 0 rfl).cell 5,(H.blk 0 rfl).cell 6,(H.blk 0 rfl).cell 7,(H.blk 0 rfl).cell 8⟩) fun hHeld=>?_
     clear Ad KK
     refine BX ?_
     clear hHeld
     replace H:=Aa (H.Gh [0,1,3,2] (by decide) (by simp));(try simp only [LS] at H)
     go_wp2_with fail
     have gU:Hid (∀ o,Eo mn ⟨⟨ds.map Dm.Ac,ms⟩,fa,p0,q0,p1,q1,p2,q2⟩ (rs.map (·.l))=o→Xv rn o=O):=fun o ho=>by rw [HO4.Ab,ho]
     have HRR:Hid (Eo mn ⟨⟨ds.map Dm.Ac,ms⟩,fa,p0,q0,p1,q1,p2,q2⟩ (rs.map (·.l))=Eo mn ⟨⟨ds.map Dm.Ac,ms⟩,fa,p0,q0,p1,q1,p2,q2⟩ ((rs.map (·.l)).drop 0)):=rfl
     clear HO4
     go_loopg [8,36] rn (fun gg s8 i wr=>∃ (k:Nat) (P0 Q0 P1 Q1 P2 Q2:Int) (ob:Bool),gg=rn - k∧k≤rn∧s8=.bool ob∧i=.int .i64 k∧Hid (SL No w wr [Av x 63 #[.slice A n c,.slice MA mn mc,.int .i64 fa,.int .i64 p0,.int .i64 q0,.int .i64 p1,.int .i64 q1,.int .i64 p2,.int .i64 q2],Av y 63 #[.slice none 0 0,.slice none 0 0,.int .i64 0,.int .i64 0,.int .i64 0,.int .i64 0,.int .i64 0,.int .i64 0,.int .i64 0],Av z 63 #[.slice B m d,.slice MB mm md,.int .i64 fa,.int .i64 P0,.int .i64 Q0,.int .i64 P1,.int .i64 Q1,.int .i64 P2,.int .i64 Q2],KU ⟨⟨B,m,d,es⟩,⟨MB,mm,md,mt⟩⟩])∧Hid (Eo mn ⟨⟨ds.map Dm.Ac,ms⟩,fa,p0,q0,p1,q1,p2,q2⟩ (rs.map (·.l))=Eo mn ⟨⟨ds.map Dm.Ac,ms⟩,fa,P0,Q0,P1,Q1,P2,Q2⟩ ((rs.map (·.l)).drop k))∧Hid (AP P0∧AP Q0∧AP P1∧AP Q1∧AP P2∧AP Q2))
     case atStart=>exact ⟨0,p0,q0,p1,q1,p2,q2,true,rfl,by omega,rfl,rfl,H,HRR,HI0⟩
     case round=>
      clear H HRR HI0
      obtain ⟨k,P0,Q0,P1,Q1,P2,Q2,ob,BG,hk,rfl,rfl,H,HRR,hI⟩:=hrel
      have Cg:=Aa BG
      clear BG
      by_cases hlt:k<rn
      ·obtain ⟨bb,oo,yr,hA,hyk,Pw,q1'⟩:=(HRW.mono H.to).xP (k:=k) hlt
       simp only at hA
       subst hA
       have gN:Hid ((rs.map (·.l))[k]?=some yr.l):=by show _=_;rw [DD,hyk];(try rfl)
       have HYR:=Aa (fun w' (hb:Aj w w')=>(HRA yr (CE hyk) w' hb))
       have YH:Hid (yr.l.length=yr.n):=Pw.Vw.len
       have y63:=Pw.Vw.n63
       have i0:(0:Int)≤k:=by omega
       have i1:(k:Int)<rn:=by omega
       clear hyk Pw
       obtain ⟨YA,yn,yc,ys⟩:=yr
       simp only at *
       have cm0:=(H.blk 0 rfl).Am 1
       by_cases hyn:yn=mn
       ·obtain rfl:mn=yn:=hyn.symm
        have e1:(((mn:Nat):Int) !=mn)=false:=by simp
        have e2:decide ((3:Int)<mn)=false:=by simp<;>omega
        go_wp2_with fail
        clear cm0 e1 e2 q1'
        have Jh:Hid (DU ⟨⟨ds.map Dm.Ac,ms⟩,fa,P0,Q0,P1,Q1,P2,Q2⟩ 0 ys=DU ⟨⟨ds.map Dm.Ac,ms⟩,fa,P0,Q0,P1,Q1,P2,Q2⟩ 0 (ys.drop 0)):=rfl
        have hI0:=hI
        have MI:=HRR
        clear hI HRR
        generalize hC1:(⟨⟨ds.map Dm.Ac,ms⟩,fa,P0,Q0,P1,Q1,P2,Q2⟩:CC)=C1 at MI Jh
        have nP:=Aa hC1
        clear hC1
        replace Jh:Hid (DU C1 0 ys=DU ⟨⟨ds.map Dm.Ac,ms⟩,fa,P0,Q0,P1,Q1,P2,Q2⟩ 0 (ys.drop 0)):=by show _=_;rw [nP.Ab];exact Jh.Ab
        go_loopg [8,55] mn (fun gg s8 i wr=>∃ (j:Nat) (P0 Q0 P1 Q1 P2 Q2:Int) (ob:Bool),gg=mn - j∧j≤mn∧s8=.bool ob∧i=.int .i64 j∧Hid (SL No w wr [Av x 63 #[.slice A n c,.slice MA mn mc,.int .i64 fa,.int .i64 p0,.int .i64 q0,.int .i64 p1,.int .i64 q1,.int .i64 p2,.int .i64 q2],Av y 63 #[.slice none 0 0,.slice none 0 0,.int .i64 0,.int .i64 0,.int .i64 0,.int .i64 0,.int .i64 0,.int .i64 0,.int .i64 0],Av z 63 #[.slice B m d,.slice MB mm md,.int .i64 fa,.int .i64 P0,.int .i64 Q0,.int .i64 P1,.int .i64 Q1,.int .i64 P2,.int .i64 Q2],KU ⟨⟨B,m,d,es⟩,⟨MB,mm,md,mt⟩⟩])∧Hid (DU C1 0 ys=DU ⟨⟨ds.map Dm.Ac,ms⟩,fa,P0,Q0,P1,Q1,P2,Q2⟩ j (ys.drop j))∧Hid (AP P0∧AP Q0∧AP P1∧AP Q1∧AP P2∧AP Q2))
        case atStart=>exact ⟨0,P0,Q0,P1,Q1,P2,Q2,ob,rfl,by omega,rfl,rfl,H,Jh,hI0⟩
        case round=>
         clear H Jh hI0 nP
         obtain ⟨j,P0,Q0,P1,Q1,P2,Q2,ob,hgj,hj,rfl,rfl,H,Jh,hI⟩:=hrel
         have Kv:=Aa hgj
         clear hgj
         by_cases hjlt:j<mn
         ·obtain ⟨b2,o2,v,hA,hyv,hv,q2'⟩:=(HYR _ H.to).PZ (k:=j) hjlt
          simp only at hA
          subst hA
          have YG:=Aa hyv
          have HV:=Aa hv
          clear hyv hv
          have j0:(0:Int)≤j:=by omega
          have j1:(j:Int)<mn:=by omega
          go_upto_region 16 with fail
          clear q2'
          obtain rfl|rfl|rfl:j=0∨j=1∨j=2:=by omega
          ·rw [show ((0:Nat):Int)=0 from rfl]
           have hu:=GQ (v:=v) (hI.1) (hI.2.1)
           have HG:=Aa (fun w=>GR P0 Q0 v w (hI.1) (hI.2.1) HV.Ab)
           have HU:Hid (OD ⟨⟨ds.map Dm.Ac,ms⟩,fa,P0,Q0,P1,Q1,P2,Q2⟩ 0 v=(⟨⟨ds.map Dm.Ac,ms⟩,fa,(Cf P0 Q0 v).1.1,(Cf P0 Q0 v).1.2,P1,Q1,P2,Q2⟩,(Cf P0 Q0 v).2)):=rfl
           generalize Cf P0 Q0 v=G at *
           obtain ⟨⟨u1,u2⟩,ok⟩:=G
           simp only at HG HU hu
           go_wp2_with ((with_reducible refine OP 65 ?_);(refine Ae rfl CO (.tmp 64) rfl z (3) rfl #[.int .i64 P0,.int .i64 Q0] rfl ((H.blk 2 rfl).part 3 _ rfl) ?_))
           refine (HG _).mono ?_;rintro e w6 ⟨rfl,hb6⟩
           replace H:=Aa (H.Au hb6)
           clear hb6 HG
           cases ok with
           |true=>
            have HR2:Hid (DU C1 0 ys=DU ⟨⟨ds.map Dm.Ac,ms⟩,fa,u1,u2,P1,Q1,P2,Q2⟩ (0+1) (ys.drop (0+1))):=by
             show _=_
             rw [Jh.Ab,Bz YG.Ab,GU (by rw [HU.Ab]),HU.Ab]
            have hI2:Hid (AP u1∧AP u2∧AP P1∧AP Q1∧AP P2∧AP Q2):=⟨hu.1,hu.2,hI.2.2.1,hI.2.2.2.1,hI.2.2.2.2.1,hI.2.2.2.2.2⟩
            clear Jh HU
            go_wp2_with ((with_reducible refine OS 71 ?_);refine Bd rfl CO (.tmp 71) (.tmp 68) rfl z 3 rfl (H.blk 2 rfl) #[.int .i64 u1,.int .i64 u2] rfl (by simp) rfl (by simp [Value.oneCell']) ?_;intro wq bq Ay;replace bq:Br wq z 63 #[.slice B m d,.slice MB mm md,.int .i64 fa,.int .i64 u1,.int .i64 u2,.int .i64 P1,.int .i64 Q1,.int .i64 P2,.int .i64 Q2]:=bq;replace H:=Aa (H.AY 2 rfl Ay bq);(try simp only [LS] at H);clear Ay bq)
            go_roundg (mn - (0+1))
            case rel=>exact ⟨0+1,u1,u2,P1,Q1,P2,Q2,true,rfl,by omega,rfl,rfl,H,HR2,hI2⟩
            case measure=>rw [Kv.Ab];omega
           |false=>
            have Sj:Hid (O=(CC.nil,12)):=by
             show _=_
             refine (gU (CC.nil,12) (MI.trans ?_)).symm.trans (FZ (by decide))
             rw [Bz gN.Ab]
             refine Fw YH.Ab ?_
             rw [Jh.Ab,Bz YG.Ab]
             exact GV (by rw [HU.Ab])
            go_wp2_with (first|((with_reducible refine OS 71 ?_);refine Bd rfl CO (.tmp 71) (.tmp 68) rfl z 3 rfl (H.blk 2 rfl) #[.int .i64 u1,.int .i64 u2] rfl (by simp) rfl (by simp [Value.oneCell']) ?_;intro wq bq Ay;replace bq:Br wq z 63 #[.slice B m d,.slice MB mm md,.int .i64 fa,.int .i64 u1,.int .i64 u2,.int .i64 P1,.int .i64 Q1,.int .i64 P2,.int .i64 Q2]:=bq;replace H:=Aa (H.AY 2 rfl Ay bq);(try simp only [LS] at H);clear Ay bq)|((with_reducible refine OS 4 ?_);(refine Ec Cw H 1 rfl (#[.slice none 0 0,.slice none 0 0,.int .i64 0,.int .i64 0,.int .i64 0,.int .i64 0,.int .i64 0,.int .i64 0,.int .i64 0]) (by simp [Value.oneCell']) ?_;clear H;intro wq H;(try simp only [LS] at H))))
            refine Ce (AJ rfl Cw rfl (H.blk 1 rfl) rfl) rfl ?_
            rw [Sj.Ab]
            exact Cv H.to
          ·rw [show ((1:Nat):Int)=1 from rfl]
           have hu:=GQ (v:=v) (hI.2.2.1) (hI.2.2.2.1)
           have HG:=Aa (fun w=>GR P1 Q1 v w (hI.2.2.1) (hI.2.2.2.1) HV.Ab)
           have HU:Hid (OD ⟨⟨ds.map Dm.Ac,ms⟩,fa,P0,Q0,P1,Q1,P2,Q2⟩ 1 v=(⟨⟨ds.map Dm.Ac,ms⟩,fa,P0,Q0,(Cf P1 Q1 v).1.1,(Cf P1 Q1 v).1.2,P2,Q2⟩,(Cf P1 Q1 v).2)):=rfl
           generalize Cf P1 Q1 v=G at *
           obtain ⟨⟨u1,u2⟩,ok⟩:=G
           simp only at HG HU hu
           go_wp2_with ((with_reducible refine OP 65 ?_);(refine Ae rfl CO (.tmp 64) rfl z (5) rfl #[.int .i64 P1,.int .i64 Q1] rfl ((H.blk 2 rfl).part 5 _ rfl) ?_))
           refine (HG _).mono ?_;rintro e w6 ⟨rfl,hb6⟩
           replace H:=Aa (H.Au hb6)
           clear hb6 HG
           cases ok with
           |true=>
            have HR2:Hid (DU C1 0 ys=DU ⟨⟨ds.map Dm.Ac,ms⟩,fa,P0,Q0,u1,u2,P2,Q2⟩ (1+1) (ys.drop (1+1))):=by
             show _=_
             rw [Jh.Ab,Bz YG.Ab,GU (by rw [HU.Ab]),HU.Ab]
            have hI2:Hid (AP P0∧AP Q0∧AP u1∧AP u2∧AP P2∧AP Q2):=⟨hI.1,hI.2.1,hu.1,hu.2,hI.2.2.2.2.1,hI.2.2.2.2.2⟩
            clear Jh HU
            go_wp2_with ((with_reducible refine OS 71 ?_);refine Bd rfl CO (.tmp 71) (.tmp 68) rfl z 5 rfl (H.blk 2 rfl) #[.int .i64 u1,.int .i64 u2] rfl (by simp) rfl (by simp [Value.oneCell']) ?_;intro wq bq Ay;replace bq:Br wq z 63 #[.slice B m d,.slice MB mm md,.int .i64 fa,.int .i64 P0,.int .i64 Q0,.int .i64 u1,.int .i64 u2,.int .i64 P2,.int .i64 Q2]:=bq;replace H:=Aa (H.AY 2 rfl Ay bq);(try simp only [LS] at H);clear Ay bq)
            go_roundg (mn - (1+1))
            case rel=>exact ⟨1+1,P0,Q0,u1,u2,P2,Q2,true,rfl,by omega,rfl,rfl,H,HR2,hI2⟩
            case measure=>rw [Kv.Ab];omega
           |false=>
            have Sj:Hid (O=(CC.nil,12)):=by
             show _=_
             refine (gU (CC.nil,12) (MI.trans ?_)).symm.trans (FZ (by decide))
             rw [Bz gN.Ab]
             refine Fw YH.Ab ?_
             rw [Jh.Ab,Bz YG.Ab]
             exact GV (by rw [HU.Ab])
            go_wp2_with (first|((with_reducible refine OS 71 ?_);refine Bd rfl CO (.tmp 71) (.tmp 68) rfl z 5 rfl (H.blk 2 rfl) #[.int .i64 u1,.int .i64 u2] rfl (by simp) rfl (by simp [Value.oneCell']) ?_;intro wq bq Ay;replace bq:Br wq z 63 #[.slice B m d,.slice MB mm md,.int .i64 fa,.int .i64 P0,.int .i64 Q0,.int .i64 u1,.int .i64 u2,.int .i64 P2,.int .i64 Q2]:=bq;replace H:=Aa (H.AY 2 rfl Ay bq);(try simp only [LS] at H);clear Ay bq)|((with_reducible refine OS 4 ?_);(refine Ec Cw H 1 rfl (#[.slice none 0 0,.slice none 0 0,.int .i64 0,.int .i64 0,.int .i64 0,.int .i64 0,.int .i64 0,.int .i64 0,.int .i64 0]) (by simp [Value.oneCell']) ?_;clear H;intro wq H;(try simp only [LS] at H))))
            refine Ce (AJ rfl Cw rfl (H.blk 1 rfl) rfl) rfl ?_
            rw [Sj.Ab]
            exact Cv H.to
          ·rw [show ((2:Nat):Int)=2 from rfl]
           have hu:=GQ (v:=v) (hI.2.2.2.2.1) (hI.2.2.2.2.2)
           have HG:=Aa (fun w=>GR P2 Q2 v w (hI.2.2.2.2.1) (hI.2.2.2.2.2) HV.Ab)
           have HU:Hid (OD ⟨⟨ds.map Dm.Ac,ms⟩,fa,P0,Q0,P1,Q1,P2,Q2⟩ 2 v=(⟨⟨ds.map Dm.Ac,ms⟩,fa,P0,Q0,P1,Q1,(Cf P2 Q2 v).1.1,(Cf P2 Q2 v).1.2⟩,(Cf P2 Q2 v).2)):=rfl
           generalize Cf P2 Q2 v=G at *
           obtain ⟨⟨u1,u2⟩,ok⟩:=G
           simp only at HG HU hu
           go_wp2_with ((with_reducible refine OP 65 ?_);(refine Ae rfl CO (.tmp 64) rfl z (7) rfl #[.int .i64 P2,.int .i64 Q2] rfl ((H.blk 2 rfl).part 7 _ rfl) ?_))
           refine (HG _).mono ?_;rintro e w6 ⟨rfl,hb6⟩
           replace H:=Aa (H.Au hb6)
           clear hb6 HG
           cases ok with
           |true=>
            have HR2:Hid (DU C1 0 ys=DU ⟨⟨ds.map Dm.Ac,ms⟩,fa,P0,Q0,P1,Q1,u1,u2⟩ (2+1) (ys.drop (2+1))):=by
             show _=_
             rw [Jh.Ab,Bz YG.Ab,GU (by rw [HU.Ab]),HU.Ab]
            have hI2:Hid (AP P0∧AP Q0∧AP P1∧AP Q1∧AP u1∧AP u2):=⟨hI.1,hI.2.1,hI.2.2.1,hI.2.2.2.1,hu.1,hu.2⟩
            clear Jh HU
            go_wp2_with ((with_reducible refine OS 71 ?_);refine Bd rfl CO (.tmp 71) (.tmp 68) rfl z 7 rfl (H.blk 2 rfl) #[.int .i64 u1,.int .i64 u2] rfl (by simp) rfl (by simp [Value.oneCell']) ?_;intro wq bq Ay;replace bq:Br wq z 63 #[.slice B m d,.slice MB mm md,.int .i64 fa,.int .i64 P0,.int .i64 Q0,.int .i64 P1,.int .i64 Q1,.int .i64 u1,.int .i64 u2]:=bq;replace H:=Aa (H.AY 2 rfl Ay bq);(try simp only [LS] at H);clear Ay bq)
            go_roundg (mn - (2+1))
            case rel=>exact ⟨2+1,P0,Q0,P1,Q1,u1,u2,true,rfl,by omega,rfl,rfl,H,HR2,hI2⟩
            case measure=>rw [Kv.Ab];omega
           |false=>
            have Sj:Hid (O=(CC.nil,12)):=by
             show _=_
             refine (gU (CC.nil,12) (MI.trans ?_)).symm.trans (FZ (by decide))
             rw [Bz gN.Ab]
             refine Fw YH.Ab ?_
             rw [Jh.Ab,Bz YG.Ab]
             exact GV (by rw [HU.Ab])
            go_wp2_with (first|((with_reducible refine OS 71 ?_);refine Bd rfl CO (.tmp 71) (.tmp 68) rfl z 7 rfl (H.blk 2 rfl) #[.int .i64 u1,.int .i64 u2] rfl (by simp) rfl (by simp [Value.oneCell']) ?_;intro wq bq Ay;replace bq:Br wq z 63 #[.slice B m d,.slice MB mm md,.int .i64 fa,.int .i64 P0,.int .i64 Q0,.int .i64 P1,.int .i64 Q1,.int .i64 u1,.int .i64 u2]:=bq;replace H:=Aa (H.AY 2 rfl Ay bq);(try simp only [LS] at H);clear Ay bq)|((with_reducible refine OS 4 ?_);(refine Ec Cw H 1 rfl (#[.slice none 0 0,.slice none 0 0,.int .i64 0,.int .i64 0,.int .i64 0,.int .i64 0,.int .i64 0,.int .i64 0,.int .i64 0]) (by simp [Value.oneCell']) ?_;clear H;intro wq H;(try simp only [LS] at H))))
            refine Ce (AJ rfl Cw rfl (H.blk 1 rfl) rfl) rfl ?_
            rw [Sj.Ab]
            exact Cv H.to
         ·obtain rfl:j=mn:=by omega
          have I9:Hid (Eo j ⟨⟨ds.map Dm.Ac,ms⟩,fa,p0,q0,p1,q1,p2,q2⟩ (rs.map (·.l))=Eo j ⟨⟨ds.map Dm.Ac,ms⟩,fa,P0,Q0,P1,Q1,P2,Q2⟩ ((rs.map (·.l)).drop (k+1))):=by
           show _=_
           rw [MI.Ab,Bz gN.Ab]
           refine RS (YH.Ab) ?_
           rw [Jh.Ab,EY (by have:=YH.Ab;omega)]
           rfl
          clear MI Jh
          go_wp2_with fail
          go_roundg (rn - (k+1))
          case rel=>exact ⟨k+1,P0,Q0,P1,Q1,P2,Q2,ob,rfl,by omega,rfl,by go_num,H,I9,hI⟩
          case measure=>rw [Cg.Ab];omega
       ·have e1:(((yn:Nat):Int) !=mn)=true:=by simp;omega
        have Sj:Hid (O=(CC.nil,2)):=by
         show _=_
         refine (gU (CC.nil,2) (HRR.trans ?_)).symm.trans (FZ (by decide))
         rw [Bz gN.Ab]
         exact Ph (by have:=YH.Ab;omega)
        clear hyn
        go_wp2_with ((with_reducible refine OS 4 ?_);(refine Ec Cw H 1 rfl (#[.slice none 0 0,.slice none 0 0,.int .i64 0,.int .i64 0,.int .i64 0,.int .i64 0,.int .i64 0,.int .i64 0,.int .i64 0]) (by simp [Value.oneCell']) ?_;clear H;intro wq H;(try simp only [LS] at H)))
        refine Ce (AJ rfl Cw rfl (H.blk 1 rfl) rfl) rfl ?_
        rw [Sj.Ab]
        exact Cv H.to
      ·obtain rfl:k=rn:=by omega
       have Sj:Hid (O=(⟨⟨ds.map Dm.Ac,ms⟩,fa+k,P0,Q0,P1,Q1,P2,Q2⟩,0)):=by
        show _=_
        refine (gU (⟨⟨ds.map Dm.Ac,ms⟩,fa,P0,Q0,P1,Q1,P2,Q2⟩,0) (HRR.trans ?_)).symm.trans ?_
        ·rw [EY (by rw [Cq,hrl.Ab];omega)]
         rfl
        ·rfl
       clear HRR
       have cz2:=(H.blk 2 rfl).Am 2;have fz2:=(H.blk 2 rfl).frozen 2
       go_wp2_with (first|((with_reducible refine OP 83 ?_);replace H:=Aa (H.setCell 2 rfl 2 (.int .i64 (fa+k)));(try simp only [LS] at H);clear cz2 fz2;refine Cx Cw (H.blk 2 rfl) ?_)|((with_reducible refine OS 4 ?_);(refine Ec Cw H 1 rfl (#[.slice B m d,.slice MB mm md,.int .i64 (fa+k),.int .i64 P0,.int .i64 Q0,.int .i64 P1,.int .i64 Q1,.int .i64 P2,.int .i64 Q2]) (by simp [Value.oneCell']) ?_;clear H;intro wq H;(try simp only [LS] at H))))
       refine Ce (AJ rfl Cw rfl (H.blk 1 rfl) rfl) rfl ?_
       rw [Sj.Ab]
       exact ⟨⟨⟨⟨B,m,d,es⟩,⟨MB,mm,md,mt⟩⟩,fa+k,P0,Q0,P1,Q1,P2,Q2⟩,rfl,Cm (fun s=>(⟨s,fa+k,P0,Q0,P1,Q1,P2,Q2⟩:CC)) wI.Ab,⟨(H.at_ 3 rfl).rd,by show _≤fa+(k:Int)∧fa+(k:Int)≤_;omega,hI.1,hI.2.1,hI.2.2.1,hI.2.2.2.1,hI.2.2.2.2.1,hI.2.2.2.2.2⟩,IW (H.at_ 3 rfl),H.to,H.get 3 rfl,H.new 3 rfl⟩
    ·go_simp
     replace H:=Aa (H.alloc #[.slice none 0 0,.slice none 0 0,.int .i64 0,.int .i64 0,.int .i64 0,.int .i64 0,.int .i64 0,.int .i64 0,.int .i64 0] 63);(try simp only [LS] at H)
     refine Ai Ad (by exact ⟨(H.blk 0 rfl).cell 0,(H.blk 0 rfl).cell 1,(H.blk 0 rfl).cell 2,(H.blk 0 rfl).cell 3,(H.blk 0 rfl).cell 4,(H.blk 0 rfl).cell 5,(H.blk 0 rfl).cell 6,(H.blk 0 rfl).cell 7,(H.blk 0 rfl).cell 8⟩) fun hHeld=>?_
     clear Ad KK
     refine BD LX fun KK Ad=>?_
     go_simp
     refine Ai Ad (by exact ⟨(H.blk 0 rfl).cell 0,(H.blk 0 rfl).cell 1,(H.blk 0 rfl).cell 2,(H.blk 0 rfl).cell 3,(H.blk 0 rfl).cell 4,(H.blk 0 rfl).cell 5,(H.blk 0 rfl).cell 6,(H.blk 0 rfl).cell 7,(H.blk 0 rfl).cell 8⟩) fun hHeld=>?_
     clear Ad KK
     refine BD Qb fun KK Ad=>?_
     generalize w3.heap.size=z at *
     generalize World.alloc w3 _=w4 at *
     refine KS rfl Cw (.tmp 7) (.tmp 33) rfl _ rfl (H.blk 3 rfl) rfl (#[.slice B m d,.slice MB mm md,.int .i64 fa,.int .i64 p0,.int .i64 q0,.int .i64 p1,.int .i64 q1,.int .i64 p2,.int .i64 q2]) rfl rfl (by simp [Value.oneCell']) ?_
     intro wq bq Ay
     replace H:=Aa (H.AY 3 rfl Ay bq);(try simp only [LS] at H)
     clear Ay bq
     refine Ai Ad (by exact ⟨(H.blk 0 rfl).cell 0,(H.blk 0 rfl).cell 1,(H.blk 0 rfl).cell 2,(H.blk 0 rfl).cell 3,(H.blk 0 rfl).cell 4,(H.blk 0 rfl).cell 5,(H.blk 0 rfl).cell 6,(H.blk 0 rfl).cell 7,(H.blk 0 rfl).cell 8⟩) fun hHeld=>?_
     clear Ad KK
     refine BX ?_
     clear hHeld
     replace H:=Aa (H.Gh [0,1,3,2] (by decide) (by simp));(try simp only [LS] at H)
     go_wp2_with fail
     have gU:Hid (∀ o,Eo mn ⟨⟨ds.map Dm.Ac,ms⟩,fa,p0,q0,p1,q1,p2,q2⟩ (rs.map (·.l))=o→Xv rn o=O):=fun o ho=>by rw [HO4.Ab,ho]
     have HRR:Hid (Eo mn ⟨⟨ds.map Dm.Ac,ms⟩,fa,p0,q0,p1,q1,p2,q2⟩ (rs.map (·.l))=Eo mn ⟨⟨ds.map Dm.Ac,ms⟩,fa,p0,q0,p1,q1,p2,q2⟩ ((rs.map (·.l)).drop 0)):=rfl
     clear HO4
     go_loopg [8,36] rn (fun gg s8 i wr=>∃ (k:Nat) (P0 Q0 P1 Q1 P2 Q2:Int) (ob:Bool),gg=rn - k∧k≤rn∧s8=.bool ob∧i=.int .i64 k∧Hid (SL No w wr [Av x 63 #[.slice A n c,.slice MA mn mc,.int .i64 fa,.int .i64 p0,.int .i64 q0,.int .i64 p1,.int .i64 q1,.int .i64 p2,.int .i64 q2],Av y 63 #[.slice none 0 0,.slice none 0 0,.int .i64 0,.int .i64 0,.int .i64 0,.int .i64 0,.int .i64 0,.int .i64 0,.int .i64 0],Av z 63 #[.slice B m d,.slice MB mm md,.int .i64 fa,.int .i64 P0,.int .i64 Q0,.int .i64 P1,.int .i64 Q1,.int .i64 P2,.int .i64 Q2],KU ⟨⟨B,m,d,es⟩,⟨MB,mm,md,mt⟩⟩])∧Hid (Eo mn ⟨⟨ds.map Dm.Ac,ms⟩,fa,p0,q0,p1,q1,p2,q2⟩ (rs.map (·.l))=Eo mn ⟨⟨ds.map Dm.Ac,ms⟩,fa,P0,Q0,P1,Q1,P2,Q2⟩ ((rs.map (·.l)).drop k))∧Hid (AP P0∧AP Q0∧AP P1∧AP Q1∧AP P2∧AP Q2))
     case atStart=>exact ⟨0,p0,q0,p1,q1,p2,q2,true,rfl,by omega,rfl,rfl,H,HRR,HI0⟩
     case round=>
      clear H HRR HI0
      obtain ⟨k,P0,Q0,P1,Q1,P2,Q2,ob,BG,hk,rfl,rfl,H,HRR,hI⟩:=hrel
      have Cg:=Aa BG
      clear BG
      by_cases hlt:k<rn
      ·obtain ⟨bb,oo,yr,hA,hyk,Pw,q1'⟩:=(HRW.mono H.to).xP (k:=k) hlt
       simp only at hA
       subst hA
       have gN:Hid ((rs.map (·.l))[k]?=some yr.l):=by show _=_;rw [DD,hyk];(try rfl)
       have HYR:=Aa (fun w' (hb:Aj w w')=>(HRA yr (CE hyk) w' hb))
       have YH:Hid (yr.l.length=yr.n):=Pw.Vw.len
       have y63:=Pw.Vw.n63
       have i0:(0:Int)≤k:=by omega
       have i1:(k:Int)<rn:=by omega
       clear hyk Pw
       obtain ⟨YA,yn,yc,ys⟩:=yr
       simp only at *
       have cm0:=(H.blk 0 rfl).Am 1
       by_cases hyn:yn=mn
       ·obtain rfl:mn=yn:=hyn.symm
        have e1:(((mn:Nat):Int) !=mn)=false:=by simp
        have e2:decide ((3:Int)<mn)=false:=by simp<;>omega
        go_wp2_with fail
        clear cm0 e1 e2 q1'
        have Jh:Hid (DU ⟨⟨ds.map Dm.Ac,ms⟩,fa,P0,Q0,P1,Q1,P2,Q2⟩ 0 ys=DU ⟨⟨ds.map Dm.Ac,ms⟩,fa,P0,Q0,P1,Q1,P2,Q2⟩ 0 (ys.drop 0)):=rfl
        have hI0:=hI
        have MI:=HRR
        clear hI HRR
        generalize hC1:(⟨⟨ds.map Dm.Ac,ms⟩,fa,P0,Q0,P1,Q1,P2,Q2⟩:CC)=C1 at MI Jh
        have nP:=Aa hC1
        clear hC1
        replace Jh:Hid (DU C1 0 ys=DU ⟨⟨ds.map Dm.Ac,ms⟩,fa,P0,Q0,P1,Q1,P2,Q2⟩ 0 (ys.drop 0)):=by show _=_;rw [nP.Ab];exact Jh.Ab
        go_loopg [8,55] mn (fun gg s8 i wr=>∃ (j:Nat) (P0 Q0 P1 Q1 P2 Q2:Int) (ob:Bool),gg=mn - j∧j≤mn∧s8=.bool ob∧i=.int .i64 j∧Hid (SL No w wr [Av x 63 #[.slice A n c,.slice MA mn mc,.int .i64 fa,.int .i64 p0,.int .i64 q0,.int .i64 p1,.int .i64 q1,.int .i64 p2,.int .i64 q2],Av y 63 #[.slice none 0 0,.slice none 0 0,.int .i64 0,.int .i64 0,.int .i64 0,.int .i64 0,.int .i64 0,.int .i64 0,.int .i64 0],Av z 63 #[.slice B m d,.slice MB mm md,.int .i64 fa,.int .i64 P0,.int .i64 Q0,.int .i64 P1,.int .i64 Q1,.int .i64 P2,.int .i64 Q2],KU ⟨⟨B,m,d,es⟩,⟨MB,mm,md,mt⟩⟩])∧Hid (DU C1 0 ys=DU ⟨⟨ds.map Dm.Ac,ms⟩,fa,P0,Q0,P1,Q1,P2,Q2⟩ j (ys.drop j))∧Hid (AP P0∧AP Q0∧AP P1∧AP Q1∧AP P2∧AP Q2))
        case atStart=>exact ⟨0,P0,Q0,P1,Q1,P2,Q2,ob,rfl,by omega,rfl,rfl,H,Jh,hI0⟩
        case round=>
         clear H Jh hI0 nP
         obtain ⟨j,P0,Q0,P1,Q1,P2,Q2,ob,hgj,hj,rfl,rfl,H,Jh,hI⟩:=hrel
         have Kv:=Aa hgj
         clear hgj
         by_cases hjlt:j<mn
         ·obtain ⟨b2,o2,v,hA,hyv,hv,q2'⟩:=(HYR _ H.to).PZ (k:=j) hjlt
          simp only at hA
          subst hA
          have YG:=Aa hyv
          have HV:=Aa hv
          clear hyv hv
          have j0:(0:Int)≤j:=by omega
          have j1:(j:Int)<mn:=by omega
          go_upto_region 16 with fail
          clear q2'
          obtain rfl|rfl|rfl:j=0∨j=1∨j=2:=by omega
          ·rw [show ((0:Nat):Int)=0 from rfl]
           have hu:=GQ (v:=v) (hI.1) (hI.2.1)
           have HG:=Aa (fun w=>GR P0 Q0 v w (hI.1) (hI.2.1) HV.Ab)
           have HU:Hid (OD ⟨⟨ds.map Dm.Ac,ms⟩,fa,P0,Q0,P1,Q1,P2,Q2⟩ 0 v=(⟨⟨ds.map Dm.Ac,ms⟩,fa,(Cf P0 Q0 v).1.1,(Cf P0 Q0 v).1.2,P1,Q1,P2,Q2⟩,(Cf P0 Q0 v).2)):=rfl
           generalize Cf P0 Q0 v=G at *
           obtain ⟨⟨u1,u2⟩,ok⟩:=G
           simp only at HG HU hu
           go_wp2_with ((with_reducible refine OP 65 ?_);(refine Ae rfl CO (.tmp 64) rfl z (3) rfl #[.int .i64 P0,.int .i64 Q0] rfl ((H.blk 2 rfl).part 3 _ rfl) ?_))
           refine (HG _).mono ?_;rintro e w6 ⟨rfl,hb6⟩
           replace H:=Aa (H.Au hb6)
           clear hb6 HG
           cases ok with
           |true=>
            have HR2:Hid (DU C1 0 ys=DU ⟨⟨ds.map Dm.Ac,ms⟩,fa,u1,u2,P1,Q1,P2,Q2⟩ (0+1) (ys.drop (0+1))):=by
             show _=_
             rw [Jh.Ab,Bz YG.Ab,GU (by rw [HU.Ab]),HU.Ab]
            have hI2:Hid (AP u1∧AP u2∧AP P1∧AP Q1∧AP P2∧AP Q2):=⟨hu.1,hu.2,hI.2.2.1,hI.2.2.2.1,hI.2.2.2.2.1,hI.2.2.2.2.2⟩
            clear Jh HU
            go_wp2_with ((with_reducible refine OS 71 ?_);refine Bd rfl CO (.tmp 71) (.tmp 68) rfl z 3 rfl (H.blk 2 rfl) #[.int .i64 u1,.int .i64 u2] rfl (by simp) rfl (by simp [Value.oneCell']) ?_;intro wq bq Ay;replace bq:Br wq z 63 #[.slice B m d,.slice MB mm md,.int .i64 fa,.int .i64 u1,.int .i64 u2,.int .i64 P1,.int .i64 Q1,.int .i64 P2,.int .i64 Q2]:=bq;replace H:=Aa (H.AY 2 rfl Ay bq);(try simp only [LS] at H);clear Ay bq)
            go_roundg (mn - (0+1))
            case rel=>exact ⟨0+1,u1,u2,P1,Q1,P2,Q2,true,rfl,by omega,rfl,rfl,H,HR2,hI2⟩
            case measure=>rw [Kv.Ab];omega
           |false=>
            have Sj:Hid (O=(CC.nil,12)):=by
             show _=_
             refine (gU (CC.nil,12) (MI.trans ?_)).symm.trans (FZ (by decide))
             rw [Bz gN.Ab]
             refine Fw YH.Ab ?_
             rw [Jh.Ab,Bz YG.Ab]
             exact GV (by rw [HU.Ab])
            go_wp2_with (first|((with_reducible refine OS 71 ?_);refine Bd rfl CO (.tmp 71) (.tmp 68) rfl z 3 rfl (H.blk 2 rfl) #[.int .i64 u1,.int .i64 u2] rfl (by simp) rfl (by simp [Value.oneCell']) ?_;intro wq bq Ay;replace bq:Br wq z 63 #[.slice B m d,.slice MB mm md,.int .i64 fa,.int .i64 u1,.int .i64 u2,.int .i64 P1,.int .i64 Q1,.int .i64 P2,.int .i64 Q2]:=bq;replace H:=Aa (H.AY 2 rfl Ay bq);(try simp only [LS] at H);clear Ay bq)|((with_reducible refine OS 4 ?_);(refine Ec Cw H 1 rfl (#[.slice none 0 0,.slice none 0 0,.int .i64 0,.int .i64 0,.int .i64 0,.int .i64 0,.int .i64 0,.int .i64 0,.int .i64 0]) (by simp [Value.oneCell']) ?_;clear H;intro wq H;(try simp only [LS] at H))))
            refine Ce (AJ rfl Cw rfl (H.blk 1 rfl) rfl) rfl ?_
            rw [Sj.Ab]
            exact Cv H.to
          ·rw [show ((1:Nat):Int)=1 from rfl]
           have hu:=GQ (v:=v) (hI.2.2.1) (hI.2.2.2.1)
           have HG:=Aa (fun w=>GR P1 Q1 v w (hI.2.2.1) (hI.2.2.2.1) HV.Ab)
           have HU:Hid (OD ⟨⟨ds.map Dm.Ac,ms⟩,fa,P0,Q0,P1,Q1,P2,Q2⟩ 1 v=(⟨⟨ds.map Dm.Ac,ms⟩,fa,P0,Q0,(Cf P1 Q1 v).1.1,(Cf P1 Q1 v).1.2,P2,Q2⟩,(Cf P1 Q1 v).2)):=rfl
           generalize Cf P1 Q1 v=G at *
           obtain ⟨⟨u1,u2⟩,ok⟩:=G
           simp only at HG HU hu
           go_wp2_with ((with_reducible refine OP 65 ?_);(refine Ae rfl CO (.tmp 64) rfl z (5) rfl #[.int .i64 P1,.int .i64 Q1] rfl ((H.blk 2 rfl).part 5 _ rfl) ?_))
           refine (HG _).mono ?_;rintro e w6 ⟨rfl,hb6⟩
           replace H:=Aa (H.Au hb6)
           clear hb6 HG
           cases ok with
           |true=>
            have HR2:Hid (DU C1 0 ys=DU ⟨⟨ds.map Dm.Ac,ms⟩,fa,P0,Q0,u1,u2,P2,Q2⟩ (1+1) (ys.drop (1+1))):=by
             show _=_
             rw [Jh.Ab,Bz YG.Ab,GU (by rw [HU.Ab]),HU.Ab]
            have hI2:Hid (AP P0∧AP Q0∧AP u1∧AP u2∧AP P2∧AP Q2):=⟨hI.1,hI.2.1,hu.1,hu.2,hI.2.2.2.2.1,hI.2.2.2.2.2⟩
            clear Jh HU
            go_wp2_with ((with_reducible refine OS 71 ?_);refine Bd rfl CO (.tmp 71) (.tmp 68) rfl z 5 rfl (H.blk 2 rfl) #[.int .i64 u1,.int .i64 u2] rfl (by simp) rfl (by simp [Value.oneCell']) ?_;intro wq bq Ay;replace bq:Br wq z 63 #[.slice B m d,.slice MB mm md,.int .i64 fa,.int .i64 P0,.int .i64 Q0,.int .i64 u1,.int .i64 u2,.int .i64 P2,.int .i64 Q2]:=bq;replace H:=Aa (H.AY 2 rfl Ay bq);(try simp only [LS] at H);clear Ay bq)
            go_roundg (mn - (1+1))
            case rel=>exact ⟨1+1,P0,Q0,u1,u2,P2,Q2,true,rfl,by omega,rfl,rfl,H,HR2,hI2⟩
            case measure=>rw [Kv.Ab];omega
           |false=>
            have Sj:Hid (O=(CC.nil,12)):=by
             show _=_
             refine (gU (CC.nil,12) (MI.trans ?_)).symm.trans (FZ (by decide))
             rw [Bz gN.Ab]
             refine Fw YH.Ab ?_
             rw [Jh.Ab,Bz YG.Ab]
             exact GV (by rw [HU.Ab])
            go_wp2_with (first|((with_reducible refine OS 71 ?_);refine Bd rfl CO (.tmp 71) (.tmp 68) rfl z 5 rfl (H.blk 2 rfl) #[.int .i64 u1,.int .i64 u2] rfl (by simp) rfl (by simp [Value.oneCell']) ?_;intro wq bq Ay;replace bq:Br wq z 63 #[.slice B m d,.slice MB mm md,.int .i64 fa,.int .i64 P0,.int .i64 Q0,.int .i64 u1,.int .i64 u2,.int .i64 P2,.int .i64 Q2]:=bq;replace H:=Aa (H.AY 2 rfl Ay bq);(try simp only [LS] at H);clear Ay bq)|((with_reducible refine OS 4 ?_);(refine Ec Cw H 1 rfl (#[.slice none 0 0,.slice none 0 0,.int .i64 0,.int .i64 0,.int .i64 0,.int .i64 0,.int .i64 0,.int .i64 0,.int .i64 0]) (by simp [Value.oneCell']) ?_;clear H;intro wq H;(try simp only [LS] at H))))
            refine Ce (AJ rfl Cw rfl (H.blk 1 rfl) rfl) rfl ?_
            rw [Sj.Ab]
            exact Cv H.to
          ·rw [show ((2:Nat):Int)=2 from rfl]
           have hu:=GQ (v:=v) (hI.2.2.2.2.1) (hI.2.2.2.2.2)
           have HG:=Aa (fun w=>GR P2 Q2 v w (hI.2.2.2.2.1) (hI.2.2.2.2.2) HV.Ab)
           have HU:Hid (OD ⟨⟨ds.map Dm.Ac,ms⟩,fa,P0,Q0,P1,Q1,P2,Q2⟩ 2 v=(⟨⟨ds.map Dm.Ac,ms⟩,fa,P0,Q0,P1,Q1,(Cf P2 Q2 v).1.1,(Cf P2 Q2 v).1.2⟩,(Cf P2 Q2 v).2)):=rfl
           generalize Cf P2 Q2 v=G at *
           obtain ⟨⟨u1,u2⟩,ok⟩:=G
           simp only at HG HU hu
           go_wp2_with ((with_reducible refine OP 65 ?_);(refine Ae rfl CO (.tmp 64) rfl z (7) rfl #[.int .i64 P2,.int .i64 Q2] rfl ((H.blk 2 rfl).part 7 _ rfl) ?_))
           refine (HG _).mono ?_;rintro e w6 ⟨rfl,hb6⟩
           replace H:=Aa (H.Au hb6)
           clear hb6 HG
           cases ok with
           |true=>
            have HR2:Hid (DU C1 0 ys=DU ⟨⟨ds.map Dm.Ac,ms⟩,fa,P0,Q0,P1,Q1,u1,u2⟩ (2+1) (ys.drop (2+1))):=by
             show _=_
             rw [Jh.Ab,Bz YG.Ab,GU (by rw [HU.Ab]),HU.Ab]
            have hI2:Hid (AP P0∧AP Q0∧AP P1∧AP Q1∧AP u1∧AP u2):=⟨hI.1,hI.2.1,hI.2.2.1,hI.2.2.2.1,hu.1,hu.2⟩
            clear Jh HU
            go_wp2_with ((with_reducible refine OS 71 ?_);refine Bd rfl CO (.tmp 71) (.tmp 68) rfl z 7 rfl (H.blk 2 rfl) #[.int .i64 u1,.int .i64 u2] rfl (by simp) rfl (by simp [Value.oneCell']) ?_;intro wq bq Ay;replace bq:Br wq z 63 #[.slice B m d,.slice MB mm md,.int .i64 fa,.int .i64 P0,.int .i64 Q0,.int .i64 P1,.int .i64 Q1,.int .i64 u1,.int .i64 u2]:=bq;replace H:=Aa (H.AY 2 rfl Ay bq);(try simp only [LS] at H);clear Ay bq)
            go_roundg (mn - (2+1))
            case rel=>exact ⟨2+1,P0,Q0,P1,Q1,u1,u2,true,rfl,by omega,rfl,rfl,H,HR2,hI2⟩
            case measure=>rw [Kv.Ab];omega
           |false=>
            have Sj:Hid (O=(CC.nil,12)):=by
             show _=_
             refine (gU (CC.nil,12) (MI.trans ?_)).symm.trans (FZ (by decide))
             rw [Bz gN.Ab]
             refine Fw YH.Ab ?_
             rw [Jh.Ab,Bz YG.Ab]
             exact GV (by rw [HU.Ab])
            go_wp2_with (first|((with_reducible refine OS 71 ?_);refine Bd rfl CO (.tmp 71) (.tmp 68) rfl z 7 rfl (H.blk 2 rfl) #[.int .i64 u1,.int .i64 u2] rfl (by simp) rfl (by simp [Value.oneCell']) ?_;intro wq bq Ay;replace bq:Br wq z 63 #[.slice B m d,.slice MB mm md,.int .i64 fa,.int .i64 P0,.int .i64 Q0,.int .i64 P1,.int .i64 Q1,.int .i64 u1,.int .i64 u2]:=bq;replace H:=Aa (H.AY 2 rfl Ay bq);(try simp only [LS] at H);clear Ay bq)|((with_reducible refine OS 4 ?_);(refine Ec Cw H 1 rfl (#[.slice none 0 0,.slice none 0 0,.int .i64 0,.int .i64 0,.int .i64 0,.int .i64 0,.int .i64 0,.int .i64 0,.int .i64 0]) (by simp [Value.oneCell']) ?_;clear H;intro wq H;(try simp only [LS] at H))))
            refine Ce (AJ rfl Cw rfl (H.blk 1 rfl) rfl) rfl ?_
            rw [Sj.Ab]
            exact Cv H.to
         ·obtain rfl:j=mn:=by omega
          have I9:Hid (Eo j ⟨⟨ds.map Dm.Ac,ms⟩,fa,p0,q0,p1,q1,p2,q2⟩ (rs.map (·.l))=Eo j ⟨⟨ds.map Dm.Ac,ms⟩,fa,P0,Q0,P1,Q1,P2,Q2⟩ ((rs.map (·.l)).drop (k+1))):=by
           show _=_
           rw [MI.Ab,Bz gN.Ab]
           refine RS (YH.Ab) ?_
           rw [Jh.Ab,EY (by have:=YH.Ab;omega)]
           rfl
          clear MI Jh
          go_wp2_with fail
          go_roundg (rn - (k+1))
          case rel=>exact ⟨k+1,P0,Q0,P1,Q1,P2,Q2,ob,rfl,by omega,rfl,by go_num,H,I9,hI⟩
          case measure=>rw [Cg.Ab];omega
       ·have e1:(((yn:Nat):Int) !=mn)=true:=by simp;omega
        have Sj:Hid (O=(CC.nil,2)):=by
         show _=_
         refine (gU (CC.nil,2) (HRR.trans ?_)).symm.trans (FZ (by decide))
         rw [Bz gN.Ab]
         exact Ph (by have:=YH.Ab;omega)
        clear hyn
        go_wp2_with ((with_reducible refine OS 4 ?_);(refine Ec Cw H 1 rfl (#[.slice none 0 0,.slice none 0 0,.int .i64 0,.int .i64 0,.int .i64 0,.int .i64 0,.int .i64 0,.int .i64 0,.int .i64 0]) (by simp [Value.oneCell']) ?_;clear H;intro wq H;(try simp only [LS] at H)))
        refine Ce (AJ rfl Cw rfl (H.blk 1 rfl) rfl) rfl ?_
        rw [Sj.Ab]
        exact Cv H.to
      ·obtain rfl:k=rn:=by omega
       have Sj:Hid (O=(⟨⟨ds.map Dm.Ac,ms⟩,fa+k,P0,Q0,P1,Q1,P2,Q2⟩,0)):=by
        show _=_
        refine (gU (⟨⟨ds.map Dm.Ac,ms⟩,fa,P0,Q0,P1,Q1,P2,Q2⟩,0) (HRR.trans ?_)).symm.trans ?_
        ·rw [EY (by rw [Cq,hrl.Ab];omega)]
         rfl
        ·rfl
       clear HRR
       have cz2:=(H.blk 2 rfl).Am 2;have fz2:=(H.blk 2 rfl).frozen 2
       go_wp2_with (first|((with_reducible refine OP 83 ?_);replace H:=Aa (H.setCell 2 rfl 2 (.int .i64 (fa+k)));(try simp only [LS] at H);clear cz2 fz2;refine Cx Cw (H.blk 2 rfl) ?_)|((with_reducible refine OS 4 ?_);(refine Ec Cw H 1 rfl (#[.slice B m d,.slice MB mm md,.int .i64 (fa+k),.int .i64 P0,.int .i64 Q0,.int .i64 P1,.int .i64 Q1,.int .i64 P2,.int .i64 Q2]) (by simp [Value.oneCell']) ?_;clear H;intro wq H;(try simp only [LS] at H))))
       refine Ce (AJ rfl Cw rfl (H.blk 1 rfl) rfl) rfl ?_
       rw [Sj.Ab]
       exact ⟨⟨⟨⟨B,m,d,es⟩,⟨MB,mm,md,mt⟩⟩,fa+k,P0,Q0,P1,Q1,P2,Q2⟩,rfl,Cm (fun s=>(⟨s,fa+k,P0,Q0,P1,Q1,P2,Q2⟩:CC)) wI.Ab,⟨(H.at_ 3 rfl).rd,by show _≤fa+(k:Int)∧fa+(k:Int)≤_;omega,hI.1,hI.2.1,hI.2.2.1,hI.2.2.2.1,hI.2.2.2.2.1,hI.2.2.2.2.2⟩,IW (H.at_ 3 rfl),H.to,H.get 3 rfl,H.new 3 rfl⟩
   ·go_simp
    replace H:=Aa (H.alloc #[.slice none 0 0,.slice none 0 0,.int .i64 0,.int .i64 0,.int .i64 0,.int .i64 0,.int .i64 0,.int .i64 0,.int .i64 0] 63);(try simp only [LS] at H)
    refine Ai Ad (by exact ⟨(H.blk 0 rfl).cell 0,(H.blk 0 rfl).cell 1,(H.blk 0 rfl).cell 2,(H.blk 0 rfl).cell 3,(H.blk 0 rfl).cell 4,(H.blk 0 rfl).cell 5,(H.blk 0 rfl).cell 6,(H.blk 0 rfl).cell 7,(H.blk 0 rfl).cell 8⟩) fun hHeld=>?_
    clear Ad KK
    refine BD NW fun KK Ad=>?_
    go_simp
    refine (HK _ H.to).mono ?_;rintro e w3 ⟨D,rfl,hD,hb3,hN⟩
    replace H:=Aa (H.add hb3 _ hN.1 hN.2);(try simp only [LS] at H)
    have wI:=Aa hD
    clear hN hD hb3
    obtain ⟨⟨B,m,d,es⟩,⟨MB,mm,md,mt⟩⟩:=D
    simp only [Ev.cs,Ev.Ac] at *
    have hbd:∀ w:World,(Instr.build 63 #[(0,.agg #[.slice B m d,.slice MB mm md]),(1,.int .i64 fa),(2,.agg #[.int .i64 p0,.int .i64 q0,.int .i64 p1,.int .i64 q1,.int .i64 p2,.int .i64 q2])]).run prog w=.ok (.agg #[.slice B m d,.slice MB mm md,.int .i64 fa,.int .i64 p0,.int .i64 q0,.int .i64 p1,.int .i64 q1,.int .i64 p2,.int .i64 q2]) w:=fun _=>by kernel_rfl
    refine Ai Ad (by exact ⟨(H.blk 0 rfl).cell 0,(H.blk 0 rfl).cell 1,(H.blk 0 rfl).cell 2,(H.blk 0 rfl).cell 3,(H.blk 0 rfl).cell 4,(H.blk 0 rfl).cell 5,(H.blk 0 rfl).cell 6,(H.blk 0 rfl).cell 7,(H.blk 0 rfl).cell 8⟩) fun hHeld=>?_
    clear Ad KK
    refine BD LX fun KK Ad=>?_
    go_simp
    refine Ai Ad (by exact ⟨(H.blk 0 rfl).cell 0,(H.blk 0 rfl).cell 1,(H.blk 0 rfl).cell 2,(H.blk 0 rfl).cell 3,(H.blk 0 rfl).cell 4,(H.blk 0 rfl).cell 5,(H.blk 0 rfl).cell 6,(H.blk 0 rfl).cell 7,(H.blk 0 rfl).cell 8⟩) fun hHeld=>?_
    clear Ad KK
    refine BD Qb fun KK Ad=>?_
    have hdz:w2.drew.heap.size=w2.heap.size:=rfl
    rw [hdz] at H
    clear hdz
    generalize w2.heap.size=z at *
    refine KS rfl Cw (.tmp 7) (.tmp 33) rfl _ rfl (H.blk 2 rfl) rfl (#[.slice B m d,.slice MB mm md,.int .i64 fa,.int .i64 p0,.int .i64 q0,.int .i64 p1,.int .i64 q1,.int .i64 p2,.int .i64 q2]) rfl rfl (by simp [Value.oneCell']) ?_
    intro wq bq Ay
    replace H:=Aa (H.AY 2 rfl Ay bq);(try simp only [LS] at H)
    clear Ay bq
    refine Ai Ad (by exact ⟨(H.blk 0 rfl).cell 0,(H.blk 0 rfl).cell 1,(H.blk 0 rfl).cell 2,(H.blk 0 rfl).cell 3,(H.blk 0 rfl).cell 4,(H.blk 0 rfl).cell 5,(H.blk 0 rfl).cell 6,(H.blk 0 rfl).cell 7,(H.blk 0 rfl).cell 8⟩) fun hHeld=>?_
    clear Ad KK
    refine BX ?_
    clear hHeld
    skip
    go_wp2_with fail
    have gU:Hid (∀ o,Eo mn ⟨⟨ds.map Dm.Ac,ms⟩,fa,p0,q0,p1,q1,p2,q2⟩ (rs.map (·.l))=o→Xv rn o=O):=fun o ho=>by rw [HO4.Ab,ho]
    have HRR:Hid (Eo mn ⟨⟨ds.map Dm.Ac,ms⟩,fa,p0,q0,p1,q1,p2,q2⟩ (rs.map (·.l))=Eo mn ⟨⟨ds.map Dm.Ac,ms⟩,fa,p0,q0,p1,q1,p2,q2⟩ ((rs.map (·.l)).drop 0)):=rfl
    clear HO4
    go_loopg [8,36] rn (fun gg s8 i wr=>∃ (k:Nat) (P0 Q0 P1 Q1 P2 Q2:Int) (ob:Bool),gg=rn - k∧k≤rn∧s8=.bool ob∧i=.int .i64 k∧Hid (SL No w wr [Av x 63 #[.slice A n c,.slice MA mn mc,.int .i64 fa,.int .i64 p0,.int .i64 q0,.int .i64 p1,.int .i64 q1,.int .i64 p2,.int .i64 q2],Av y 63 #[.slice none 0 0,.slice none 0 0,.int .i64 0,.int .i64 0,.int .i64 0,.int .i64 0,.int .i64 0,.int .i64 0,.int .i64 0],Av z 63 #[.slice B m d,.slice MB mm md,.int .i64 fa,.int .i64 P0,.int .i64 Q0,.int .i64 P1,.int .i64 Q1,.int .i64 P2,.int .i64 Q2],KU ⟨⟨B,m,d,es⟩,⟨MB,mm,md,mt⟩⟩])∧Hid (Eo mn ⟨⟨ds.map Dm.Ac,ms⟩,fa,p0,q0,p1,q1,p2,q2⟩ (rs.map (·.l))=Eo mn ⟨⟨ds.map Dm.Ac,ms⟩,fa,P0,Q0,P1,Q1,P2,Q2⟩ ((rs.map (·.l)).drop k))∧Hid (AP P0∧AP Q0∧AP P1∧AP Q1∧AP P2∧AP Q2))
    case atStart=>exact ⟨0,p0,q0,p1,q1,p2,q2,true,rfl,by omega,rfl,rfl,H,HRR,HI0⟩
    case round=>
     clear H HRR HI0
     obtain ⟨k,P0,Q0,P1,Q1,P2,Q2,ob,BG,hk,rfl,rfl,H,HRR,hI⟩:=hrel
     have Cg:=Aa BG
     clear BG
     by_cases hlt:k<rn
     ·obtain ⟨bb,oo,yr,hA,hyk,Pw,q1'⟩:=(HRW.mono H.to).xP (k:=k) hlt
      simp only at hA
      subst hA
      have gN:Hid ((rs.map (·.l))[k]?=some yr.l):=by show _=_;rw [DD,hyk];(try rfl)
      have HYR:=Aa (fun w' (hb:Aj w w')=>(HRA yr (CE hyk) w' hb))
      have YH:Hid (yr.l.length=yr.n):=Pw.Vw.len
      have y63:=Pw.Vw.n63
      have i0:(0:Int)≤k:=by omega
      have i1:(k:Int)<rn:=by omega
      clear hyk Pw
      obtain ⟨YA,yn,yc,ys⟩:=yr
      simp only at *
      have cm0:=(H.blk 0 rfl).Am 1
      by_cases hyn:yn=mn
      ·obtain rfl:mn=yn:=hyn.symm
       have e1:(((mn:Nat):Int) !=mn)=false:=by simp
       have e2:decide ((3:Int)<mn)=false:=by simp<;>omega
       go_wp2_with fail
       clear cm0 e1 e2 q1'
       have Jh:Hid (DU ⟨⟨ds.map Dm.Ac,ms⟩,fa,P0,Q0,P1,Q1,P2,Q2⟩ 0 ys=DU ⟨⟨ds.map Dm.Ac,ms⟩,fa,P0,Q0,P1,Q1,P2,Q2⟩ 0 (ys.drop 0)):=rfl
       have hI0:=hI
       have MI:=HRR
       clear hI HRR
       generalize hC1:(⟨⟨ds.map Dm.Ac,ms⟩,fa,P0,Q0,P1,Q1,P2,Q2⟩:CC)=C1 at MI Jh
       have nP:=Aa hC1
       clear hC1
       replace Jh:Hid (DU C1 0 ys=DU ⟨⟨ds.map Dm.Ac,ms⟩,fa,P0,Q0,P1,Q1,P2,Q2⟩ 0 (ys.drop 0)):=by show _=_;rw [nP.Ab];exact Jh.Ab
       go_loopg [8,55] mn (fun gg s8 i wr=>∃ (j:Nat) (P0 Q0 P1 Q1 P2 Q2:Int) (ob:Bool),gg=mn - j∧j≤mn∧s8=.bool ob∧i=.int .i64 j∧Hid (SL No w wr [Av x 63 #[.slice A n c,.slice MA mn mc,.int .i64 fa,.int .i64 p0,.int .i64 q0,.int .i64 p1,.int .i64 q1,.int .i64 p2,.int .i64 q2],Av y 63 #[.slice none 0 0,.slice none 0 0,.int .i64 0,.int .i64 0,.int .i64 0,.int .i64 0,.int .i64 0,.int .i64 0,.int .i64 0],Av z 63 #[.slice B m d,.slice MB mm md,.int .i64 fa,.int .i64 P0,.int .i64 Q0,.int .i64 P1,.int .i64 Q1,.int .i64 P2,.int .i64 Q2],KU ⟨⟨B,m,d,es⟩,⟨MB,mm,md,mt⟩⟩])∧Hid (DU C1 0 ys=DU ⟨⟨ds.map Dm.Ac,ms⟩,fa,P0,Q0,P1,Q1,P2,Q2⟩ j (ys.drop j))∧Hid (AP P0∧AP Q0∧AP P1∧AP Q1∧AP P2∧AP Q2))
       case atStart=>exact ⟨0,P0,Q0,P1,Q1,P2,Q2,ob,rfl,by omega,rfl,rfl,H,Jh,hI0⟩
       case round=>
        clear H Jh hI0 nP
        obtain ⟨j,P0,Q0,P1,Q1,P2,Q2,ob,hgj,hj,rfl,rfl,H,Jh,hI⟩:=hrel
        have Kv:=Aa hgj
        clear hgj
        by_cases hjlt:j<mn
        ·obtain ⟨b2,o2,v,hA,hyv,hv,q2'⟩:=(HYR _ H.to).PZ (k:=j) hjlt
         simp only at hA
         subst hA
         have YG:=Aa hyv
         have HV:=Aa hv
         clear hyv hv
         have j0:(0:Int)≤j:=by omega
         have j1:(j:Int)<mn:=by omega
         go_upto_region 16 with fail
         clear q2'
         obtain rfl|rfl|rfl:j=0∨j=1∨j=2:=by omega
         ·rw [show ((0:Nat):Int)=0 from rfl]
          have hu:=GQ (v:=v) (hI.1) (hI.2.1)
          have HG:=Aa (fun w=>GR P0 Q0 v w (hI.1) (hI.2.1) HV.Ab)
          have HU:Hid (OD ⟨⟨ds.map Dm.Ac,ms⟩,fa,P0,Q0,P1,Q1,P2,Q2⟩ 0 v=(⟨⟨ds.map Dm.Ac,ms⟩,fa,(Cf P0 Q0 v).1.1,(Cf P0 Q0 v).1.2,P1,Q1,P2,Q2⟩,(Cf P0 Q0 v).2)):=rfl
          generalize Cf P0 Q0 v=G at *
          obtain ⟨⟨u1,u2⟩,ok⟩:=G
          simp only at HG HU hu
          go_wp2_with ((with_reducible refine OP 65 ?_);(refine Ae rfl CO (.tmp 64) rfl z (3) rfl #[.int .i64 P0,.int .i64 Q0] rfl ((H.blk 2 rfl).part 3 _ rfl) ?_))
          refine (HG _).mono ?_;rintro e w6 ⟨rfl,hb6⟩
          replace H:=Aa (H.Au hb6)
          clear hb6 HG
          cases ok with
          |true=>
           have HR2:Hid (DU C1 0 ys=DU ⟨⟨ds.map Dm.Ac,ms⟩,fa,u1,u2,P1,Q1,P2,Q2⟩ (0+1) (ys.drop (0+1))):=by
            show _=_
            rw [Jh.Ab,Bz YG.Ab,GU (by rw [HU.Ab]),HU.Ab]
           have hI2:Hid (AP u1∧AP u2∧AP P1∧AP Q1∧AP P2∧AP Q2):=⟨hu.1,hu.2,hI.2.2.1,hI.2.2.2.1,hI.2.2.2.2.1,hI.2.2.2.2.2⟩
           clear Jh HU
           go_wp2_with ((with_reducible refine OS 71 ?_);refine Bd rfl CO (.tmp 71) (.tmp 68) rfl z 3 rfl (H.blk 2 rfl) #[.int .i64 u1,.int .i64 u2] rfl (by simp) rfl (by simp [Value.oneCell']) ?_;intro wq bq Ay;replace bq:Br wq z 63 #[.slice B m d,.slice MB mm md,.int .i64 fa,.int .i64 u1,.int .i64 u2,.int .i64 P1,.int .i64 Q1,.int .i64 P2,.int .i64 Q2]:=bq;replace H:=Aa (H.AY 2 rfl Ay bq);(try simp only [LS] at H);clear Ay bq)
           go_roundg (mn - (0+1))
           case rel=>exact ⟨0+1,u1,u2,P1,Q1,P2,Q2,true,rfl,by omega,rfl,rfl,H,HR2,hI2⟩
           case measure=>rw [Kv.Ab];omega
          |false=>
           have Sj:Hid (O=(CC.nil,12)):=by
            show _=_
            refine (gU (CC.nil,12) (MI.trans ?_)).symm.trans (FZ (by decide))
            rw [Bz gN.Ab]
            refine Fw YH.Ab ?_
            rw [Jh.Ab,Bz YG.Ab]
            exact GV (by rw [HU.Ab])
           go_wp2_with (first|((with_reducible refine OS 71 ?_);refine Bd rfl CO (.tmp 71) (.tmp 68) rfl z 3 rfl (H.blk 2 rfl) #[.int .i64 u1,.int .i64 u2] rfl (by simp) rfl (by simp [Value.oneCell']) ?_;intro wq bq Ay;replace bq:Br wq z 63 #[.slice B m d,.slice MB mm md,.int .i64 fa,.int .i64 u1,.int .i64 u2,.int .i64 P1,.int .i64 Q1,.int .i64 P2,.int .i64 Q2]:=bq;replace H:=Aa (H.AY 2 rfl Ay bq);(try simp only [LS] at H);clear Ay bq)|((with_reducible refine OS 4 ?_);(refine Ec Cw H 1 rfl (#[.slice none 0 0,.slice none 0 0,.int .i64 0,.int .i64 0,.int .i64 0,.int .i64 0,.int .i64 0,.int .i64 0,.int .i64 0]) (by simp [Value.oneCell']) ?_;clear H;intro wq H;(try simp only [LS] at H))))
           refine Ce (AJ rfl Cw rfl (H.blk 1 rfl) rfl) rfl ?_
           rw [Sj.Ab]
           exact Cv H.to
         ·rw [show ((1:Nat):Int)=1 from rfl]
          have hu:=GQ (v:=v) (hI.2.2.1) (hI.2.2.2.1)
          have HG:=Aa (fun w=>GR P1 Q1 v w (hI.2.2.1) (hI.2.2.2.1) HV.Ab)
          have HU:Hid (OD ⟨⟨ds.map Dm.Ac,ms⟩,fa,P0,Q0,P1,Q1,P2,Q2⟩ 1 v=(⟨⟨ds.map Dm.Ac,ms⟩,fa,P0,Q0,(Cf P1 Q1 v).1.1,(Cf P1 Q1 v).1.2,P2,Q2⟩,(Cf P1 Q1 v).2)):=rfl
          generalize Cf P1 Q1 v=G at *
          obtain ⟨⟨u1,u2⟩,ok⟩:=G
          simp only at HG HU hu
          go_wp2_with ((with_reducible refine OP 65 ?_);(refine Ae rfl CO (.tmp 64) rfl z (5) rfl #[.int .i64 P1,.int .i64 Q1] rfl ((H.blk 2 rfl).part 5 _ rfl) ?_))
          refine (HG _).mono ?_;rintro e w6 ⟨rfl,hb6⟩
          replace H:=Aa (H.Au hb6)
          clear hb6 HG
          cases ok with
          |true=>
           have HR2:Hid (DU C1 0 ys=DU ⟨⟨ds.map Dm.Ac,ms⟩,fa,P0,Q0,u1,u2,P2,Q2⟩ (1+1) (ys.drop (1+1))):=by
            show _=_
            rw [Jh.Ab,Bz YG.Ab,GU (by rw [HU.Ab]),HU.Ab]
           have hI2:Hid (AP P0∧AP Q0∧AP u1∧AP u2∧AP P2∧AP Q2):=⟨hI.1,hI.2.1,hu.1,hu.2,hI.2.2.2.2.1,hI.2.2.2.2.2⟩
           clear Jh HU
           go_wp2_with ((with_reducible refine OS 71 ?_);refine Bd rfl CO (.tmp 71) (.tmp 68) rfl z 5 rfl (H.blk 2 rfl) #[.int .i64 u1,.int .i64 u2] rfl (by simp) rfl (by simp [Value.oneCell']) ?_;intro wq bq Ay;replace bq:Br wq z 63 #[.slice B m d,.slice MB mm md,.int .i64 fa,.int .i64 P0,.int .i64 Q0,.int .i64 u1,.int .i64 u2,.int .i64 P2,.int .i64 Q2]:=bq;replace H:=Aa (H.AY 2 rfl Ay bq);(try simp only [LS] at H);clear Ay bq)
           go_roundg (mn - (1+1))
           case rel=>exact ⟨1+1,P0,Q0,u1,u2,P2,Q2,true,rfl,by omega,rfl,rfl,H,HR2,hI2⟩
           case measure=>rw [Kv.Ab];omega
          |false=>
           have Sj:Hid (O=(CC.nil,12)):=by
            show _=_
            refine (gU (CC.nil,12) (MI.trans ?_)).symm.trans (FZ (by decide))
            rw [Bz gN.Ab]
            refine Fw YH.Ab ?_
            rw [Jh.Ab,Bz YG.Ab]
            exact GV (by rw [HU.Ab])
           go_wp2_with (first|((with_reducible refine OS 71 ?_);refine Bd rfl CO (.tmp 71) (.tmp 68) rfl z 5 rfl (H.blk 2 rfl) #[.int .i64 u1,.int .i64 u2] rfl (by simp) rfl (by simp [Value.oneCell']) ?_;intro wq bq Ay;replace bq:Br wq z 63 #[.slice B m d,.slice MB mm md,.int .i64 fa,.int .i64 P0,.int .i64 Q0,.int .i64 u1,.int .i64 u2,.int .i64 P2,.int .i64 Q2]:=bq;replace H:=Aa (H.AY 2 rfl Ay bq);(try simp only [LS] at H);clear Ay bq)|((with_reducible refine OS 4 ?_);(refine Ec Cw H 1 rfl (#[.slice none 0 0,.slice none 0 0,.int .i64 0,.int .i64 0,.int .i64 0,.int .i64 0,.int .i64 0,.int .i64 0,.int .i64 0]) (by simp [Value.oneCell']) ?_;clear H;intro wq H;(try simp only [LS] at H))))
           refine Ce (AJ rfl Cw rfl (H.blk 1 rfl) rfl) rfl ?_
           rw [Sj.Ab]
           exact Cv H.to
         ·rw [show ((2:Nat):Int)=2 from rfl]
          have hu:=GQ (v:=v) (hI.2.2.2.2.1) (hI.2.2.2.2.2)
          have HG:=Aa (fun w=>GR P2 Q2 v w (hI.2.2.2.2.1) (hI.2.2.2.2.2) HV.Ab)
          have HU:Hid (OD ⟨⟨ds.map Dm.Ac,ms⟩,fa,P0,Q0,P1,Q1,P2,Q2⟩ 2 v=(⟨⟨ds.map Dm.Ac,ms⟩,fa,P0,Q0,P1,Q1,(Cf P2 Q2 v).1.1,(Cf P2 Q2 v).1.2⟩,(Cf P2 Q2 v).2)):=rfl
          generalize Cf P2 Q2 v=G at *
          obtain ⟨⟨u1,u2⟩,ok⟩:=G
          simp only at HG HU hu
          go_wp2_with ((with_reducible refine OP 65 ?_);(refine Ae rfl CO (.tmp 64) rfl z (7) rfl #[.int .i64 P2,.int .i64 Q2] rfl ((H.blk 2 rfl).part 7 _ rfl) ?_))
          refine (HG _).mono ?_;rintro e w6 ⟨rfl,hb6⟩
          replace H:=Aa (H.Au hb6)
          clear hb6 HG
          cases ok with
          |true=>
           have HR2:Hid (DU C1 0 ys=DU ⟨⟨ds.map Dm.Ac,ms⟩,fa,P0,Q0,P1,Q1,u1,u2⟩ (2+1) (ys.drop (2+1))):=by
            show _=_
            rw [Jh.Ab,Bz YG.Ab,GU (by rw [HU.Ab]),HU.Ab]
           have hI2:Hid (AP P0∧AP Q0∧AP P1∧AP Q1∧AP u1∧AP u2):=⟨hI.1,hI.2.1,hI.2.2.1,hI.2.2.2.1,hu.1,hu.2⟩
           clear Jh HU
           go_wp2_with ((with_reducible refine OS 71 ?_);refine Bd rfl CO (.tmp 71) (.tmp 68) rfl z 7 rfl (H.blk 2 rfl) #[.int .i64 u1,.int .i64 u2] rfl (by simp) rfl (by simp [Value.oneCell']) ?_;intro wq bq Ay;replace bq:Br wq z 63 #[.slice B m d,.slice MB mm md,.int .i64 fa,.int .i64 P0,.int .i64 Q0,.int .i64 P1,.int .i64 Q1,.int .i64 u1,.int .i64 u2]:=bq;replace H:=Aa (H.AY 2 rfl Ay bq);(try simp only [LS] at H);clear Ay bq)
           go_roundg (mn - (2+1))
           case rel=>exact ⟨2+1,P0,Q0,P1,Q1,u1,u2,true,rfl,by omega,rfl,rfl,H,HR2,hI2⟩
           case measure=>rw [Kv.Ab];omega
          |false=>
           have Sj:Hid (O=(CC.nil,12)):=by
            show _=_
            refine (gU (CC.nil,12) (MI.trans ?_)).symm.trans (FZ (by decide))
            rw [Bz gN.Ab]
            refine Fw YH.Ab ?_
            rw [Jh.Ab,Bz YG.Ab]
            exact GV (by rw [HU.Ab])
           go_wp2_with (first|((with_reducible refine OS 71 ?_);refine Bd rfl CO (.tmp 71) (.tmp 68) rfl z 7 rfl (H.blk 2 rfl) #[.int .i64 u1,.int .i64 u2] rfl (by simp) rfl (by simp [Value.oneCell']) ?_;intro wq bq Ay;replace bq:Br wq z 63 #[.slice B m d,.slice MB mm md,.int .i64 fa,.int .i64 P0,.int .i64 Q0,.int .i64 P1,.int .i64 Q1,.int .i64 u1,.int .i64 u2]:=bq;replace H:=Aa (H.AY 2 rfl Ay bq);(try simp only [LS] at H);clear Ay bq)|((with_reducible refine OS 4 ?_);(refine Ec Cw H 1 rfl (#[.slice none 0 0,.slice none 0 0,.int .i64 0,.int .i64 0,.int .i64 0,.int .i64 0,.int .i64 0,.int .i64 0,.int .i64 0]) (by simp [Value.oneCell']) ?_;clear H;intro wq H;(try simp only [LS] at H))))
           refine Ce (AJ rfl Cw rfl (H.blk 1 rfl) rfl) rfl ?_
           rw [Sj.Ab]
           exact Cv H.to
        ·obtain rfl:j=mn:=by omega
         have I9:Hid (Eo j ⟨⟨ds.map Dm.Ac,ms⟩,fa,p0,q0,p1,q1,p2,q2⟩ (rs.map (·.l))=Eo j ⟨⟨ds.map Dm.Ac,ms⟩,fa,P0,Q0,P1,Q1,P2,Q2⟩ ((rs.map (·.l)).drop (k+1))):=by
          show _=_
          rw [MI.Ab,Bz gN.Ab]
          refine RS (YH.Ab) ?_
          rw [Jh.Ab,EY (by have:=YH.Ab;omega)]
          rfl
         clear MI Jh
         go_wp2_with fail
         go_roundg (rn - (k+1))
         case rel=>exact ⟨k+1,P0,Q0,P1,Q1,P2,Q2,ob,rfl,by omega,rfl,by go_num,H,I9,hI⟩
         case measure=>rw [Cg.Ab];omega
      ·have e1:(((yn:Nat):Int) !=mn)=true:=by simp;omega
       have Sj:Hid (O=(CC.nil,2)):=by
        show _=_
        refine (gU (CC.nil,2) (HRR.trans ?_)).symm.trans (FZ (by decide))
        rw [Bz gN.Ab]
        exact Ph (by have:=YH.Ab;omega)
       clear hyn
       go_wp2_with ((with_reducible refine OS 4 ?_);(refine Ec Cw H 1 rfl (#[.slice none 0 0,.slice none 0 0,.int .i64 0,.int .i64 0,.int .i64 0,.int .i64 0,.int .i64 0,.int .i64 0,.int .i64 0]) (by simp [Value.oneCell']) ?_;clear H;intro wq H;(try simp only [LS] at H)))
       refine Ce (AJ rfl Cw rfl (H.blk 1 rfl) rfl) rfl ?_
       rw [Sj.Ab]
       exact Cv H.to
     ·obtain rfl:k=rn:=by omega
      have Sj:Hid (O=(⟨⟨ds.map Dm.Ac,ms⟩,fa+k,P0,Q0,P1,Q1,P2,Q2⟩,0)):=by
       show _=_
       refine (gU (⟨⟨ds.map Dm.Ac,ms⟩,fa,P0,Q0,P1,Q1,P2,Q2⟩,0) (HRR.trans ?_)).symm.trans ?_
       ·rw [EY (by rw [Cq,hrl.Ab];omega)]
        rfl
       ·rfl
      clear HRR
      have cz2:=(H.blk 2 rfl).Am 2;have fz2:=(H.blk 2 rfl).frozen 2
      go_wp2_with (first|((with_reducible refine OP 83 ?_);replace H:=Aa (H.setCell 2 rfl 2 (.int .i64 (fa+k)));(try simp only [LS] at H);clear cz2 fz2;refine Cx Cw (H.blk 2 rfl) ?_)|((with_reducible refine OS 4 ?_);(refine Ec Cw H 1 rfl (#[.slice B m d,.slice MB mm md,.int .i64 (fa+k),.int .i64 P0,.int .i64 Q0,.int .i64 P1,.int .i64 Q1,.int .i64 P2,.int .i64 Q2]) (by simp [Value.oneCell']) ?_;clear H;intro wq H;(try simp only [LS] at H))))
      refine Ce (AJ rfl Cw rfl (H.blk 1 rfl) rfl) rfl ?_
      rw [Sj.Ab]
      exact ⟨⟨⟨⟨B,m,d,es⟩,⟨MB,mm,md,mt⟩⟩,fa+k,P0,Q0,P1,Q1,P2,Q2⟩,rfl,Cm (fun s=>(⟨s,fa+k,P0,Q0,P1,Q1,P2,Q2⟩:CC)) wI.Ab,⟨(H.at_ 3 rfl).rd,by show _≤fa+(k:Int)∧fa+(k:Int)≤_;omega,hI.1,hI.2.1,hI.2.2.1,hI.2.2.2.1,hI.2.2.2.2.1,hI.2.2.2.2.2⟩,IW (H.at_ 3 rfl),H.to,H.get 3 rfl,H.new 3 rfl⟩
 ·have ZT:Hid (O=(CC.nil,Cj ⟨⟨ds.map Dm.Ac,ms⟩,fa,p0,q0,p1,q1,p2,q2⟩)):=by have h:=HO.Ab;unfold BO at h;rw [Ak hE] at h;exact h.symm
  have dE:(Cj ⟨⟨ds.map Dm.Ac,ms⟩,fa,p0,q0,p1,q1,p2,q2⟩==0)=false:=by simpa using hE
  generalize Cj ⟨⟨ds.map Dm.Ac,ms⟩,fa,p0,q0,p1,q1,p2,q2⟩=E at *
  clear hE HO HK
  go_wp2_with ((with_reducible refine OS 4 ?_);(refine Ec Cw H 1 rfl (#[.slice none 0 0,.slice none 0 0,.int .i64 0,.int .i64 0,.int .i64 0,.int .i64 0,.int .i64 0,.int .i64 0,.int .i64 0]) (by simp [Value.oneCell']) ?_;clear H;intro wq H;(try simp only [LS] at H)))
  refine Ce (AJ rfl Cw rfl (H.blk 1 rfl) rfl) rfl ?_
  rw [ZT.Ab]
  exact Cv H.to
def Ct.ints (s:Ct):Prop:=AP s.fa∧AP s.p0∧AP s.q0∧AP s.p1∧AP s.q1∧AP s.p2∧AP s.q2
theorem Ct.rd.ints {s:Ct} {w:World} (h:s.rd w):s.ints:=⟨h.fa,h.p0,h.q0,h.p1,h.q1,h.p2,h.q2⟩
theorem Ct.ints.rd {s:Ct} {w:World} (h:s.ints) (ho:QU s.sc w):s.rd w:=⟨ho.rd,h.1,h.2.1,h.2.2.1,h.2.2.2.1,h.2.2.2.2.1,h.2.2.2.2.2.1,h.2.2.2.2.2.2⟩
end Go.Proofs.YtijplolmkcdflaaGreat
namespace Go.Proofs.YtijplolmkcdflaaGreat
open Tryz
open Go.RowKit Go.ChangeShapes Go.WideShapes Go.Deep
abbrev exSC:SC:=⟨[exDC],[[109]]⟩
end Go.Proofs.YtijplolmkcdflaaGreat
namespace Go.Proofs.YtijplolmkcdflaaGreat
open Go.RowKit
end Go.Proofs.YtijplolmkcdflaaGreat
namespace Go.Proofs.YtijplolmkcdflaaGreat
open Go.RowKit Go.ChangeShapes Go.WideShapes Go.Deep
structure Shp where
 sz:Row (Row Int)
 ms:Int
abbrev Shp.cs (x:Shp):Array Value:=#[.slice x.sz.A x.sz.n x.sz.c,.int .i64 x.ms]
structure Shp.rd (w:World) (x:Shp):Prop where
 sz:x.sz.rd w
 ms:AP x.ms
theorem Shp.rd.mono {w w':World} {x:Shp} (h:x.rd w) (hb:Aj w w'):x.rd w':=⟨h.sz.mono hb,h.ms⟩
abbrev Shp.Ac (x:Shp):List (List Int):=x.sz.l.map Row.l
end Go.Proofs.YtijplolmkcdflaaGreat
namespace Go.Proofs.YtijplolmkcdflaaGreat
open Go.RowKit
structure Tiers (d:DC) (p:PC) (T M B:Nat):Prop where
 t:iY p=T
 m:max p.t (iY p)=M
 b:max p.MN (iY p)=B
 tm:T≤M
 tb:T≤B
 ml:M<d.AB.length
 bl:B<d.AB.length
 pm:p.f≠0→p.t=M
 pb:p.g=true→p.MN=B
 p0:0≤p.t
 f:p.f=0∨p.f=1∨p.f=2
theorem Zl (a b:List UInt8):(Op.bytesLess a b||a==b)=!Op.bytesLess b a:=by
 cases h:Op.bytesLess a b with
 |true=>
  cases h2:Op.bytesLess b a with
  |true=>have:=Ng h h2;rw [Oz] at this;cases this
  |false=>rfl
 |false=>
  by_cases e:a=b
  ·subst e
   rw [Oz]
   simp
  ·rw [kZ h e]
   simp [e]
theorem vB (l:List (Row Int)):l.flatMap Ar.cells=l.map Row.v:=by
 induction l with
 |nil=>rfl
 |cons a l ih=>rw [CY,DI,ih];(try rfl)
def Row.cut {α:Type} [Ar α] (x:Row α) (j k:Nat):Row α:=⟨if x.c=j then x.A else x.A.map (·.add (j * 1)),k - j,x.c - j,(x.l.drop j).take (k - j)⟩
theorem jN {s:SC} {rows:List RC} (h:∀ r ∈ rows,∃ ks,rowOf s r=.ok ks):FN s rows=0:=by
 induction rows with
 |nil=>rfl
 |cons r rows ih=>
  obtain ⟨ks,hk⟩:=h r (Dr ..)
  rw [FN,hk]
  exact ih fun x hx=>h x (EO _ hx)
theorem vS {s:SC} {rows q:List RC} (h:BF s rows=0) (hm:∀ r ∈ q,r ∈ rows) (hl:q.length≤rows.length):BF s q=0:=by
 obtain ⟨h1,h2,h3⟩:=DK h
 unfold BF
 rw [Ah (by rw [h1];simp),Ah (by omega)]
 exact jN fun r hr=>h3 r (hm r hr)
end Go.Proofs.YtijplolmkcdflaaGreat
namespace Go.Proofs.YtijplolmkcdflaaGreat
open Tryz
open Go.RowKit Go.ChangeShapes Go.WideShapes Go.Deep
theorem lZ {α:Type} [Ar α] (l:List α) (j:Nat):(l.drop j).flatMap Ar.cells=(l.flatMap Ar.cells).drop (j * Ar.size α):=by
 induction l generalizing j with
 |nil=>simp
 |cons a l ih=>
  cases j with
  |zero=>simp
  |succ j=>
   rw [Y6,ih,CY,show (j+1) * Ar.size α=(Ar.cells a).length+j * Ar.size α by rw [Ar.len,Gs];omega,List.drop_length_add_append]
theorem lW {α:Type} [Ar α] (l:List α) (j:Nat):(l.take j).flatMap Ar.cells=(l.flatMap Ar.cells).take (j * Ar.size α):=by
 induction l generalizing j with
 |nil=>simp
 |cons a l ih=>
  cases j with
  |zero=>simp
  |succ j=>
   rw [nW,CY,CY,ih,show (j+1) * Ar.size α=(Ar.cells a).length+j * Ar.size α by rw [Ar.len,Gs];omega,List.take_length_add_append]
def Row.part {α:Type} [Ar α] (x:Row α) (j k:Nat):Row α:=⟨if x.c=j then x.A else x.A.map (·.add (j * Ar.size α)),k - j,x.c - j,(x.l.drop j).take (k - j)⟩
theorem vX (a:Addr) (m:Nat):(a.add m).block=a.block:=by unfold Addr.add;split<;>rfl
theorem vY (a:Addr) (m n:Nat):(a.add m).add n=a.add (m+n):=by
 unfold Addr.add
 by_cases h1:m=0
 ·subst h1;simp
 ·by_cases h2:n=0
  ·subst h2;simp
  ·rw [Ah h1,Ah h2,Ah (by omega)]
   simp [Ns]
theorem oL {α:Type} [Ar α] {w:World} {x:Row α} (h:x.rd w) (hc:x.n≤x.c) {j k:Nat} (hj:j≤k) (hk:k≤x.n):(x.part j k).rd w:=by
 have hl:=h.len
 refine ⟨⟨?_,fun hpos=>?_⟩,fun y hy=>h.all y (QX (UX hy)),by have:=h.n63;show k - j≤_;omega⟩
 ·rw [Dz]
  show ((x.l.drop j).take (k - j)).length * _=(k - j) * _
  rw [Fa,IA,PD (by omega)]
 ·have hp:0<k - j:=hpos
  obtain ⟨ad,e,h1,h2⟩:=h.r.2 (by omega)
  refine ⟨ad.add (j * Ar.size α),?_,(show (ad.add (j * Ar.size α)).block<_ by rw [vX];exact h1),fun i u hu=>?_⟩
  ·show (if x.c=j then x.A else x.A.map (·.add (j * Ar.size α)))=_
   rw [Ah (by omega),e]
   rfl
  ·have hu:(((x.l.drop j).take (k - j)).flatMap Ar.cells)[i]?=some u:=hu
   rw [lW,lZ,Qk] at hu
   split at hu
   ·rw [KN] at hu
    have:=h2 (j * Ar.size α+i) u hu
    rw [←this,vY]
   ·cases hu
theorem oC:prog.underlying 26=some (.slice (prog.elem 26)):=by kernel_rfl
theorem xY (x:Row Rw) (j:Nat) (hj:j≤x.n) (w:World):(Instr.sliceAt 26 (.slice x.A x.n x.c) (some (.int .i64 j)) none none).run prog w=.ok (.slice (x.part j x.n).A (x.part j x.n).n (x.part j x.n).c) w:=by
 have hz:∀ w,(sizeOf (prog.elem 26)).run prog w=.ok 2 w:=fun _=>by kernel_rfl
 rw [run_sliceAt_slice (h:=oC),run_slice_l (ht:=oC) (h0:=by omega) (h1:=by omega),hz]
 simp [sliced,Row.part,Ar.size]
theorem xX (x:Row Rw) (j:Nat) (hj:j≤x.c) (w:World):(Instr.sliceAt 26 (.slice x.A x.n x.c) none (some (.int .i64 j)) none).run prog w=.ok (.slice (x.part 0 j).A (x.part 0 j).n (x.part 0 j).c) w:=by
 have hz:∀ w,(sizeOf (prog.elem 26)).run prog w=.ok 2 w:=fun _=>by kernel_rfl
 rw [run_sliceAt_slice (h:=oC),run_slice_h (ht:=oC) (h0:=by omega) (h2:=by omega),hz]
 simp [sliced,Row.part]
theorem sU {H:Type} {enc:TypeId × Value→H} {w:World} {base b0:Nat} {spare:Nat→Bool} {held:Bool} {r:Reach} {v:Value} {d:DataW H} {p:List MemPlace}
 (hv:Value.okWide prog w r b0 26 v) (h:DataW.Trod enc prog w base spare held 26 v d p) (hz:MH prog 26 d):∃ x:Row Rw,v=x.v∧x.ok w:=
 open_row underlying26 c_rw (by kernel_rfl) zB hv h hz
end Go.Proofs.YtijplolmkcdflaaGreat
