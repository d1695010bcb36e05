/- What follows was written short by a program: the walks that lead to YtijplolmkcdflaaGreatModelPlays. -/
import Derived.Test.YtijplolmkcdflaaGreatS4
set_option maxHeartbeats 8000000
set_option maxRecDepth 100000
set_option linter.unusedVariables false
set_option linter.unusedSimpArgs false
namespace Go.Proofs.YtijplolmkcdflaaGreat
open Tryz
open Go.RowKit
theorem ND (l:List Br):∀ u ∈ (l.flatMap AY.cells:List Value),u.oneCell'=true:=fun u hu=>by
 obtain ⟨c,_,hc⟩:=List.mem_flatMap.1 hu;exact JG c u hc
theorem Uv (w:World) (e:TypeId) (size:Nat):(w.alloc (.cells #[] e)).ownsRow w.heap.size e size (.slice (some ⟨w.heap.size,0,none⟩) 0 0) 0 []:=
 World.ownsRow_made w #[] 0 (Ci _) Za4 uH
theorem yM (x:Row Br) (w:World) (hx:x.ok w) (hn:x.n≤1000000):
 Calls prog 62 #[.slice x.A x.n x.c] w fun e w'=>∃ (A:Option Addr) (c:Nat),e=.returned (.slice A x.n c)∧Ai w w'∧w'.ownsRow w.heap.size 97 11 (.slice A x.n c) x.n (x.l.flatMap AY.cells):=by
 have hr:Rd w 11 x.A x.n (x.l.flatMap AY.cells):=hx.rd;have hlen:Hid (x.l.length=x.n):=hx.len;obtain ⟨A,n,c,l⟩:=x;simp only at *;clear hx;cases A with
 |none=>
  obtain rfl:n=0:=by
   rcases Vk n with h|h
   ·exact h
   ·obtain ⟨ad,e,_⟩:=hr.2 Xl;cases e
  have hl:l=[]:=LD hlen.Ab;subst hl;have he:=fun (c:Nat) (w:World)=>Xv (P:=prog) w 54 97 none 0 c 0 0 underlying54
  go_enter func62,ntmps62;go_wp2;go_ret;exact ⟨none,0,rfl,Ai.refl _,Tw _ _ _ _⟩
 |some ad=>
  have he:=fun (n c:Nat) (w:World)=>Xv (P:=prog) w 54 97 (some ad) n c 0 0 underlying54
  have HRR:=Aa (fun w' (hb:Ai w w')=>hr.Av hb);have H:=Aa ((SL.start No w).Co ((Ai.refl _).alloc _) (Uv w 97 11));(try simp only [LS] at H);go_enter func62,ntmps62;go_wp2_with ((with_reducible refine OP 7 ?_);(refine Az rfl (.tmp 5) (.tmp 6) _ rfl EI 0 (Bj _) _ 0 _ rfl (H.row 0 rfl) (some ad) n c (l.flatMap AY.cells) rfl (HRR _ H.to) (ND l) Za4 Xl ?_;intro vq wq AJ Aq AQ;replace H:=Aa (H.setRow 0 rfl Aq AJ AQ);(try simp only [LS] at H);clear AJ Aq AQ;obtain ⟨A2,c2,rfl,_⟩:=Ao (H.row 0 rfl);simp only [FI,FC] at H ⊢));go_ret;exact ⟨A2,c2,rfl,H.to,H.M7 0 rfl⟩
def Al6 (x:JZ) (w:World) (e:Ending) (w':World):Prop:=
 ∃ y:Row Br,e=.returned (.pointer (some ⟨w.heap.size,0,none⟩))∧cons y.l=cons x.rows.l∧SL No w w' [Aw w.heap.size 86 (JZ.mk x.ct y x.has x.closed).ms,rRun y]
theorem U9 (B:Nat) (x:JZ) (w:World) (hb:Bh w B 86 x.ms) (hx:x.rows.ok w) (hn:x.rows.n≤1000000):Calls prog 20 #[.pointer (some ⟨B,0,none⟩)] w (Al6 x w):=by
 have Ws:=Aa (fun w' (h:Ai w w')=>hb.Av h);have PM:=Aa (fun w' (h:Ai w w')=>KV x.rows w' (hx.mono h) hn);have hxl:Hid (x.rows.l.length=x.rows.n):=hx.len;have H:=Aa (SL.start No w);clear hb hx;go_enter func20,ntmps20;go_upto_region 4 with (first|((with_reducible refine OP 8 ?_);(refine CY rfl Ae4 (.tmp 7) rfl _ rfl (Ws _ H.to) rfl ?_))|((with_reducible refine OS 3 ?_);(refine DX Ae4 (x.ms) (Am3 x) ?_;replace H:=Aa (H.alloc (x.ms) 86);(try simp only [LS] at H))));(try simp only [LS] at H);obtain ⟨g,hg⟩:∃ g,g=w.heap.size:=⟨_,rfl⟩;rw [←hg] at H ⊢;have HGG:=Aa hg;clear hg;generalize World.alloc w _=w1 at *;have c9:w1.cell? ⟨B,9,none⟩=some (.slice x.rows.A x.rows.n x.rows.c):=(Ws _ H.to).cell 9;go_wp2_with fail;refine (PM _ H.to).mono ?_;rintro e w2 ⟨v,fs,rfl,hG,hfs⟩;obtain ⟨X,rfl,hXl,hXn,hXok,hXN⟩:=hG.run (by have h:=CW List.length hfs;rw [AR,AR,hxl.Ab] at h;omega);have HC:Hid (cons X.l=cons x.rows.l):=by show _=_;rw [hXl];exact hfs
 replace H:=Aa (H.add hG.Av _ hXN.1 hXN.2);(try simp only [LS] at H);clear hG hfs hXl hXn hXok hXN c9 PM Ws;have cz:=(H.blk 0 rfl).Ap 9;have fz:=(H.blk 0 rfl).frozen 9;simp only [Row.v];go_wp2_with fail;replace H:=Aa (H.setCell 0 rfl 9 (.slice X.A X.n X.c));(try simp only [LS] at H);go_ret;rw [HGG.Ab] at H ⊢;exact ⟨X,rfl,HC.Ab,H.Ab⟩
theorem aR (B:Nat) (x:JZ) (w:World) (hb:Bh w B 86 x.ms) (hx:x.rows.ok w) (hn:x.rows.n≤5000) (hf:QW (cons x.rows.l)):
 Calls prog 18 #[.pointer (some ⟨B,0,none⟩)] w fun e w'=>∃ y:Row Br,e=.returned y.v∧cons y.l=(if x.has=true then Kr (cons x.rows.l) else [])∧y.ok w'∧y.n≤1000000∧Ai w w':=by
 have Ws:=Aa (fun w' (h:Ai w w')=>hb.Av h);have HHA:=Aa (fun w' (h:Ai w w')=>VH B x w' (hb.Av h));have HAN:=Aa (fun w' (h:Ai w w')=>uA x.rows w' (hx.mono h) hn);have HFD:=Aa (Oa hf);have H:=Aa (SL.start No w);generalize hR:(if x.has=true then Kr (cons x.rows.l) else [])=R;have HR:=Aa hR;clear hb hx hf hR;go_enter func18,ntmps18;go_wp2_with fail;refine (HHA _ H.to).mono ?_;rintro e w1 ⟨rfl,hb1⟩;replace H:=Aa (H.Av hb1);clear hb1 HHA;cases hh:x.has with
 |false=>
  go_wp2_with fail;go_ret;exact ⟨⟨none,0,0,[]⟩,rfl,by rw [←HR.Ab,hh];rfl,(Qa _).rows,by show (0:Nat)≤_;omega,H.to⟩
 |true=>
  have c9:w1.cell? ⟨B,9,none⟩=some (.slice x.rows.A x.rows.n x.rows.c):=(Ws _ H.to).cell 9;go_wp2_with fail;refine (HAN _ H.to).mono ?_;rintro e w2 ⟨v,k,rfl,hF,hb2⟩;replace H:=Aa (H.Av hb2);rcases hF with ⟨h,_⟩|⟨y,hy,rfl,rfl,TQ,hyn⟩
  ·rw [HFD.Ab] at h;cases h
  have HY:Hid (cons y.l=Kr (cons x.rows.l)):=by show _=_;rw [HFD.Ab] at hy;injection hy with hy;exact hy.symm
  have HYO:=Aa TQ;clear hy TQ c9 hb2 HAN;go_wp2_with fail;go_ret;exact ⟨y,rfl,by rw [←HR.Ab,Al hh];exact HY.Ab,HYO.Ab,hyn,H.to⟩
theorem tO {c:CC} (h:Bu c=0):(Qx c).length≤900100:=by
 have hs:Ay c.sc=0:=by
  by_cases e:Ay c.sc=0
  ·exact e
  ·rw [Xj e] at h;exact absurd h e
 have h1:=Uh hs;have h2:=Cc c.fa.toNat;have h3:(((QR c).take c.sc.ms.length).flatMap JU).length≤18 * ((QR c).take c.sc.ms.length).length:=VS fun x hx=>by
  have:=Cc (FV x.1);have:=Cc (FV x.2);unfold JU;rw [Cn];omega
 have h4:((QR c).take c.sc.ms.length).length≤3:=by rw [FK];show min _ 3≤3;omega
 unfold Qx;simp only [Cn];omega
theorem U0 (B:Nat) (x:JZ) (w:World) (hb:Bh w B 86 x.ms) (hx:x.ct.rd w) (hm:C9 x.ct.sc) (hE:x.has=true→Bu x.ct.Ac=0) (hok:Vd x.ct.Ac):
 Calls prog 47 #[.pointer (some ⟨B,0,none⟩)] w fun e w'=>∃ D:Ct,e=.returned (.agg D.cs)∧D.Ac=(if x.has=true then x.ct.Ac else CC.nil)∧D.rd w'∧C9 D.sc∧Ai w w':=by
 have Ws:=Aa (fun w' (h:Ai w w')=>hb.Av h);have HHA:=Aa (fun w' (h:Ai w w')=>VH B x w' (hb.Av h));have HPU:=Aa (fun w' (h:Ai w w')=>yR x.ct w' (hx.mono h) hm);have HE:=Aa hE;have KC:=Aa hok;have H:=Aa ((SL.start No w).alloc #[.slice none 0 0,.slice none 0 0,.int .i64 0,.int .i64 0,.int .i64 0,.int .i64 0,.int .i64 0,.int .i64 0,.int .i64 0] 63);(try simp only [LS] at H);generalize hR:(if x.has=true then x.ct.Ac else CC.nil)=R;have HR:=Aa hR;clear hb hx hm hE hok hR;go_enter func47,ntmps47;go_upto_region 1 with fail;generalize w.heap.size=q at *;generalize World.alloc w _=w0 at *;go_wp2_with fail;refine (HHA _ H.to).mono ?_;rintro e w1 ⟨rfl,hb1⟩;replace H:=Aa (H.Av hb1);clear hb1 HHA;cases hh:x.has with
 |false=>
  have hbd:∀ w:World,(Instr.build 63 #[]).run prog w=.ok (.agg #[.slice none 0 0,.slice none 0 0,.int .i64 0,.int .i64 0,.int .i64 0,.int .i64 0,.int .i64 0,.int .i64 0,.int .i64 0]) w:=fun _=>by kernel_rfl
  go_wp2_with ((with_reducible refine OS 2 ?_);(refine Cj BI H 0 rfl (#[.slice none 0 0,.slice none 0 0,.int .i64 0,.int .i64 0,.int .i64 0,.int .i64 0,.int .i64 0,.int .i64 0,.int .i64 0]) Za2 ?_;clear H;intro wq H;(try simp only [LS] at H)));refine Bc (AO rfl BI rfl (H.blk 0 rfl) rfl) rfl ?_;exact ⟨Ct.nil,rfl,by rw [←HR.Ab,hh];rfl,NF _,Sw,H.to⟩
 |true=>
  have hE:=HE hh;have hv:OM x.ct.Ac=(Qx x.ct.Ac,0):=by unfold OM;rw [Al hE]
  have Tg:=Aa (fun w'=>mJ (Qx x.ct.Ac) w' (by have:=tO hE;omega));rw [tL hE KC.Ab] at Tg;rw [hv] at HPU;clear hE hv;go_wp2_with ((with_reducible refine OP 15 ?_);refine Af rfl BI (.tmp 14) rfl B 0 rfl x.ct.cs rfl ((Ws _ H.to).part 0 x.ct.cs.toList rfl) ?_);refine (HPU _ H.to).mono ?_;rintro e w2 ⟨rfl,hb2⟩;replace H:=Aa (H.Av hb2);clear hb2 HPU;go_wp2_with fail;refine (Tg _).mono ?_;rintro e w3 ⟨D,rfl,hD,Fj,rW,hb3,hN⟩;replace H:=Aa ((H.add hb3 _ hN.1 hN.2));(try simp only [LS] at H);have HD:=Aa hD;have HDI:=Aa Fj.ints;clear hD Fj hb3 hN Tg;go_upto_region 5 with ((with_reducible refine OS 5 ?_);(refine DX BI (D.cs) (Oc D) ?_;replace H:=Aa (H.alloc (D.cs) 63);(try simp only [LS] at H)));(try simp only [Act.put,LP]);generalize w3.heap.size=y at *;generalize World.alloc w3 _=w4 at *;go_wp2_with (first|((with_reducible refine OP 24 ?_);(refine Bf BI (H.blk 2 rfl) ?_))|((with_reducible refine OS 2 ?_);(refine Cj BI H 0 rfl (D.cs) (Oc D) ?_;clear H;intro wq H;(try simp only [LS] at H))));refine Bc (AO rfl BI rfl (H.blk 0 rfl) rfl) rfl ?_;exact ⟨D,rfl,by rw [←HR.Ab,Al hh];exact HD.Ab,HDI.rd (H.at_ 1 rfl),rW,H.to⟩
end Go.Proofs.YtijplolmkcdflaaGreat
namespace Go.Proofs.YtijplolmkcdflaaGreat
open Go.RowKit
end Go.Proofs.YtijplolmkcdflaaGreat
namespace Go.Proofs.YtijplolmkcdflaaGreat
open Go.RowKit Go.ChangeShapes Go.WideShapes Go.Deep
structure Shp where
 sz:Row (Row Int)
 ms:Int
abbrev Shp.cs (x:Shp):Array Value:=#[.slice x.sz.A x.sz.n x.sz.c,.int .i64 x.ms]
structure Shp.rd (w:World) (x:Shp):Prop where
 sz:x.sz.rd w
 ms:AZ x.ms
theorem Shp.rd.mono {w w':World} {x:Shp} (h:x.rd w) (hb:Ai w w'):x.rd w':=⟨h.sz.mono hb,h.ms⟩
abbrev Shp.Ac (x:Shp):List (List Int):=x.sz.l.map Row.l
end Go.Proofs.YtijplolmkcdflaaGreat
namespace Go.Proofs.YtijplolmkcdflaaGreat
open Go.RowKit
structure Tiers (d:DC) (p:PC) (T M B:Nat):Prop where
 t:vP p=T
 m:max p.t (vP p)=M
 b:max p.Mf (vP p)=B
 tm:T≤M
 tb:T≤B
 ml:M<d.Bi.length
 bl:B<d.Bi.length
 pm:p.f≠0→p.t=M
 pb:p.g=true→p.Mf=B
 p0:0≤p.t
 f:p.f=0∨p.f=1∨p.f=2
end Go.Proofs.YtijplolmkcdflaaGreat
namespace Go.Proofs.YtijplolmkcdflaaGreat
open Tryz
open Go.RowKit
theorem yY {Bi:List TC} (h:Iu Bi) {k:Nat} {U V:TC} (hU:Bi[k]?=some U) (hV:Bi[k+1]?=some V):U.up.length=U.ts.length∧∀ z ∈ U.up,0≤z∧z<V.ts.length:=by
 have h2:=dL h k;obtain ⟨l1,rfl⟩:=CB.1 hU;obtain ⟨l2,rfl⟩:=CB.1 hV;rw [Eh l1,Eh l2] at h2;exact ⟨(Iu.step h2).1,(Iu.step h2).2.1⟩
theorem gZ (d:Dm) (f t i:Nat) (w:World) (hd:d.rd w) (hok:Iu (d.tr.l.map Bt.Ac)) (hft:f≤t) (htn:t<d.tr.n) (hi:i<Eu (d.tr.l.map Bt.Ac) f):
 Calls prog 162 #[.agg d.cs,.int .i64 f,.int .i64 t,.int .i64 i] w fun e w'=>e=.returned (.int .i64 (DI (d.tr.l.map Bt.Ac) f t i))∧Ai w w':=by
 have hlen:Hid (d.tr.l.length=d.tr.n):=hd.tr.len;have H:=Aa ((SL.start No w).alloc d.cs 73);(try simp only [LS] at H);have HD:=Aa (fun w' (hb:Ai w w')=>hd.tr.mono hb);have KC:=Aa hok;have hw:=(OH hok hft (by rw [CQ,hlen.Ab];exact htn) hi);have HE:Hid (DI (d.tr.l.map Bt.Ac) f t i=IZ ((d.tr.l.map Bt.Ac).drop f) (t - f) i):=hw.1;obtain ⟨T,hT⟩:∃ X,d.tr.l[f]?=some X:=⟨_,Fp (by rw [hlen.Ab];omega)⟩;have hTr:=hd.tr.all T (CU hT);have hTn:Eu (d.tr.l.map Bt.Ac) f=T.ts.n:=by rw [Qc hT];exact hTr.ts.len
 have HI:Hid (i<Eu (d.tr.l.map Bt.Ac) f):=hi;rw [hTn] at hi;have t63:=hTr.ts.n63;have d63:=hd.tr.n63;obtain ⟨bb,oo,T',hA,hbb,hT',_,hrg⟩:=hd.tr.JO (k:=f) Xl;obtain rfl:T=T':=by rw [hT] at hT';injection hT'
 have hrc:=((Ai.refl w).alloc (.cells d.cs 73)|>.cell (p:=⟨bb,oo+f * 3+1,none⟩) hbb).trans (hrg 1 (.slice T.ts.A T.ts.n T.ts.c) rfl);obtain ⟨R,hR⟩:∃ R,R=DI (d.tr.l.map Bt.Ac) f t i:=⟨_,rfl⟩;rw [←hR] at HE hw ⊢;have hR0:=hw.2.1;clear hR hw hT hT' hTr hTn hrg hd hok;obtain ⟨nm,⟨A,n,c,Bi⟩⟩:=d;simp only [Dm.cs] at *;subst hA;go_enter func162,ntmps162;go_upto_region 1 with fail;generalize w.heap.size=x at *;generalize World.alloc w _=w1 at *;have cd:w1.cell? ⟨x,1,none⟩=some (.slice (some ⟨bb,oo,none⟩) n c):=(H.blk 0 rfl).cell 1;have i0:(0:Int)≤f:=by omega
 have i1:(f:Int)<n:=by omega
 have d1:decide ((n:Int)≤t)=false:=by simp;omega
 have d2:decide ((t:Int)<f)=false:=by simp;omega
 have d3:decide ((T.ts.n:Int)≤i)=false:=by simp;omega
 have e1:decide (n≤t)=false:=by simp;omega
 have e2:decide (t<f)=false:=by simp;omega
 have e3:decide (T.ts.n≤i)=false:=by simp;omega
 go_wp2_with fail;clear cd hrc d1 d2 d3 e1 e2 e3;go_loopg [3,9] (t - f) (fun gg s3 s9 wr=>∃ (k j:Nat),gg=t - k∧f≤k∧k≤t∧s3=.int .i64 j∧s9=.int .i64 k∧Hid (j<Eu (Bi.map Bt.Ac) k)∧Hid (R=IZ ((Bi.map Bt.Ac).drop k) (t - k) j)∧Hid (SL No w wr [Aw x 73 #[.string ⟨nm.toArray⟩,.slice (some ⟨bb,oo,none⟩) n c]]));case atStart=>exact ⟨f,i,rfl,Xl,Xl,rfl,rfl,HI,HE,H⟩
 case round=>
  clear H HE HI;obtain ⟨k,j,BR,hk0,hk,rfl,rfl,HI,HE,H⟩:=hrel;have Cs:=Aa BR;clear BR;by_cases hlt:k<t
  ·obtain ⟨b2,o2,U,hA2,hb2,hU,hUr,hrg2⟩:=(HD _ H.to).JO (k:=k) (show k<n by omega);simp only [Option.some.injEq,Addr.mk.injEq] at hA2;obtain ⟨rfl,rfl,_⟩:=hA2;have hUc:(Bi.map Bt.Ac)[k]?=some U.Ac:=by rw [Ee,hU];(try rfl)
   obtain ⟨V,hV⟩:∃ X,Bi[k+1]?=some X:=⟨_,Fp (by rw [hlen.Ab];omega)⟩;have hVc:(Bi.map Bt.Ac)[k+1]?=some V.Ac:=by rw [Ee,hV];(try rfl)
   obtain ⟨hs1,hs2⟩:=yY KC hUc hVc;have hjU:j<U.up.n:=by
    have h:=HI.Ab;rw [Qc hU] at h;have h2:U.up.l.length=U.up.n:=hUr.up.len;have h3:U.up.l.length=U.ts.l.length:=hs1;omega
   obtain ⟨b3,o3,z,hA3,hz,q1⟩:=Oz rfl hUr.up.r (k:=j) hjU;have q1:=q1 _ rfl;have hz2:=hs2 z (CU hz);obtain ⟨z,rfl⟩:∃ m:Nat,z=m:=⟨z.toNat,Xl⟩;have HI2:Hid (z<Eu (Bi.map Bt.Ac) (k+1)):=by
    show _<_;rw [Qc hV];have:(z:Int)<V.ts.l.length:=hz2.2;omega
   have HE2:Hid (R=IZ ((Bi.map Bt.Ac).drop (k+1)) (t - (k+1)) z):=by
    show _=_;rw [HE.Ab,show t - k=(t - (k+1))+1 by omega,aT hUc Xl]
    congr 1
    unfold JX;rw [Ak Xl,Db,show U.Ac.up[j]?=some (z:Int) from hz]
    rfl
   have hc2:=hrg2 2 (.slice U.up.A U.up.n U.up.c) rfl;have cd:wr.cell? ⟨x,1,none⟩=some (.slice (some ⟨bb,oo,none⟩) n c):=(H.blk 0 rfl).cell 1;rw [hA3] at hc2;have u63:=hUr.up.n63;have d4:decide ((k:Int)<t)=true:=by simp;omega
   have e4:decide (k<t)=true:=by simp;omega
   have d5:decide ((U.up.n:Int)≤j)=false:=by simp;omega
   have e5:decide (U.up.n≤j)=false:=by simp;omega
   have i2:(0:Int)≤k:=by omega
   have i3:(k:Int)<n:=by omega
   have i4:(0:Int)≤j:=by omega
   have i5:(j:Int)<U.up.n:=by omega
   clear hU hV hUc hVc hs1 hs2 hz hz2 hrg2 hUr HE HI hb2 hA3;generalize U.up.n=un at *;generalize U.up.c=uc at *;go_wp2_with fail;clear q1 hc2 cd;go_roundg (t - (k+1));case rel=>exact ⟨k+1,z,rfl,Xl,Xl,rfl,by go_num,HI2,HE2,H⟩
   case measure=>rw [Cs.Ab];omega
  ·obtain rfl:k=t:=by omega
   have HRJ:Hid (R=j):=by show _=_;rw [HE.Ab,PU,Uz]
   clear HE;go_wp2;go_ret;rw [HRJ.Ab];exact ⟨rfl,H.to⟩
theorem SK (a b:List UInt8):(Op.bytesLess a b||a==b)=!Op.bytesLess b a:=by
 cases h:Op.bytesLess a b with
 |true=>
  cases h2:Op.bytesLess b a with
  |true=>have:=Ql h h2;rw [RY] at this;cases this
  |false=>rfl
 |false=>
  by_cases e:a=b
  ·subst e;rw [RY];simp
  ·rw [xM h e];simp [e]
theorem N7 (D:Dm) (p:Pk) (M k:Nat) (T:Bt) (u:List UInt8) (w:World) (hD:D.rd w) (hp:p.rd w) (hT:D.tr.l[M]?=some T) (hu:T.ts.l[k]?=some u) (hM:p.f≠0→p.t=M) (hf:p.f=0∨p.f=1∨p.f=2):
 Calls prog 161 #[.agg D.cs,.agg p.cs,.int .i64 k] w fun e w'=>e=.returned (.bool (KQ p.Ac u))∧Ai w w':=by
 have H:=Aa (((SL.start No w).alloc D.cs 73).alloc p.cs 80);(try simp only [LS] at H);have hTr:=hD.tr.all T (CU hT);have hMn:M<D.tr.n:=by have:=(CB.1 hT).1;rw [hD.tr.len] at this;exact this
 have hkn:k<T.ts.n:=by have:=(CB.1 hu).1;rw [hTr.ts.len] at this;exact this
 obtain ⟨bt,ot,T',hA,hbt,hT',_,hrg⟩:=hD.tr.JO (k:=M) hMn;obtain rfl:T=T':=by rw [hT] at hT';injection hT'
 obtain ⟨bu,ou,u',hA2,hu',lT,lV⟩:=hTr.ts.GR (k:=k) hkn;obtain rfl:u=u':=by rw [hu] at hu';injection hu'
 have hrc:=((((Ai.refl w).alloc (.cells D.cs 73)).alloc (.cells p.cs 80)).cell (p:=⟨bt,ot+M * 3+1,none⟩) hbt).trans (hrg 1 (.slice T.ts.A T.ts.n T.ts.c) rfl);have lV:=((((Ai.refl w).alloc (.cells D.cs 73)).alloc (.cells p.cs 80)).cell (p:=⟨bu,ou+k,none⟩) (JM _ _ lV)).trans lV;have HAT:=Aa (fun w' (hb:Ai w w')=>kU p.set u w' (hp.set.mono hb));have i0:(0:Int)≤M:=by omega
 have i1:(M:Int)<D.tr.n:=by omega
 have i2:(0:Int)≤k:=by omega
 have i3:(k:Int)<T.ts.n:=by omega
 have t63:=hTr.ts.n63;have hl0:p.f=0→KQ p.Ac u=true:=fun hf=>by unfold KQ;rw [Al (show p.Ac.f=0 from hf)]
 have hl1:p.f=1→KQ p.Ac u=within p.lo p.hi u:=fun hf=>by unfold KQ;rw [Ak (show ¬ p.Ac.f=0 by rw [show p.Ac.f=p.f from rfl,hf];decide),Al (show p.Ac.f=1 from hf)]
 have hl2:p.f=2→KQ p.Ac u=decide (0≤Sl u p.set.l):=fun hf=>by unfold KQ;rw [Ak (show ¬ p.Ac.f=0 by rw [show p.Ac.f=p.f from rfl,hf];decide),Ak (show ¬ p.Ac.f=1 by rw [show p.Ac.f=p.f from rfl,hf];decide),Ab0]
 rw [hA2] at hrc;generalize KQ p.Ac u=R at *;clear hD hp hT hT' hTr hrg hMn hkn hu hu' hA2 hbt;obtain ⟨QS,⟨TA,tn,tc,ts⟩,tup⟩:=T;obtain ⟨pf,pt,lo,hi,⟨A,n,c,set⟩,g,pb⟩:=p;obtain ⟨nm,⟨A2,n2,cp2,Bi⟩⟩:=D;simp only [Pk.cs,Dm.cs] at *;subst hA;rcases hf with rfl|rfl|rfl
 ·have HR:=Aa (hl0 rfl);clear hl0 hl1 hl2 hrc lV;go_enter func161,ntmps161;go_upto_region 1 with fail;generalize w.heap.size+1=y at *;generalize w.heap.size=x at *;generalize World.alloc (World.alloc _ _) _=w1 at *;have c0:=(H.blk 1 rfl).Ap 0;go_wp2;go_ret;rw [HR.Ab];exact ⟨rfl,H.to⟩
 ·have HR:=Aa (hl1 rfl);have hm:=hM Za1;subst hm;clear hl0 hl1 hl2 hM;go_enter func161,ntmps161;go_upto_region 1 with fail;generalize w.heap.size+1=y at *;generalize w.heap.size=x at *;generalize World.alloc (World.alloc _ _) _=w1 at *;have c0:=(H.blk 1 rfl).cell 0;have c1:=(H.blk 1 rfl).cell 1;have c2:=(H.blk 1 rfl).cell 2;have c3:=(H.blk 1 rfl).cell 3;have cd:=(H.blk 0 rfl).cell 1;simp only [LG] at c0 c1 c2 c3 cd;unfold within at HR;cases h1:Op.bytesLess u lo with
  |true=>
   have q1:(Op.bytesLess lo u||lo==u)=false:=by rw [SK,h1];(try rfl)
   rw [h1] at HR;clear h1;go_wp2;go_ret;rw [HR.Ab];exact ⟨rfl,H.to⟩
  |false=>
   have q1:(Op.bytesLess lo u||lo==u)=true:=by rw [SK,h1];(try rfl)
   rw [h1] at HR;clear h1;have q2:(Op.bytesLess u hi||u==hi)=!Op.bytesLess hi u:=SK _ _;generalize Op.bytesLess hi u=z at *;go_wp2;go_ret;rw [HR.Ab];exact ⟨by cases z<;>rfl,H.to⟩
 ·have HR:=Aa (hl2 rfl);have hm:=hM Za1;subst hm;clear hl0 hl1 hl2 hM;go_enter func161,ntmps161;go_upto_region 1 with fail;generalize w.heap.size+1=y at *;generalize w.heap.size=x at *;generalize World.alloc (World.alloc _ _) _=w1 at *;have c0:=(H.blk 1 rfl).cell 0;have c1:=(H.blk 1 rfl).cell 1;have c4:=(H.blk 1 rfl).cell 4;have cd:=(H.blk 0 rfl).cell 1;simp only [LG] at c0 c1 c4 cd;go_wp2_with fail;refine (HAT _ H.to).mono ?_;rintro e w2 ⟨rfl,rfl⟩;generalize Sl u set=z at *;go_wp2;go_ret;rw [HR.Ab];exact ⟨uH,H.to⟩
theorem U2 (D:Dm) (p:Pk) (M key j:Nat) (T:Bt) (u:List UInt8) (w:World) (hD:D.rd w) (hp:p.rd w) (hT:D.tr.l[M]?=some T) (hu:T.ts.l[j]?=some u) (hM:p.t=M) (hf:p.f=0∨p.f=1∨p.f=2)
 (hl:DI (D.tr.l.map Bt.Ac) 0 M key=j) (hn:D.tr.n≤1000000) (hk:key≤1000000) (hrs:Nf p.set.l) (hsn:p.set.n≤1000000):
 Calls prog 104 #[.agg D.cs,.agg p.cs,.int .i64 key] w fun e w'=>e=.returned (.bool (KQ p.Ac u))∧Ai w w':=by
 have H:=Aa (((SL.start No w).alloc D.cs 73).alloc p.cs 80);(try simp only [LS] at H);have hTr:=hD.tr.all T (CU hT);have hMn:M<D.tr.n:=by have:=(CB.1 hT).1;rw [hD.tr.len] at this;exact this
 have hkn:j<T.ts.n:=by have:=(CB.1 hu).1;rw [hTr.ts.len] at this;exact this
 obtain ⟨bt,ot,T',hA,hbt,hT',_,hrg⟩:=hD.tr.JO (k:=M) hMn;obtain rfl:T=T':=by rw [hT] at hT';injection hT'
 obtain ⟨bu,ou,u',hA2,hu',lT,lV⟩:=hTr.ts.GR (k:=j) hkn;obtain rfl:u=u':=by rw [hu] at hu';injection hu'
 have HRC:=Aa (fun w' (hb:Ai w w')=>(hb.cell (p:=⟨bt,ot+M * 3+1,none⟩) hbt).trans (hrg 1 (.slice T.ts.A T.ts.n T.ts.c) rfl));have HCU:=Aa (fun w' (hb:Ai w w')=>(hb.cell (p:=⟨bu,ou+j,none⟩) (JM _ _ lV)).trans lV);have HAT:=Aa (fun w' (hb:Ai w w')=>WI p.set u w' (hp.set.mono hb) hrs hsn);have HLF:=Aa (fun w' (hb:Ai w w')=>qX D 0 M key w' (hD.mono hb) Za5 Za5 Za5 hn);rw [hl] at HLF;have i0:(0:Int)≤M:=by omega
 have i1:(M:Int)<D.tr.n:=by omega
 have i2:(0:Int)≤j:=by omega
 have i3:(j:Int)<T.ts.n:=by omega
 have t63:=hTr.ts.n63;have hl0:p.f=0→KQ p.Ac u=true:=fun hf=>by unfold KQ;rw [Al (show p.Ac.f=0 from hf)]
 have hl1:p.f=1→KQ p.Ac u=within p.lo p.hi u:=fun hf=>by unfold KQ;rw [Ak (show ¬ p.Ac.f=0 by rw [show p.Ac.f=p.f from rfl,hf];decide),Al (show p.Ac.f=1 from hf)]
 have hl2:p.f=2→KQ p.Ac u=(posOf u p.set.l).isSome:=fun hf=>by unfold KQ;rw [Ak (show ¬ p.Ac.f=0 by rw [show p.Ac.f=p.f from rfl,hf];decide),Ak (show ¬ p.Ac.f=1 by rw [show p.Ac.f=p.f from rfl,hf];decide)]
 rw [hA2] at HRC;generalize KQ p.Ac u=R at *;clear hD hp hT hT' hTr hrg hMn hkn hu hu' hA2 hbt lV hl hn hk hrs;obtain ⟨QS,⟨TA,tn,tc,ts⟩,tup⟩:=T;obtain ⟨pf,pt,lo,hi,⟨A,n,c,set⟩,g,pb⟩:=p;obtain ⟨nm,⟨A2,n2,cp2,Bi⟩⟩:=D;simp only [Pk.cs,Dm.cs] at *;subst hA hM;rcases hf with rfl|rfl|rfl
 ·have HR:=Aa (hl0 rfl);clear hl0 hl1 hl2;go_enter func104,ntmps104;go_upto_region 1 with fail;generalize w.heap.size+1=y at *;generalize w.heap.size=x at *;generalize World.alloc (World.alloc _ _) _=w1 at *;have c1:=(H.blk 1 rfl).Ap 1;go_wp2_with ((with_reducible refine OP 11 ?_);(refine Bf CX (H.blk 0 rfl) ?_));refine (HLF _ H.to).mono ?_;rintro e w2 ⟨rfl,hb2⟩;replace H:=Aa (H.Av hb2);have hrc:=HRC _ H.to;have lV:=HCU _ H.to;clear hb2 HLF c1 HRC;have c0:=(H.blk 1 rfl).cell 0;have c1:=(H.blk 1 rfl).cell 1;have c2:=(H.blk 1 rfl).cell 2;have c3:=(H.blk 1 rfl).cell 3;have c4:=(H.blk 1 rfl).cell 4;have cd:=(H.blk 0 rfl).cell 1;simp only [LG] at c0 c1 c2 c3 c4 cd;go_wp2;go_ret;rw [HR.Ab];exact ⟨rfl,H.to⟩
 ·have HR:=Aa (hl1 rfl);clear hl0 hl1 hl2;go_enter func104,ntmps104;go_upto_region 1 with fail;generalize w.heap.size+1=y at *;generalize w.heap.size=x at *;generalize World.alloc (World.alloc _ _) _=w1 at *;have c1:=(H.blk 1 rfl).Ap 1;go_wp2_with ((with_reducible refine OP 11 ?_);(refine Bf CX (H.blk 0 rfl) ?_));refine (HLF _ H.to).mono ?_;rintro e w2 ⟨rfl,hb2⟩;replace H:=Aa (H.Av hb2);have hrc:=HRC _ H.to;have lV:=HCU _ H.to;clear hb2 HLF c1 HRC;have c0:=(H.blk 1 rfl).cell 0;have c1:=(H.blk 1 rfl).cell 1;have c2:=(H.blk 1 rfl).cell 2;have c3:=(H.blk 1 rfl).cell 3;have c4:=(H.blk 1 rfl).cell 4;have cd:=(H.blk 0 rfl).cell 1;simp only [LG] at c0 c1 c2 c3 c4 cd;unfold within at HR;cases h1:Op.bytesLess u lo with
  |true=>
   have q1:(Op.bytesLess lo u||lo==u)=false:=by rw [SK,h1];(try rfl)
   rw [h1] at HR;clear h1;go_upto_region 5 with fail;have f_c2:=fun u:Over w2=>Over.cell c2 u
   have f_c3:=fun u:Over w2=>Over.cell c3 u
   have Aj5:=fun u:Over w2=>Over.cell lV u
   refine Am ?_;(try simp only [Act.put,LP]);repeat (go_big_quiet_step (fail))
   refine CS ?_;rintro w5 ⟨⟨_,Gd⟩,rfl⟩;(try dsimp only);replace H:=Aa (H.Av Gd);clear f_c2 f_c3 Aj5 c2 c3 lV;go_wp2;go_ret;rw [HR.Ab];exact ⟨rfl,H.to⟩
  |false=>
   have q1:(Op.bytesLess lo u||lo==u)=true:=by rw [SK,h1];(try rfl)
   rw [h1] at HR;clear h1;have q2:(Op.bytesLess u hi||u==hi)=!Op.bytesLess hi u:=SK _ _;generalize Op.bytesLess hi u=z at *;go_upto_region 5 with fail;have f_c2:=fun u:Over w2=>Over.cell c2 u
   have f_c3:=fun u:Over w2=>Over.cell c3 u
   have Aj5:=fun u:Over w2=>Over.cell lV u
   refine Am ?_;(try simp only [Act.put,LP]);repeat (go_big_quiet_step (fail))
   refine CS ?_;rintro w5 ⟨⟨_,Gd⟩,rfl⟩;(try dsimp only);replace H:=Aa (H.Av Gd);clear f_c2 f_c3 Aj5 c2 c3 lV;go_wp2;go_ret;rw [HR.Ab];exact ⟨by cases z<;>rfl,H.to⟩
 ·have HR:=Aa (hl2 rfl);clear hl0 hl1 hl2;go_enter func104,ntmps104;go_upto_region 1 with fail;generalize w.heap.size+1=y at *;generalize w.heap.size=x at *;generalize World.alloc (World.alloc _ _) _=w1 at *;have c1:=(H.blk 1 rfl).Ap 1;go_wp2_with ((with_reducible refine OP 11 ?_);(refine Bf CX (H.blk 0 rfl) ?_));refine (HLF _ H.to).mono ?_;rintro e w2 ⟨rfl,hb2⟩;replace H:=Aa (H.Av hb2);have hrc:=HRC _ H.to;have lV:=HCU _ H.to;clear hb2 HLF c1 HRC;have c0:=(H.blk 1 rfl).cell 0;have c1:=(H.blk 1 rfl).cell 1;have c2:=(H.blk 1 rfl).cell 2;have c3:=(H.blk 1 rfl).cell 3;have c4:=(H.blk 1 rfl).cell 4;have cd:=(H.blk 0 rfl).cell 1;simp only [LG] at c0 c1 c2 c3 c4 cd;go_upto_region 7 with fail;refine Ep (S:=fun W=>W.cell? ⟨y,4,none⟩=some (.slice A n c)∧W.cell? ⟨bu,ou+j,none⟩=some (.string ⟨u.toArray⟩)) Za0 ⟨(H.blk 1 rfl).cell 4,by first|exact HCU _ H.to|exact HCU _ H.to.drew⟩ fun hHeld=>?_;replace H:=Aa (H.drew);generalize World.drew _=w8 at *;refine Bd Ml ?_;refine Bd KF ?_;refine Bd MN ?_;refine Bd Ky ?_;refine Bd LJ ?_;refine Bd KW ?_;refine BG MI fun KK Ad=>?_;go_simp;refine (HAT _ H.to).mono ?_;rintro e w3 ⟨m,fb,rfl,rfl,hF⟩;refine Aj Ad ⟨(H.blk 1 rfl).cell 4,by first|exact HCU _ H.to|exact HCU _ H.to.drew⟩ fun hHeld=>?_;clear Ad KK;refine Bd Lj ?_;refine Bd Mk ?_;refine Bd MH ?_;refine Bd FO ?_;refine Bd Ga ?_;refine BZ ?_;clear hHeld;have HR2:Hid (R=fb):=by
   show _=_;rw [HR.Ab];cases fb with
   |true=>rw [hF.2.1 rfl];rfl
   |false=>rw [hF.2.2 rfl];rfl
  clear hF HR;go_wp2;go_ret;rw [HR2.Ab];exact ⟨rfl,H.to⟩
theorem aU {D:Dm} {p:Pk} {w:World} (hD:D.rd w) (hd:BD D.Ac=0) (hp:DL D.Ac p.Ac=0) {key:Nat} (hk:key<Eu (D.tr.l.map Bt.Ac) 0):
 ∃ (M j:Nat) (T:Bt) (u:List UInt8),p.t=M∧D.tr.l[M]?=some T∧T.ts.l[j]?=some u∧DI (D.tr.l.map Bt.Ac) 0 M key=j∧RX D.Ac p.Ac key=KQ p.Ac u∧(p.f=0∨p.f=1∨p.f=2)∧Nf p.set.l:=by
 obtain ⟨_,d1,d4,d5⟩:=ER hd;have hok:Iu (D.tr.l.map Bt.Ac):=Gq d5;have hlen:D.Ac.Bi.length=D.tr.l.length:=CQ ..;have hP:=IK hp;have h1:(p.f=0∨p.f=1∨p.f=2)∧Nf p.set.l∧0≤p.t∧p.t<D.tr.l.length:=by
  rcases hP.f with ⟨a,b,_,_,s⟩|⟨a,s,_,_,b,b2⟩|⟨a,_,_,s,b,tr,ht,_⟩
  ·have a:p.f=0:=a;have b:p.t=0:=b;have s:p.set.l=[]:=s;exact ⟨.inl a,by rw [s];exact List.Pairwise.nil,Xl,Xl⟩
  ·have a:p.f=1:=a;have b:0≤p.t:=b;have b2:p.t<(D.Ac.Bi.length:Int):=b2;have s:p.set.l=[]:=s;exact ⟨.inr (.inl a),by rw [s];exact List.Pairwise.nil,b,Xl⟩
  ·have a:p.f=2:=a;have b:0≤p.t:=b;have h2:=(CB.1 ht).1;have h3:p.Ac.t=p.t:=rfl;exact ⟨.inr (.inr a),WO s,b,Xl⟩
 obtain ⟨h2,h3,h4,h5⟩:=h1;obtain ⟨M,hM⟩:∃ M:Nat,p.t=M:=⟨p.t.toNat,Xl⟩;have hMl:M<D.tr.l.length:=by omega
 obtain ⟨e1,e2,e3⟩:=OH hok (f:=0) (t:=M) (i:=key) Xl (by rw [CQ];exact hMl) hk;have hsz:Eu (D.tr.l.map Bt.Ac) M=D.tr.l[M].ts.l.length:=by unfold Eu;rw [Ee,Fp hMl];rfl
 obtain ⟨j,hj⟩:∃ j:Nat,DI (D.tr.l.map Bt.Ac) 0 M key=j:=⟨(DI (D.tr.l.map Bt.Ac) 0 M key).toNat,by simp only [Int.natCast_zero] at e2;omega⟩;simp only [Int.natCast_zero] at e2 e3;have hjl:j<D.tr.l[M].ts.l.length:=by omega
 refine ⟨M,j,D.tr.l[M],D.tr.l[M].ts.l[j],hM,Fp hMl,Fp hjl,hj,?_,h2,h3⟩;unfold RX;have e4:p.Ac.t=(M:Int):=hM;rw [e4,Db,show D.Ac.Bi=D.tr.l.map Bt.Ac from rfl,Ee,Fp hMl,hj];simp only [Option.map_some,Option.bind_some,Db];rw [Fp hjl]
 rfl
theorem Ut {ds:List DC} {ps:List PC} {ks:List Int} {k:Nat} {d:DC} {p:PC} {key:Int} (hd:ds[k]?=some d) (hp:ps[k]?=some p) (hk:ks[k]?=some key):
 EP (ds.drop k) (ps.drop k) (ks.drop k)=if RX d p key=true then (EP (ds.drop (k+1)) (ps.drop (k+1)) (ks.drop (k+1))).map (fun l=>if p.g=true then DI d.Bi 0 p.Mf key::l else l) else none:=by
 rw [Bp hd,Bp hp,Bp hk,EP]
def KG (acc:List Int) (o:Option (List Int)):Option (List Int):=o.map (acc++·)
theorem qC {ds:List DC} {ps:List PC} {ks acc:List Int} {k:Nat} {d:DC} {p:PC} {key:Int} {R:Option (List Int)} (h:R=KG acc (EP (ds.drop k) (ps.drop k) (ks.drop k))) (hd:ds[k]?=some d) (hp:ps[k]?=some p) (hk:ks[k]?=some key) (hl:RX d p key=false):R=none:=by
 rw [h,Ut hd hp hk,Ak (by simp [hl])];rfl
theorem Zw0 {p:Prop} (h:p:=by rw [h,Ut hd hp hk,Al hl,hg];unfold KG;cases EP (ds.drop (k+1)) (ps.drop (k+1)) (ks.drop (k+1))<;>simp):p:=h
theorem aI {ds:List DC} {ps:List PC} {ks acc:List Int} {k:Nat} {d:DC} {p:PC} {key:Int} {R:Option (List Int)} (h:R=KG acc (EP (ds.drop k) (ps.drop k) (ks.drop k))) (hd:ds[k]?=some d) (hp:ps[k]?=some p) (hk:ks[k]?=some key) (hl:RX d p key=true) (hg:p.g=false):
 R=KG acc (EP (ds.drop (k+1)) (ps.drop (k+1)) (ks.drop (k+1))):=by
 exact Zw0
theorem aH {ds:List DC} {ps:List PC} {ks acc:List Int} {k:Nat} {d:DC} {p:PC} {key:Int} {R:Option (List Int)} (h:R=KG acc (EP (ds.drop k) (ps.drop k) (ks.drop k))) (hd:ds[k]?=some d) (hp:ps[k]?=some p) (hk:ks[k]?=some key) (hl:RX d p key=true) (hg:p.g=true):
 R=KG (acc++[DI d.Bi 0 p.Mf key]) (EP (ds.drop (k+1)) (ps.drop (k+1)) (ks.drop (k+1))):=by
 exact Zw0
theorem iM {ds:List DC} {ps:List PC} {ks acc:List Int} {k:Nat} {R:Option (List Int)} (h:R=KG acc (EP (ds.drop k) (ps.drop k) (ks.drop k))) (hp:ps.length≤k):R=some acc:=by
 rw [h,EN hp,EP]
 ·unfold KG;simp
 ·intros;contradiction
theorem bX {k:Row Int} {a:Ag} {A:Option Addr} {n c:Nat} {l':List Int}:(Br.mk k a).cs.setIfInBounds 0 (.slice A n c)=(Br.mk ⟨A,n,c,l'⟩ a).cs:=by
 simp [Br.cs,Row.v]
theorem Ij {ops:Array Oper} {rest:List Oper} {o:Oper} {a:Act} {w:World} {Q:Exit→Act→World→Prop} (hgd:o.guard=none) {t:TypeId} (ho:o.op=.build t #[])
 {v:Value} (hr:∀ w,(Instr.build t #[]).run prog w=.ok v w)
 (h:wpList prog ops Q rest (a.put o.dst v) w):wpList prog ops Q (o::rest) a w:=by
 refine Rk hgd fun K hK=>?_;unfold Oper.wp execOp;simp only [ho,QD,EX,KH,hr,LC,LB];exact hK _ _ h
theorem yV (a:Ag) (w:World):(Instr.build 97 #[(1,.agg a.cs)]).run prog w=.ok (.agg (Br.mk ⟨none,0,0,[]⟩ a).cs) w:=by kernel_rfl
theorem kS:Es prog 95 10:=⟨⟨_,underlying95,rfl⟩,by kernel_rfl⟩
def A8 (o:Option (List Int)) (ag:Ag) (w:World) (e:Ending) (w':World):Prop:=
 match o with
 |none=>e=.returned (.tuple #[.agg (Br.mk ⟨none,0,0,[]⟩ .zero).cs,.bool false])∧Ai w w'
 |some l=>∃ (A:Option Addr) (c:Nat),e=.returned (.tuple #[.agg (Br.mk ⟨A,l.length,c,l⟩ ag).cs,.bool true])∧Ai w w'∧w'.ownsRow w.heap.size 3 1 (.slice A l.length c) l.length (l.map (Value.int .i64))
theorem Zi4 {p:Prop} (h:p:=by
 refine Aj Ad ⟨H.blk 6 rfl,(H.blk 5 rfl).cell 6,by rw [←TY.Ab];exact (H.blk 1 rfl).cell 0,by first|exact Nh _ H.to|exact Nh _ H.to.drew⟩ fun hHeld=>?_;clear Ad KK;refine BG Hw fun KK Ad=>?_;refine AX rfl (.tmp 45) (.tmp 55) _ rfl LM 0 (Bj _) _ l.length _ rfl (H.row 4 rfl) _ 1 1 [.int .i64 z] rfl (AV (H.blk 7 rfl) rfl) Za2 Za4 Xl ?_;intro vq wq AJ Aq AQ;replace H:=Aa (H.setRow 4 rfl Aq AJ AQ);(try simp only [LS] at H);clear AJ Aq AQ;obtain ⟨A2,c2,rfl,_⟩:=Ao (H.row 4 rfl);refine Aj Ad ⟨H.blk 6 rfl,(H.blk 5 rfl).cell 6,by rw [←TY.Ab];exact (H.blk 1 rfl).cell 0,by first|exact Nh _ H.to|exact Nh _ H.to.drew⟩ fun hHeld=>?_;clear Ad KK;refine Bd Jc ?_;refine BG Jw fun KK Ad=>?_;have Qt:=(H.blk 3 rfl).cell 0;replace Qt:=Qt.trans (show _=some (Value.slice A l.length c) from rfl);have fr1:=(H.blk 3 rfl).frozen 0;go_simp;replace H:=Aa (H.setCell 3 rfl 0 (.slice A2 (l.length+1) c2));(try simp only [LS] at H);clear Qt fr1;refine Aj Ad ⟨H.blk 6 rfl,(H.blk 5 rfl).cell 6,by rw [←TY.Ab];exact (H.blk 1 rfl).cell 0,by first|exact Nh _ H.to|exact Nh _ H.to.drew⟩ fun hHeld=>?_;clear Ad KK;refine BZ ?_;clear hHeld;rw [bX (l':=l++[z])] at H;replace H:=Aa (H.Fg [0,1,2,3,4] Za1 uH);(try simp only [LS] at H);have E1:l.length+1=(l++[z]).length:=by simp
 have E2:l.map (Value.int .i64)++[Value.int .i64 z]=(l++[z]).map (Value.int .i64):=by simp
 generalize World.setCell _ _ _=wz at H ⊢;rw [E2] at H;rw [E1] at H;clear E1 E2 F4 Nh;go_wp2_with fail;rw [←jS.Ab];go_roundg (n - (k+1));case rel=>exact ⟨k+1,A2,c2,l++[z],rfl,Xl,by rw [Cn];show l.length+1≤k+1;omega,by go_num,HN,H⟩
 case measure=>rw [Cs.Ab];omega
):p:=h
theorem Zn2 {p:Prop} (h:p:=by refine Aj Ad ⟨H.blk 6 rfl,(H.blk 5 rfl).cell 6,by rw [←TY.Ab];exact (H.blk 1 rfl).cell 0,by first|exact Nh _ H.to|exact Nh _ H.to.drew⟩ fun hHeld=>?_;clear Ad KK;refine BG Ga fun KK Ad=>?_;refine BP rfl LM (.tmp 54) rfl (.int .i64 z) rfl #[.int .i64 z] rfl rfl Xl ?_;replace H:=Aa (H.alloc #[.int .i64 z] 3);(try simp only [LS] at H);exact Zi4):p:=h
theorem xH (B:Nat) (x:JZ) (q:Qr) (f:Br) (w:World) (hb:Bh w B 86 x.ms) (hx:x.ct.sc.rd w) (hq:q.rd w) (hf:f.ok w) (hE:BV x.ct.sc.Ac q.Ac=0) (hk:OT x.ct.sc.Ac.Dx f.ks.l) (hps:∀ p ∈ q.ps.l,p.set.n≤1000000):
 Calls prog 64 #[.pointer (some ⟨B,0,none⟩),.agg q.cs,.agg f.cs] w (A8 (EP x.ct.sc.Ac.Dx q.Ac f.ks.l) f.ag w):=by
 obtain ⟨g1,g2,g3⟩:=EB hE;obtain ⟨g4,g5,g6,_⟩:=BH g1;have Ws:=Aa (fun w' (h:Ai w w')=>hb.Av h);have HX:=Aa hx.dm;have HQ:=Aa hq;have HF:=Aa hf.ks.zS;have hdl:x.ct.sc.Ac.Dx.length=x.ct.sc.dm.n:=by show (x.ct.sc.dm.l.map Dm.Ac).length=_;rw [CQ];exact hx.dm.len
 have hql:q.Ac.length=q.ps.n:=by show (q.ps.l.map Pk.Ac).length=_;rw [CQ];exact hq.len
 have hqd:q.ps.n=x.ct.sc.dm.n:=by omega
 have hfd:f.ks.n=x.ct.sc.dm.n:=by have h1:=hk.len;have h2:=hf.ks.len;omega
 have hn16:q.ps.n≤16:=by omega
 have zK:Hid (q.ps.n=x.ct.sc.dm.n∧f.ks.n=x.ct.sc.dm.n):=⟨hqd,hfd⟩;clear hqd hfd;have HPE:=Aa (fun (k:Nat) d p (hd:x.ct.sc.Ac.Dx[k]?=some d) (hp:q.Ac[k]?=some p)=>OE g3 g2 k d p hd hp);have HDE:=Aa g6;have HKO:=Aa (fun (k:Nat) d z (hd:x.ct.sc.Ac.Dx[k]?=some d) (hz:f.ks.l[k]?=some z)=>hk.at_ hd hz);have fQ:=Aa hps;obtain ⟨R,hR⟩:∃ R,R=EP x.ct.sc.Ac.Dx q.Ac f.ks.l:=⟨_,rfl⟩;rw [←hR];have HN:Hid (R=KG [] (EP (x.ct.sc.Ac.Dx.drop 0) (q.Ac.drop 0) (f.ks.l.drop 0))):=by
  show _=_;rw [hR];unfold KG;simp
 have HQL:=Aa hql;have H:=Aa ((((SL.start No w).alloc q.cs 29).alloc f.cs 97).alloc #[.slice none 0 0,.int .i64 0,.int .i64 0,.int .i64 0,.int .i64 0,.int .i64 0,.int .i64 0,.int .i64 0,.int .i64 0,.int .i64 0,.int .i64 0] 97);(try simp only [LS] at H);clear hb hx hq hf hE hk hps g1 g2 g3 g4 g5 g6 hR hdl hql;go_enter func64,ntmps64;go_upto_region 1 with fail;generalize w.heap.size+2=rx at H ⊢;generalize w.heap.size+1=fx at H ⊢;generalize w.heap.size=qx at H ⊢;generalize World.alloc (World.alloc (World.alloc _ _) _) _=w0 at H ⊢;have uQ:Hid (∀ w,w=w0→w.rangeAt fx 1 f.ag.cs.toList):=fun w e=>e ▸ (H.blk 1 rfl).part 1 f.ag.cs.toList rfl
 go_upto_region 2 with (first|((with_reducible refine OP 13 ?_);(refine Af rfl kS (.tmp 12) rfl fx (1) rfl f.ag.cs rfl (uQ _ rfl) ?_))|((with_reducible refine OP 14 ?_);refine Bv (vx:=.agg f.ag.cs) (v:=.agg (Br.mk ⟨none,0,0,[]⟩ f.ag).cs) rfl (.tmp 13) rfl rfl (yV f.ag) ?_)|((with_reducible refine OS 8 ?_);(refine DX Bz ((Br.mk ⟨none,0,0,[]⟩ f.ag).cs) (EA _) ?_;replace H:=Aa (H.alloc ((Br.mk ⟨none,0,0,[]⟩ f.ag).cs) 97);(try simp only [LS] at H))));(try simp only [Act.put,LP]);(try simp only [LS] at H);clear uQ;generalize w0.heap.size=ox at H ⊢;generalize World.alloc w0 _=w1 at H ⊢;replace H:=Aa (H.Dw 3 1);(try simp only [LS] at H);have cq:=(H.blk 0 rfl).Ap 0;go_upto_region 3 with fail;clear cq;obtain ⟨n,hn⟩:∃ n,n=q.ps.n:=⟨_,rfl⟩;rw [←hn] at zK hn16 HQL ⊢;have Vh:=Aa hn;clear hn;go_loopg [18] n (fun gg s18 wr=>∃ (k:Nat) (A:Option Addr) (c:Nat) (l:List Int),gg=n - k∧k≤n∧l.length≤k∧s18=.int .i64 k∧Hid (R=KG l (EP (x.ct.sc.Ac.Dx.drop k) (q.Ac.drop k) (f.ks.l.drop k)))∧Hid (SL No w wr [Aw qx 29 q.cs,Aw fx 97 f.cs,Aw rx 97 #[.slice none 0 0,.int .i64 0,.int .i64 0,.int .i64 0,.int .i64 0,.int .i64 0,.int .i64 0,.int .i64 0,.int .i64 0,.int .i64 0,.int .i64 0],Aw ox 97 (Br.mk ⟨A,l.length,c,l⟩ f.ag).cs,Ce 3 1 (.slice A l.length c) l.length (l.map (Value.int .i64))]));case atStart=>exact ⟨0,none,0,[],rfl,Xl,uH,rfl,HN,H⟩
 case round=>
  clear H HN;obtain ⟨k,A,c,l,BR,hk,hlk,rfl,HN,H⟩:=hrel;have Cs:=Aa BR;clear BR;by_cases hlt:k<n
  ·obtain ⟨b1,o1,D,hA1,hb1,Ve,Fj,hrg1⟩:=HX.Sd (k:=k) (by have h:=zK.1;omega);obtain ⟨b2,o2,p,hA2,hb2,hpk,hpr,hrg2⟩:=HQ.P7 (k:=k) (by have h:=Vh.Ab;omega);obtain ⟨bk,uX,key0,hA3,hzk,_,hck⟩:=HF.Pv (k:=k) (by have h:=zK.Ab;omega);have EW:x.ct.sc.Ac.Dx[k]?=some D.Ac:=by show (x.ct.sc.dm.l.map Dm.Ac)[k]?=_;rw [Ee,Ve];rfl
   have hpc:q.Ac[k]?=some p.Ac:=by show (q.ps.l.map Pk.Ac)[k]?=_;rw [Ee,hpk];rfl
   have hk1:=HKO k _ _ EW hzk;obtain ⟨key,rfl⟩:∃ key:Nat,key0=key:=⟨key0.toNat,Xl⟩;have hpe:=HPE k _ _ EW hpc;have hde:=HDE D.Ac (CU EW);obtain ⟨d0,d1,d4,d5⟩:=ER hde;have hdt:D.tr.n≤4:=by have h1:=Fj.tr.len;have h2:D.Ac.Bi.length=D.tr.l.length:=CQ ..;omega
   have hk2:key<Eu (D.tr.l.map Bt.Ac) 0:=by have h:(key:Int)<((Eu (D.tr.l.map Bt.Ac) 0:Nat):Int):=hk1.2;omega
   have hk3:key≤1000000:=by
    have h1:=PE hde;have h2:Eu (D.tr.l.map Bt.Ac) 0≤200:=by
     unfold Eu;cases ht:(D.tr.l.map Bt.Ac)[0]? with
     |none=>simp
     |some t=>exact (h1 t (CU ht)).2
    omega
   obtain ⟨Mt,j,TT,u,m1,m2,m3,m4,m5,m6,m7⟩:=aU Fj hde hpe hk2;have HLT:=Aa (fun w' (h:Ai w w')=>U2 D p Mt key j TT u w' (Fj.mono h) (hpr.mono h) m2 m3 m1 m6 m4 Xl hk3 m7 (fQ p (CU hpk)));have HLV:Hid (RX D.Ac p.Ac key=KQ p.Ac u):=m5;have HB0:Hid (p.g=true→AZ p.Mf):=fun _=>hpr.Mf
   have F4:=Aa (fun w' (h:Ai w w')=>qX D 0 p.Mf key w' (Fj.mono h) Za5 hpr.Mf Za5 Xl);have HR1:Hid (∀ w',Ai w w'→w'.rangeAt b1 (o1+k * 2) D.cs.toList):=fun w' h=>CP hb1 hrg1 h
   have HR2:Hid (∀ w',Ai w w'→w'.rangeAt b2 (o2+k * 7) p.cs.toList):=fun w' h=>CP hb2 hrg2 h
   have Nh:Hid (∀ w',Ai w w'→w'.cell? ⟨bk,uX+k,none⟩=some (.int .i64 key)):=fun w' h=>(h.cell (p:=⟨bk,uX+k,none⟩) (JM _ _ hck)).trans hck
   have OU:=Aa EW;have HPc:=Aa hpc;have HZk:=Aa hzk;have jS:=Aa hA2;have TY:=Aa hA3;have uK:=Aa hA1;have i0:(0:Int)≤k:=by omega
   have i1:(k:Int)<n:=by omega
   have i2:(k:Int)<x.ct.sc.dm.n:=by have h:=zK.Ab;omega
   have i3:(k:Int)<f.ks.n:=by have h:=zK.Ab;omega
   clear hb1 hb2 Ve hpk hzk hck EW hpc hk1 hpe hde d0 d1 d4 d5 hdt hk2 hk3 m1 m2 m3 m4 m5 m6 m7 Fj hpr hrg1 hrg2 hA1 hA3;rw [hA2];clear hA2;go_upto_region 5 with (first|((with_reducible refine OP 22 ?_);(refine Af rfl EC (.tmp 21) rfl b2 (o2+k * 7) rfl p.cs rfl (HR2 _ H.to) ?_))|((with_reducible refine OS 10 ?_);(refine DX EC (p.cs) (OZ p) ?_;replace H:=Aa (H.alloc (p.cs) 80);(try simp only [LS] at H))));(try simp only [Act.put,LP]);(try simp only [LS] at H);generalize wr.heap.size=pz at H ⊢;generalize World.alloc wr _=w3 at H ⊢;have c0:w3.cell? ⟨B,0,none⟩=some (.slice (some ⟨b1,o1,none⟩) x.ct.sc.dm.n x.ct.sc.dm.c):=by rw [←uK.Ab];exact (Ws _ H.to).cell 0
   go_upto_region 6 with (first|((with_reducible refine OP 31 ?_);(refine Af rfl CX (.tmp 30) rfl b1 (o1+k * 2) rfl D.cs rfl (HR1 _ H.to) ?_))|((with_reducible refine OS 11 ?_);(refine DX CX (D.cs) (Qs D) ?_;replace H:=Aa (H.alloc (D.cs) 73);(try simp only [LS] at H))));(try simp only [Act.put,LP]);(try simp only [LS] at H);clear c0 HR1 HR2;generalize w3.heap.size=dz at H ⊢;generalize World.alloc w3 _=w4 at H ⊢;have cf:w4.cell? ⟨fx,0,none⟩=some (.slice (some ⟨bk,uX,none⟩) f.ks.n f.ks.c):=by rw [←TY.Ab];exact (H.blk 1 rfl).cell 0
   have ck:=Nh _ H.to;have f_cf:=fun u:Over w4=>Over.cell cf u
   have f_ck:=fun u:Over w4=>Over.cell ck u
   refine Am ?_;(try simp only [Act.put,LP]);repeat (first
    |((with_reducible show wpQuiet _ _ _ _ (⟨some 32,_,_,_,_,_⟩::_) _);refine Ah (by first|rfl|go_simp) CX (.tmp 11) rfl _ (0) rfl _ rfl (H.blk 6 rfl).lt (H.blk 6 rfl).range ?_;simp only [Act.put,LP])
    |((with_reducible show wpQuiet _ _ _ _ (⟨some 33,_,_,_,_,_⟩::_) _);refine Ah (by first|rfl|go_simp) EC (.tmp 10) rfl _ (0) rfl _ rfl (H.blk 5 rfl).lt (H.blk 5 rfl).range ?_;simp only [Act.put,LP])
    |go_big_quiet_step (((go_at_call 104;rename_i u;exact AB (HLT _ (H.to.trans u.Av))))))
   refine CS ?_;rintro w5 ⟨⟨_,Gd⟩,rfl⟩;(try dsimp only);replace H:=Aa (H.Av Gd);clear f_cf f_ck cf ck;clear Gd HLT;rw [←HLV.Ab];cases hL:RX D.Ac p.Ac key with
   |false=>
    have HRN:Hid (R=none):=qC HN OU HPc HZk hL;clear hL HN HLV;go_wp2_with (first|((with_reducible refine OP 41 ?_);refine Ij rfl rfl (yU) ?_)|((with_reducible refine OS 6 ?_);(refine Cj Bz H 2 rfl ((Br.mk ⟨none,0,0,[]⟩ .zero).cs) (EA _) ?_;clear H;intro wq H;(try simp only [LS] at H))));(try simp only [Act.put,LP]);refine Bc (Au rfl Bz rfl (H.blk 2 rfl) rfl) rfl ?_;rw [HRN.Ab];exact ⟨rfl,H.to⟩
   |true=>
    have cg:w5.cell? ⟨pz,5,none⟩=some (.bool p.g):=(H.blk 5 rfl).cell 5;cases hg:p.g with
    |false=>
     have JS:=Aa (aI HN OU HPc HZk hL hg);rw [hg] at cg;clear hL HN HLV F4 hg;go_wp2_with fail;clear cg;rw [←jS.Ab];replace H:=Aa (H.Fg [0,1,2,3,4] Za1 uH);(try simp only [LS] at H);go_roundg (n - (k+1));case rel=>exact ⟨k+1,A,c,l,rfl,Xl,Xl,by go_num,JS,H⟩
     case measure=>rw [Cs.Ab];omega
    |true=>
     have QO:=aH HN OU HPc HZk hL hg;obtain ⟨z,hz⟩:∃ z,z=DI D.Ac.Bi 0 p.Ac.Mf key:=⟨_,rfl⟩;rw [←hz] at QO;rw [show DI (D.tr.l.map Bt.Ac) 0 p.Mf key=z from hz.symm] at F4;rw [hg] at cg;replace HN:=Aa QO;clear hL HLV hg hz QO HB0;go_upto_region 9 with fail;clear cg;refine Ep (S:=fun W=>Bh W dz 73 D.cs∧W.cell? ⟨pz,6,none⟩=some (.int .i64 p.Mf)∧W.cell? ⟨fx,0,none⟩=some (.slice (some ⟨bk,uX,none⟩) f.ks.n f.ks.c)∧W.cell? ⟨bk,uX+k,none⟩=some (.int .i64 key)) Za0 ⟨H.blk 6 rfl,(H.blk 5 rfl).cell 6,by rw [←TY.Ab];exact (H.blk 1 rfl).cell 0,by first|exact Nh _ H.to|exact Nh _ H.to.drew⟩ fun hHeld=>?_;replace H:=Aa (H.drew);generalize World.drew _=w8 at *;refine Bd Ml ?_;refine Lx (i:=2) (v:=.agg D.cs) MN Za0 Za0 Za0 Za7 (DU CX (by rfl) (.tmp 11) rfl dz 0 rfl (fun w h=>Bh.part h.1 0 D.cs.toList rfl) rfl) Zb0 ?_;try simp only [Act.put,LP]
     refine Bd Ky ?_;refine Bd LJ ?_;refine Bd KW ?_;refine Bd MI ?_;refine Bd Lj ?_;refine Bd Mk ?_;refine Bd MH ?_;refine Oh KF FO (fun KK Ad=>?_) fun KK Ad=>?_
     ·have Qt:=(H.blk 3 rfl).cell 0;replace Qt:=Qt.trans (show _=some (Value.slice A l.length c) from rfl);go_simp;clear Qt;refine Aj Ad ⟨H.blk 6 rfl,(H.blk 5 rfl).cell 6,by rw [←TY.Ab];exact (H.blk 1 rfl).cell 0,by first|exact Nh _ H.to|exact Nh _ H.to.drew⟩ fun hHeld=>?_;clear Ad KK;refine BG FO fun KK Ad=>?_;go_simp;refine (F4 _ H.to).mono ?_;rintro e' w6 ⟨rfl,hb6⟩;replace H:=Aa (H.Av hb6);clear hb6;exact Zn2
     ·go_simp;refine (F4 _ H.to).mono ?_;rintro e' w6 ⟨rfl,hb6⟩;replace H:=Aa (H.Av hb6);clear hb6;refine Aj Ad ⟨H.blk 6 rfl,(H.blk 5 rfl).cell 6,by rw [←TY.Ab];exact (H.blk 1 rfl).cell 0,by first|exact Nh _ H.to|exact Nh _ H.to.drew⟩ fun hHeld=>?_;clear Ad KK;refine Oh KF Ga (fun KK Ad=>?_) fun KK Ad=>?_
      ·have Qt:=(H.blk 3 rfl).cell 0;replace Qt:=Qt.trans (show _=some (Value.slice A l.length c) from rfl);go_simp;clear Qt;exact Zn2
      ·refine BP rfl LM (.tmp 54) rfl (.int .i64 z) rfl #[.int .i64 z] rfl rfl Xl ?_;replace H:=Aa (H.alloc #[.int .i64 z] 3);(try simp only [LS] at H);refine Aj Ad ⟨H.blk 6 rfl,(H.blk 5 rfl).cell 6,by rw [←TY.Ab];exact (H.blk 1 rfl).cell 0,by first|exact Nh _ H.to|exact Nh _ H.to.drew⟩ fun hHeld=>?_;clear Ad KK;refine BG KF fun KK Ad=>?_;have Qt:=(H.blk 3 rfl).cell 0;replace Qt:=Qt.trans (show _=some (Value.slice A l.length c) from rfl);go_simp;clear Qt;exact Zi4
  ·have HRN:Hid (R=some l):=iM HN (by rw [HQL.Ab];omega);clear HN;go_wp2_with (first|((with_reducible refine OP 59 ?_);(refine Bf Bz (H.blk 3 rfl) ?_))|((with_reducible refine OS 6 ?_);(refine Cj Bz H 2 rfl ((Br.mk ⟨A,l.length,c,l⟩ f.ag).cs) (EA _) ?_;clear H;intro wq H;(try simp only [LS] at H))));(try simp only [Act.put,LP]);refine Bc (Au rfl Bz rfl (H.blk 2 rfl) rfl) rfl ?_;rw [HRN.Ab];exact ⟨A,c,rfl,H.to,H.M7 4 rfl⟩
theorem RO:∀ {ds:List DC} {ps:List PC} {ks l:List Int},(∀ d ∈ ds,BD d=0)→ps.length=ds.length→Dq ds ps=0→OT ds ks→EP ds ps ks=some l→(∀ z ∈ l,AZ z)∧l.length≤ds.length
 |[],[],[],l,_,_,_,_,h=>by
  simp only [EP] at h;injection h with h;subst h;exact ⟨fun z hz=>(by cases hz),Ci _⟩
 |d::ds,p::ps,k::ks,l,hok,hl,hp,hk,h=>by
  have hp1:DL d p=0:=by
   rw [Dq] at hp;split at hp;· (rename_i h1;exact absurd hp h1)
   ·rename_i h1;exact jY.1 h1
  have hp2:Dq ds ps=0:=by rw [Dq,Ak (by simp [hp1])] at hp;exact hp
  rw [EP] at h;split at h
  ·cases hr:EP ds ps ks with
   |none=>rw [hr] at h;cases h
   |some m=>
    rw [hr] at h;simp only [Option.map_some] at h;injection h with h;subst h;obtain ⟨i1,i2⟩:=RO (fun x hx=>hok x (Ii _ hx)) Zd1 hp2 hk.2 hr;have hb:=(IK hp1).b;cases hg:p.g with
    |false=>
     rw [Ak uH];exact ⟨i1,by rw [Eo];omega⟩
    |true=>
     rcases hb with ⟨_,b0,b1⟩|⟨hx,_⟩
     ·have hde:=hok d Gg;obtain ⟨_,_,_,d5⟩:=ER hde;have hA:=Gq d5;obtain ⟨⟨k0,k1⟩,_⟩:=hk;obtain ⟨n,rfl⟩:∃ n:Nat,k=n:=⟨k.toNat,Xl⟩;obtain ⟨b,hbb⟩:∃ n:Nat,p.Mf=n:=⟨p.Mf.toNat,Xl⟩;have hlt:b<d.Bi.length:=by omega
      have hlw:=OH hA (f:=0) (t:=b) (i:=n) Xl hlt Xl;have e2:Eu d.Bi b=d.Bi[b].ts.length:=by unfold Eu;rw [Fp hlt]
      have h200:=(PE hde d.Bi[b] (List.getElem_mem hlt)).2;rw [e2] at hlw;have hlw0:=hlw.2.1;have hlw1:=hlw.2.2;simp only [Int.natCast_zero] at hlw0 hlw1;rw [Al rfl,hbb];refine ⟨fun z hz=>?_,by rw [Eo,Eo];omega⟩;rcases FJ.1 hz with rfl|hz
      ·unfold AZ;omega
      ·exact i1 z hz
     ·rw [hg] at hx;cases hx
  ·cases h
 |[],[],_::_,_,_,_,_,hk,_=>hk.elim
 |[],_::_,_,_,_,hl,_,_,_=>by simp at hl
 |_::_,[],_,_,_,hl,_,_,_=>by simp at hl
 |_::_,_::_,[],_,_,_,_,hk,_=>hk.elim
theorem Pb:∀ {ds:List DC} {ps:List PC} {ks:List Int} {acc ts:List (List UInt8)},(∀ d ∈ ds,∀ tr ∈ d.Bi,∀ t ∈ tr.ts,t.length≤16)→(∀ t ∈ acc,t.length≤16)→CJ ds ps ks acc=.ok ts→(∀ t ∈ ts,t.length≤16)∧ts.length≤acc.length+ds.length
 |d::ds,p::ps,ks,acc,ts,hd,ha,h=>by
  have hd2:∀ x ∈ ds,∀ tr ∈ x.Bi,∀ t ∈ tr.ts,t.length≤16:=fun x hx=>hd x (Ii _ hx)
  rw [CJ] at h;split at h
  ·cases ht:d.Bi[p.Mf.toNat]? with
   |none=>rw [ht] at h;cases h
   |some tr=>
    rw [ht] at h;simp only at h
    match ks,h with
    |[],h=>cases h
    |k::ks,h=>
     simp only at h;split at h
     ·cases h
     ·cases hx:tr.ts[k.toNat]? with
      |none=>rw [hx] at h;cases h
      |some t=>
       rw [hx] at h;simp only at h;have ht2:=hd d Gg tr (CU ht) t (CU hx);obtain ⟨i1,i2⟩:=Pb hd2 (fun y hy=>(Ec.1 hy).elim (ha y) (fun h=>by rw [Ef] at h;subst h;exact ht2)) h;refine ⟨i1,?_⟩;rw [Cn] at i2;rw [Eo];simp only [Eo,Ot] at i2;omega
  ·obtain ⟨i1,i2⟩:=Pb hd2 ha h;exact ⟨i1,by rw [Eo];omega⟩
 |[],ps,[],acc,ts,_,ha,h=>by
  simp only [CJ] at h;injection h with h;subst h;exact ⟨ha,uH⟩
 |[],ps,_::_,acc,ts,_,ha,h=>by
  simp only [CJ] at h;cases h
 |d::ds,[],[],acc,ts,_,ha,h=>by
  simp only [CJ] at h;injection h with h;subst h;exact ⟨ha,uH⟩
 |d::ds,[],_::_,acc,ts,_,ha,h=>by
  simp only [CJ] at h;cases h
theorem K4 {s:SC} (hE:Ay s=0):∀ d ∈ s.Dx,∀ tr ∈ d.Bi,∀ t ∈ tr.ts,t.length≤16:=fun d hd tr htr t ht=>((zR hE d hd).2.2 tr htr).2.1 t ht
theorem XO {s:SC} {q:List PC} {ks:List Int} {ts:List (List UInt8)} (hE:BV s q=0) (h:Ez s q ks=.ok ts):(∀ t ∈ ts,t.length≤16)∧ts.length≤16:=by
 obtain ⟨h1,h2,h3⟩:=EB hE;unfold Ez at h;rw [Ak Zb9] at h;obtain ⟨i1,i2⟩:=Pb (K4 h1) (fun t ht=>by cases ht) h;have:=(BH h1).2.1;exact ⟨i1,by simp only [Ot] at i2;omega⟩
theorem XV {s:SC} {q:List PC} {l:List CZ} {k:Nat} {f:CZ} (h:l[k]?=some f):Di s q (l.take (k+1))=Di s q (l.take k)++(match EP s.Dx q f.1 with|none=>[]|some ks=>[(ks,f.2)]):=by
 unfold Di;rw [Ra,h,List.filterMap_append];cases hp:EP s.Dx q f.1<;>simp [hp]
theorem aQ {s:SC} {q:List PC} {l:List CZ} {k:Nat} {f:CZ} (h:l[k]?=some f):NV s q (l.take (k+1))=NV s q (l.take k)++[(Pf s q f.1,f.2)]:=by
 unfold NV;rw [Ra,h,Cf];simp
theorem iV {f:Br} {w:World} (h:(Ce 3 1 (.slice f.ks.A f.ks.n f.ks.c) f.ks.n (f.ks.l.map (Value.int .i64))).holds w) (hk:∀ z ∈ f.ks.l,AZ z) (hn:f.ks.n≤1000000) (ha:f.ag.ok):(iC f).holds w:=
 ⟨h.1,fun w' hs hk'=>⟨RP (x:=f.ks) (by rw [Gz];exact h.2 w' hs hk') hk (by show f.ks.n * 8≤_;omega),ha⟩⟩
theorem p9 {A:Option Addr} {n c:Nat} {L:List Br} {w:World} (h1:(Ce 97 11 (.slice A n c) n (L.flatMap AY.cells)).holds w) (h2:(Gw iC L).holds w) (hn:n≤1000000):(Row.mk A n c L).ok w:=
 RP (x:=⟨A,n,c,L⟩) h1.now (fun f hf=>(h2.now.1 f hf).now) (by show n * 104≤_;omega)
abbrev Yp (g:KY):FM:=⟨(Ce 9 1 (.slice g.ks.A g.ks.n g.ks.c) g.ks.n (g.ks.l.map tx)).D,fun w=>g.rd w⟩
theorem iU {g:KY} {w:World} (h:(Ce 9 1 (.slice g.ks.A g.ks.n g.ks.c) g.ks.n (g.ks.l.map tx)).holds w) (hk:∀ z ∈ g.ks.l,z.length≤16) (hn:g.ks.n≤1000000) (ha:g.ag.ok):(Yp g).holds w:=
 ⟨h.1,fun w' hs hk'=>⟨⟨by rw [IQ];exact Rd.BC (h.2 w' hs hk'),fun t ht=>by have:=hk t ht;show t.length≤_;omega,Xl⟩,ha⟩⟩
theorem An9 {A:Option Addr} {n c:Nat} {L:List KY} {w:World} (h1:(Ce 136 11 (.slice A n c) n (L.flatMap AY.cells)).holds w) (h2:(Gw Yp L).holds w) (hn:n≤1000000):(Row.mk A n c L).rd w:=
 ⟨Rd.BC h1.now,fun f hf=>(h2.now.1 f hf).now,by show n≤_;omega⟩
theorem rZ (f:KY):∀ u ∈ f.cs.toList,u.oneCell'=true:=fun u hu=>Nb.1 (p8 f) u Zc2
theorem G6:Cy prog 46 136 11 104:=Cy.mk' (z:=.agg #[.slice none 0 0,.int .i64 0,.int .i64 0,.int .i64 0,.int .i64 0,.int .i64 0,.int .i64 0,.int .i64 0,.int .i64 0,.int .i64 0,.int .i64 0]) underlying46 Za0 rfl Xl
theorem Aa6 (A:Option Addr) (n c:Nat) (l:List (List UInt8)) (a:Ag) (w:World):(Instr.build 136 #[(0,.slice A n c),(1,.agg a.cs)]).run prog w=.ok (.agg (KY.mk ⟨A,n,c,l⟩ a).cs) w:=by kernel_rfl
end Go.Proofs.YtijplolmkcdflaaGreat
namespace Go.Proofs.YtijplolmkcdflaaGreat
open Go.RowKit
theorem jG (l:List (Row Int)):l.flatMap AY.cells=l.map Row.v:=by
 induction l with
 |nil=>rfl
 |cons a l ih=>rw [Df,En,ih];(try rfl)
def Row.cut {α:Type} [AY α] (x:Row α) (j k:Nat):Row α:=⟨if x.c=j then x.A else x.A.map (·.add (j * 1)),k - j,x.c - j,(x.l.drop j).take (k - j)⟩
end Go.Proofs.YtijplolmkcdflaaGreat
namespace Go.Proofs.YtijplolmkcdflaaGreat
open Tryz
open Go.RowKit
theorem ZE (x:JZ) (E:Ct):Eb x.ms 0 E.cs.toList=(JZ.mk E x.rows x.has x.closed).ms:=by
 simp [Eb]
def uF (T:Nat→Prop) (B:Nat) (o:MC × Int) (w:World) (e:Ending) (w':World):Prop:=
 ∃ y:JZ,e=.returned (.agg (Et.err o.2).cs)∧Fr (One B) w w'∧Bh w' B 86 y.ms∧y.Ac=o.1∧ET T w' fun w=>y.rd w
theorem Zg9 {p:Prop} (h:p:=by (try simp only [Act.put,LP]);refine Bc (AO rfl AL rfl (H.blk 2 rfl) rfl) rfl ?_;rw [HO.Ab];exact ⟨x,rfl,H.fr,H.blk 0 rfl,rfl,Ns _ H.fr⟩):p:=h
theorem Zr4 {p:Prop} (h:p:=by replace H:=Aa (H.Av hbf);clear hbf;go_wp2_with ((with_reducible refine OS 4 ?_);(refine Cj AL H 2 rfl ((Et.err (K)).cs) (BJ _) ?_;clear H;intro wq H;(try simp only [LS] at H)));exact Zg9):p:=h
theorem qW (T:Nat→Prop) (B:Nat) (x:JZ) (c:Wt) (w:World) (hb:Bh w B 86 x.ms) (hT:∀ g,T g→g<w.heap.size) (hTB:T B) (hx:ET T w fun w=>x.rd w) (hc:c.data.length≤140737488351232):
 Calls prog 34 #[.pointer (some ⟨B,0,none⟩),.agg c.cs] w (uF T B (IP x.Ac c.data) w):=by
 have Tg:=Aa (fun w'=>oH c.data w' hc);have HX:=Aa hx;have HX2:=Aa (fun w' (k:Fr (One B) w w')=>hx w' (k.mono fun g (hg:g=B)=>hg ▸ hTB));have Ns:=Aa (fun w' (k:Fr (One B) w w')=>hx.fr (k.mono fun g (hg:g=B)=>hg ▸ hTB));have Yw:=Aa hT;have H:=Aa (((SL.blk1 w hb).alloc c.cs 41).alloc #[.int .i64 0,.slice none 0 0,.slice none 0 0] 49);(try simp only [LS] at H);clear hb hT hx hc;go_enter func34,ntmps34;go_upto_region 1 with fail;generalize w.heap.size+1=y at H ⊢;generalize w.heap.size=q at H ⊢;generalize World.alloc (World.alloc _ _) _=w0 at H ⊢;have c10:w0.cell? ⟨B,10,none⟩=some (.bool x.has):=(H.blk 0 rfl).cell 10;cases hh:x.has with
 |true=>
  have HO:Hid (IP x.Ac c.data=(x.Ac,11)):=by show _=_;unfold IP;rw [Al (show x.Ac.has=true from hh)]
  have HR:Hid (x=⟨x.ct,x.rows,true,x.closed⟩):=by show _=_;rw [←hh]
  rw [hh] at c10;go_wp2_with fail;clear c10;refine (DT 11 w0).mono ?_;rintro e wf ⟨rfl,hbf⟩;replace H:=Aa (H.Av hbf);clear hbf;go_wp2_with ((with_reducible refine OS 4 ?_);(refine Cj AL H 2 rfl ((Et.err (11)).cs) (BJ _) ?_;clear H;intro wq H;(try simp only [LS] at H)));exact Zg9
 |false=>
  have HHF:Hid (x.Ac.has=false):=hh;rw [hh] at c10;have c1:w0.cell? ⟨q,1,none⟩=some (.string ⟨c.data.toArray⟩):=(H.blk 1 rfl).cell 1;go_wp2_with fail;refine (Tg w0).mono ?_;rintro e w1 ⟨D,rfl,hD,hb1,hN⟩;replace H:=Aa (H.add hb1 _ hN.1 hN.2);(try simp only [LS] at H);have HD:=Aa hD;clear hD hb1 hN c10 c1 Tg;go_upto_region 4 with ((with_reducible refine OS 5 ?_);(refine DX Bb (D.cs) (FE D) ?_;replace H:=Aa (H.alloc (D.cs) 25);(try simp only [LS] at H)));(try simp only [Act.put,LP]);(try simp only [LS] at H);generalize w1.heap.size=z at H ⊢;generalize World.alloc w1 _=w2 at H ⊢;obtain ⟨K,hK⟩:∃ K,K=(Ey c.data).2:=⟨_,rfl⟩;rw [←hK];have HK:=Aa hK;clear hK;by_cases hz:K=0
  ·have HO:Hid (IP x.Ac c.data=(⟨⟨(Ey c.data).1,0,0,0,0,0,0,0⟩,x.Ac.rows,true,x.Ac.closed⟩,0)):=by show _=_;unfold IP;rw [Ak (by rw [HHF.Ab];decide),Ak (by rw [←HK.Ab,hz];decide)]
   have HE:Hid (Ay D.Ac=0):=by show _=_;rw [HD.Ab];exact Vs (by rw [←HK.Ab,hz])
   have dk:(K !=0)=false:=by simpa using hz
   clear HK hz;go_wp2_with ((with_reducible refine OP 24 ?_);(refine Bf Bb (H.blk 4 rfl) ?_));refine (tN D w2 (H.at_ 3 rfl).rd (GH (H.at_ 3 rfl))).mono ?_;rintro e w3 ⟨E,rfl,hE,hEr,hEm,hb3,hN⟩;replace H:=Aa (H.add hb3 _ hN.1 hN.2);(try simp only [LS] at H);have HEC:Hid (E.Ac=⟨D.Ac,0,0,0,0,0,0,0⟩):=by show _=_;rw [hE];unfold dI;rw [Ak (by rw [HE.Ab];decide)]
   have HEI:=Aa (And.intro hEr.ints hEm);clear hE hEr hEm hb3 hN;go_upto_region 7 with ((with_reducible refine OS 29 ?_);refine Bq rfl BI (.tmp 29) (.tmp 26) rfl B 0 rfl (H.blk 0 rfl) E.cs rfl uH rfl (Oc E) ?_;intro wq bq Aq;rw [ZE] at bq;replace H:=Aa (H.AA 0 rfl Aq bq);(try simp only [LS] at H);clear Aq bq);(try simp only [Act.put,LP]);have cz:=(H.blk 0 rfl).Ap 10;have fz:=(H.blk 0 rfl).frozen 10;go_wp2_with fail;replace H:=Aa (H.setCell 0 rfl 10 (.bool true));(try simp only [LS] at H);clear cz fz;refine (DT 0 _).mono ?_;rintro e wf ⟨rfl,hbf⟩;replace H:=Aa (H.Av hbf);clear hbf;go_wp2_with ((with_reducible refine OS 4 ?_);(refine Cj AL H 2 rfl ((Et.err (0)).cs) (BJ _) ?_;clear H;intro wq H;(try simp only [LS] at H)));(try simp only [Act.put,LP]);refine Bc (AO rfl AL rfl (H.blk 2 rfl) rfl) rfl ?_;have h3:=(ET.LY (T:=T) (r:=Kj E.sc) ⟨H.get 5 rfl,H.VG 5 0 Za1 rfl rfl rfl⟩ Yw.Ab);have h4:=Ns _ H.fr;rw [HO.Ab];refine ⟨⟨E,x.rows,true,x.closed⟩,rfl,H.fr,H.blk 0 rfl,?_,fun wz kz=>⟨HEI.1.rd (h3 wz kz),HEI.2,(h4 wz kz).rows⟩⟩;show MC.mk E.Ac _ true _=_;rw [HEC.Ab,HD.Ab]
   rfl
  ·have HO:Hid (IP x.Ac c.data=(x.Ac,K)):=by show _=_;unfold IP;rw [Ak (by rw [HHF.Ab];decide),Al (by rw [←HK.Ab];exact hz),←HK.Ab]
   have dk:(K !=0)=true:=by simpa using hz
   clear HK hz;go_wp2_with fail;refine (DT K w2).mono ?_;rintro e wf ⟨rfl,hbf⟩;exact Zr4
theorem kH {X:Row Rw} {L:List (Row Int)} {A:Option Addr} {c:Nat} {w:World} (hL:L.map Row.l=X.l.map (fun r=>r.vs.l)) (hn:X.l.length≤1000000) (hs:∀ r ∈ X.l,r.vs.l.length≤3∧∀ v ∈ r.vs.l,AZ v)
 (h1:(Ce 36 1 (.slice A X.l.length c) X.l.length (L.map Row.v)).holds w) (h2:(Gw rIv L).holds w):(Row.mk A X.l.length c L).rd w:=by
 have o1:w.ownsRow 0 36 1 (.slice A X.l.length c) X.l.length (L.map Row.v):=h1.now;have hlen:L.length=X.l.length:=by have h:=CW List.length hL;rw [CQ,CQ] at h;exact h
 refine ⟨by show Rd _ _ _ _ (L.flatMap _);rw [jG];exact Rd.BC o1,fun y hy=>?_,by show X.l.length≤_;omega⟩;have o2:w.ownsRow 0 2 1 (.slice y.A y.n y.c) y.n (y.l.map (Value.int .i64)):=(h2.now.1 y hy).now;have hl:y.l.length=y.n:=by have:=o2.1;rw [CQ] at this;omega
 have hm:y.l ∈ X.l.map (fun r=>r.vs.l):=by rw [←hL];exact Kc.2 ⟨y,hy,rfl⟩
 obtain ⟨r,hr,e⟩:=Kc.1 hm;have h3:=hs r hr;rw [e] at h3;exact RP (by rw [Gz];exact o2) h3.2 (by show y.n * 8≤_;omega)
theorem Ze8 {p:Prop} (h:p:=by rw [show x.Ac.cat=x.ct.Ac from rfl,show x.ct.Ac.sc=x.ct.sc.Ac from rfl,←UZ.Ab];simp only;rw [Al hK]):p:=h
theorem Zs9 {p:Prop} (h:p:=by show _=_;unfold DF;rw [show x.Ac.cat=x.ct.Ac from rfl,show x.ct.Ac.sc=x.ct.sc.Ac from rfl,←UZ.Ab];simp only;rw [←HG.Ab];simp only;rw [Ak uH,Al hK]):p:=h
theorem Zh5 {p:Prop} (h:p:=by show World.ownsRow _ 0 _ _ _ _ _;rw [EM];exact h1 wz kz):p:=h
theorem Zh6 {p:Prop} (h:p:=by show (x.rows.n+F.n) * 104≤_;omega):p:=h
theorem iP (T:Nat→Prop) (B:Nat) (x:JZ) (c:Wt) (w:World) (hb:Bh w B 86 x.ms) (hT:∀ g,T g→g<w.heap.size) (hTB:T B) (hx:ET T w fun w=>x.rd w) (hc:c.data.length≤140737488351232) (hi:MInv x.Ac) (hh:x.has=true):
 Calls prog 35 #[.pointer (some ⟨B,0,none⟩),.agg c.cs] w (uF T B (DF x.Ac c.data) w):=by
 have hx0:=hx.now;have hsm:=hx0.sm;have nO:=Aa hsm;have HBT:=Aa (fun w' (hr:x.ct.sc.rd w')=>tT x.ct.sc c.data w' hr hc hsm.1 hsm.2.1 hsm.2.2);have rC:x.rows.n≤4000:=by have h1:=hi.len;have h2:=hx0.rows.len;have h3:x.Ac.rows.length=x.rows.l.length:=AR _;omega
 have HCF:=Aa (fun w' (hr:x.rows.ok w')=>yM x.rows w' hr Xl);have HX:=Aa hx;have HX2:=Aa (fun w' (k:Fr (One B) w w')=>hx w' (k.mono fun g (hg:g=B)=>hg ▸ hTB));have Ns:=Aa (fun w' (k:Fr (One B) w w')=>hx.fr (k.mono fun g (hg:g=B)=>hg ▸ hTB));have Yw:=Aa hT;have H:=Aa (((SL.blk1 w hb).alloc c.cs 41).alloc #[.int .i64 0,.slice none 0 0,.slice none 0 0] 49);(try simp only [LS] at H);clear hb hT hx hc hx0 hsm hi hh;go_enter func35,ntmps35;go_upto_region 1 with fail;generalize w.heap.size+1=y at H ⊢;generalize w.heap.size=q at H ⊢;generalize World.alloc (World.alloc _ _) _=w0 at H ⊢;refine' Ac1 (P:=fun (X:Row Rw) wq=>X.l.map Rw.Ac=(De x.ct.sc.Ac c.data).1∧SL (One B) w wq [Aw B 86 x.ms,Aw q 41 c.cs,Aw y 49 #[.int .i64 0,.slice none 0 0,.slice none 0 0],eY X]) (fun key=>?mn) ?tl;case mn=>
  refine Ep (S:=fun W=>Bh W B 86 x.ms∧W.cell? ⟨q,1,none⟩=some (.string ⟨c.data.toArray⟩)) Za0 ⟨H.blk 0 rfl,(H.blk 1 rfl).cell 1⟩ fun hHeld=>?_;replace H:=Aa (H.drew);generalize World.drew _=w8 at *;refine Bd Ml ?_;refine Bd KF ?_;refine Bd MN ?_;refine Bd Ky ?_;refine Lx (i:=4) (v:=.agg x.ct.sc.cs) LJ Za0 Za0 Za0 Za7 (DU Bb (by rfl) (.tmp 14) rfl B 0 rfl (fun w h=>Bh.part h.1 0 x.ct.sc.cs.toList rfl) rfl) Zb0 ?_;try simp only [Act.put,LP]
  refine Bd KW ?_;refine Bd MI ?_;refine BG Lj fun KK Ad=>?_;go_simp;refine (HBT _ (HX2 _ H.fr).ct.sc).mono ?_;rintro e' w1 ⟨X,rfl,hX,hb1,hN⟩;replace H:=Aa (H.add hb1 _ hN.1 hN.2);(try simp only [LS] at H);have fO:=Aa hX;clear hX hb1 hN;refine Aj Ad ⟨H.blk 0 rfl,(H.blk 1 rfl).cell 1⟩ fun hHeld=>?_;clear Ad KK;refine Bd Mk ?_;refine Bd MH ?_;refine Bd FO ?_;refine Bd Ga ?_;refine Bd Hw ?_;refine BZ ?_;clear hHeld;exact key X _ ⟨fO.Ab,H.Ab⟩
 case tl=>
  rintro X wq ⟨hX,hH⟩;replace H:=Aa hH;clear hH HBT;(try simp only at H);obtain ⟨O,hO⟩:∃ O,O=De x.ct.sc.Ac c.data:=⟨_,rfl⟩;rw [←hO] at hX ⊢;have UZ:=Aa hO;clear hO;obtain ⟨R,K⟩:=O;simp only at hX ⊢;by_cases hK:K=0
  ·subst hK;have hB:CR x.ct.sc.Ac R=0:=by have h:=Qy (s:=x.ct.sc.Ac) (b:=c.data) (by rw [←UZ.Ab]);rw [←UZ.Ab] at h;exact h
   obtain ⟨b1,b2,b3⟩:=IE hB;have hXr:=(H.at_ 3 rfl:X.rd wq∧X.n≤300);have hxl:X.l.length=X.n:=hXr.1.len;have E9:Hid (X.l.length≤1000000):=by show _≤_;omega
   have hvs:∀ r ∈ X.l,r.vs.l.length≤3∧∀ v ∈ r.vs.l,AZ v:=fun r hr=>by
    have hm:r.Ac ∈ R:=by rw [←hX];exact Kc.2 ⟨r,hr,rfl⟩
    obtain ⟨ks,hk⟩:=b3 r.Ac hm;exact ⟨(WM b1 hk).2.1,(Rw.rd.vs (hXr.1.all r hr)).all⟩
   have HVS:=Aa hvs;have HVA:=Aa (fun w' (hr:X.rd w')=>vI X w' hr Xl (fun r h=>by have h1:=(hvs r h).1;have h2:=(Rw.rd.vs (hr.all r h)).len;omega));have HVR:Hid (X.l.map (fun r=>r.vs.l)=R.map (·.vs)):=by show _=_;rw [←hX,Ri];rfl
   have fO:Hid (X.l.map Rw.Ac=R):=hX;have HBE:=Aa hB;have hx3:=hXr.2;clear hB b1 b2 b3 hXr hxl hvs hX;go_upto_region 4 with fail;obtain ⟨G,hG⟩:∃ G,G=Fx x.ct.Ac (R.map (·.vs)):=⟨_,rfl⟩;refine' G9 (P:=fun z (VA:Option Addr) (vc:Nat) (D:Ct) wr=>D.Ac=(Fx x.ct.Ac (R.map (·.vs))).1∧(D.ints∧C9 D.sc)∧SL (One B) w wr [Aw B 86 x.ms,Aw q 41 c.cs,Aw y 49 #[.int .i64 0,.slice none 0 0,.slice none 0 0],eY X,Kj D.sc,Aw z 63 D.cs]) (fun key=>?mn2) ?tl2;case mn2=>
    refine Ep (S:=fun W=>Bh W B 86 x.ms) Za0 (H.blk 0 rfl) fun hHeld=>?_;replace H:=Aa (H.drew);generalize World.drew _=w8 at *;refine Bd Ml ?_;refine Bd KF ?_;refine Bd MN ?_;refine Lx (i:=3) (v:=.agg x.ct.cs) Ky Za0 Za0 Za0 Za7 (DU BI (by rfl) (.tmp 28) rfl B 0 rfl (fun w h=>Bh.part h 0 x.ct.cs.toList rfl) rfl) Zb0 ?_;try simp only [Act.put,LP]
    refine Bd LJ ?_;refine Oh KW FO (fun KK Ad=>?_) fun KK Ad=>?_
    ·go_simp;refine (HVA _ (H.at_ 3 rfl).1).mono ?_;rintro e' w5 ⟨VA,vc,L,rfl,hL,hV⟩;replace H:=Aa (H.join hV);(try simp only [LS] at H);have HL:=Aa hL;clear hL hV;refine Aj Ad (H.blk 0 rfl) fun hHeld=>?_;clear Ad KK;refine Oh MI FO (fun KK Ad=>?_) fun KK Ad=>?_
     ·go_simp;refine (Qv x.ct ⟨VA,X.l.length,vc,L⟩ _ (HX2 _ H.fr).ct nO (kH HL E9 HVS (H.get 4 rfl) (H.get 5 rfl)) E9.Ab).mono ?_;rintro e' w6 ⟨D,rfl,hD,Fj,rW,hb6,hN⟩;replace H:=Aa (H.add hb6 _ hN.1 hN.2);(try simp only [LS] at H);have hLL:L.map (fun y=>y.l)=R.map (·.vs):=HL.trans HVR.Ab;simp only at hD;rw [hLL] at hD;rw [hLL];have HD:=Aa hD;have HDI:=Aa (And.intro Fj.ints rW);clear hD Fj rW hb6 hN hLL HL;refine Aj Ad (H.blk 0 rfl) fun hHeld=>?_;clear Ad KK;refine Bd Lj ?_;refine Bd Mk ?_;refine Bd MH ?_;refine BG FO fun KK Ad=>?_;go_simp;replace H:=Aa (H.alloc #[.slice none 0 0,.slice none 0 0,.int .i64 0,.int .i64 0,.int .i64 0,.int .i64 0,.int .i64 0,.int .i64 0,.int .i64 0] 63);(try simp only [LS] at H);generalize w6.heap.size=z at H ⊢;generalize World.alloc w6 _=w7 at H ⊢;refine Aj Ad (H.blk 0 rfl) fun hHeld=>?_;clear Ad KK;refine BG Ga fun KK Ad=>?_;refine CK rfl BI (.tmp 7) (.tmp 33) rfl _ rfl (H.blk 7 rfl) rfl (D.cs) rfl rfl (Oc D) ?_;intro wq bq Aq;replace H:=Aa (H.AA 7 rfl Aq bq);(try simp only [LS] at H);clear Aq bq;refine Aj Ad (H.blk 0 rfl) fun hHeld=>?_;clear Ad KK;refine Bd Hw ?_;refine BZ ?_;clear hHeld;replace H:=Aa (H.Fg [0,1,2,3,6,7] Za1 uH);(try simp only [LS] at H);exact key z VA vc D _ ⟨HD.Ab,HDI.Ab,H.Ab⟩
     ·go_simp;replace H:=Aa (H.alloc #[.slice none 0 0,.slice none 0 0,.int .i64 0,.int .i64 0,.int .i64 0,.int .i64 0,.int .i64 0,.int .i64 0,.int .i64 0] 63);(try simp only [LS] at H);generalize w5.heap.size=z at H ⊢;generalize World.alloc w5 _=w7 at H ⊢;refine Aj Ad (H.blk 0 rfl) fun hHeld=>?_;clear Ad KK;refine BG MI fun KK Ad=>?_;go_simp;refine (Qv x.ct ⟨VA,X.l.length,vc,L⟩ _ (HX2 _ H.fr).ct nO (kH HL E9 HVS (H.get 4 rfl) (H.get 5 rfl)) E9.Ab).mono ?_;rintro e' w6 ⟨D,rfl,hD,Fj,rW,hb6,hN⟩;replace H:=Aa (H.add hb6 _ hN.1 hN.2);(try simp only [LS] at H);have hLL:L.map (fun y=>y.l)=R.map (·.vs):=HL.trans HVR.Ab;simp only at hD;rw [hLL] at hD;rw [hLL];have HD:=Aa hD;have HDI:=Aa (And.intro Fj.ints rW);clear hD Fj rW hb6 hN hLL HL;refine Aj Ad (H.blk 0 rfl) fun hHeld=>?_;clear Ad KK;refine Bd Lj ?_;refine Bd Mk ?_;refine Bd MH ?_;refine BG Ga fun KK Ad=>?_;refine CK rfl BI (.tmp 7) (.tmp 33) rfl _ rfl (H.blk 6 rfl) rfl (D.cs) rfl rfl (Oc D) ?_;intro wq bq Aq;replace H:=Aa (H.AA 6 rfl Aq bq);(try simp only [LS] at H);clear Aq bq;refine Aj Ad (H.blk 0 rfl) fun hHeld=>?_;clear Ad KK;refine Bd Hw ?_;refine BZ ?_;clear hHeld;replace H:=Aa (H.Fg [0,1,2,3,7,6] Za1 uH);(try simp only [LS] at H);exact key z VA vc D _ ⟨HD.Ab,HDI.Ab,H.Ab⟩
    ·go_simp;replace H:=Aa (H.alloc #[.slice none 0 0,.slice none 0 0,.int .i64 0,.int .i64 0,.int .i64 0,.int .i64 0,.int .i64 0,.int .i64 0,.int .i64 0] 63);(try simp only [LS] at H);generalize w8.heap.size=z at H ⊢;generalize World.alloc w8 _=w7 at H ⊢;refine Aj Ad (H.blk 0 rfl) fun hHeld=>?_;clear Ad KK;refine BG KW fun KK Ad=>?_;go_simp;refine (HVA _ (H.at_ 3 rfl).1).mono ?_;rintro e' w5 ⟨VA,vc,L,rfl,hL,hV⟩;replace H:=Aa (H.join hV);(try simp only [LS] at H);have HL:=Aa hL;clear hL hV;refine Aj Ad (H.blk 0 rfl) fun hHeld=>?_;clear Ad KK;refine BG MI fun KK Ad=>?_;go_simp;refine (Qv x.ct ⟨VA,X.l.length,vc,L⟩ _ (HX2 _ H.fr).ct nO (kH HL E9 HVS (H.get 5 rfl) (H.get 6 rfl)) E9.Ab).mono ?_;rintro e' w6 ⟨D,rfl,hD,Fj,rW,hb6,hN⟩;replace H:=Aa (H.add hb6 _ hN.1 hN.2);(try simp only [LS] at H);have hLL:L.map (fun y=>y.l)=R.map (·.vs):=HL.trans HVR.Ab;simp only at hD;rw [hLL] at hD;rw [hLL];have HD:=Aa hD;have HDI:=Aa (And.intro Fj.ints rW);clear hD Fj rW hb6 hN hLL HL;refine Aj Ad (H.blk 0 rfl) fun hHeld=>?_;clear Ad KK;refine Bd Lj ?_;refine Bd Mk ?_;refine Bd MH ?_;refine BG Ga fun KK Ad=>?_;refine CK rfl BI (.tmp 7) (.tmp 33) rfl _ rfl (H.blk 4 rfl) rfl (D.cs) rfl rfl (Oc D) ?_;intro wq bq Aq;replace H:=Aa (H.AA 4 rfl Aq bq);(try simp only [LS] at H);clear Aq bq;refine Aj Ad (H.blk 0 rfl) fun hHeld=>?_;clear Ad KK;refine Bd Hw ?_;refine BZ ?_;clear hHeld;replace H:=Aa (H.Fg [0,1,2,3,7,4] Za1 uH);(try simp only [LS] at H);exact key z VA vc D _ ⟨HD.Ab,HDI.Ab,H.Ab⟩
   case tl2=>
    rintro z VA vc D wr ⟨hD,hDI,hH⟩;replace H:=Aa hH;clear hH HVA;(try simp only at H);rw [←hG] at hD ⊢;have HG:=Aa hG;clear hG;obtain ⟨GC,GK⟩:=G;simp only at hD ⊢;have HD:=Aa hD;have HDI:=Aa hDI;clear hD hDI;by_cases hK:GK=0
    ·subst hK;have HO:Hid (DF x.Ac c.data=(⟨GC,x.Ac.rows++R.map (Gp x.ct.sc.Ac),x.has,x.closed⟩,0)):=by
      show _=_;unfold DF;rw [show x.Ac.cat=x.ct.Ac from rfl,show x.ct.Ac.sc=x.ct.sc.Ac from rfl,←UZ.Ab];simp only;rw [←HG.Ab]
      rfl
     have HBF:=Aa (fun w' (hs:x.ct.sc.rd w') (hr:X.rd w')=>mR x.ct.sc X w' hs hr nO.1 nO.2.1 nO.2.2 (by rw [fO.Ab];exact HBE.Ab));clear UZ HG HBE;go_wp2_with ((with_reducible refine OP 44 ?_);refine Af rfl Bb (.tmp 43) rfl B 0 rfl x.ct.sc.cs rfl ((H.blk 0 rfl).part 0 x.ct.sc.cs.toList rfl) ?_);refine (HBF _ (HX2 _ H.fr).ct.sc (H.at_ 3 rfl).1).mono ?_;rintro e w8 ⟨F,rfl,hFn,hFc,iY,hN⟩;replace H:=Aa (H.add iY _ hN.1 hN.2);(try simp only [LS] at H);have zM:Hid (F.l.map Br.Ac=R.map (Gp x.ct.sc.Ac)):=by show _=_;rw [hFc,fO.Ab]
     have hF3:F.n≤300:=(H.at_ 6 rfl).2;clear hFn hFc iY hN HBF;go_upto_region 8 with fail;refine Ep (S:=fun W=>Bh W z 63 D.cs) Za0 (H.blk 5 rfl) fun hHeld=>?_;replace H:=Aa (H.drew);generalize World.drew _=w8 at *;refine Bd Ml ?_;refine Bd KF ?_;refine Lx (i:=2) (v:=.agg D.cs) MN Za0 Za0 Za0 Za7 (DU BI (by rfl) (.tmp 7) rfl z 0 rfl (fun w h=>Bh.part h 0 D.cs.toList rfl) rfl) Zb0 ?_;try simp only [Act.put,LP]
     refine Bd Ky ?_;refine Bd LJ ?_;refine Bd KW ?_;refine Bd Mk ?_;refine BG MI fun KK Ad=>?_;have cr9:=(H.blk 0 rfl).Ap 9;go_simp;clear cr9;refine Aj Ad (H.blk 5 rfl) fun hHeld=>?_;clear Ad KK;refine BG Lj fun KK Ad=>?_;go_simp;refine (HCF _ (HX2 _ H.fr).rows).mono ?_;rintro e' w9 ⟨CA,cc,rfl,rP,ho9⟩;replace H:=Aa (H.Co rP ho9);(try simp only [LS] at H);clear rP ho9;refine Aj Ad (H.blk 5 rfl) fun hHeld=>?_;clear Ad KK;refine BG MH fun KK Ad=>?_;refine AX rfl (.tmp 56) (.tmp 57) _ rfl EI 0 (Bj _) _ x.rows.n _ rfl (H.row 7 rfl) F.A F.n F.c _ rfl ((H.at_ 6 rfl).1.rd) (ND F.l) Za4 Xl ?_;intro vq wq AJ Aq AQ;replace H:=Aa (H.setRow 7 rfl Aq AJ AQ);(try simp only [LS] at H);clear AJ Aq AQ;obtain ⟨A2,c2,rfl,_⟩:=Ao (H.row 7 rfl);refine Aj Ad (H.blk 5 rfl) fun hHeld=>?_;clear Ad KK;refine Bd FO ?_;refine Bd Ga ?_;refine BG Hw fun KK Ad=>?_;refine Zv rfl BI (.tmp 60) (.tmp 51) rfl B 0 rfl (H.blk 0 rfl) D.cs rfl uH rfl (Oc D) ?_;intro wq bq Aq;rw [ZE] at bq;replace H:=Aa (H.AA 0 rfl Aq bq);(try simp only [LS] at H);clear Aq bq;refine Aj Ad (H.blk 5 rfl) fun hHeld=>?_;clear Ad KK;refine Bd Jc ?_;refine Bd Jw ?_;refine BG bV fun KK Ad=>?_;have cz9:=(H.blk 0 rfl).Ap 9;have fz9:=(H.blk 0 rfl).frozen 9;go_simp;replace H:=Aa (H.setCell 0 rfl 9 (.slice A2 (x.rows.n+F.n) c2));(try simp only [LS] at H);clear cz9 fz9;refine Aj Ad (H.blk 5 rfl) fun hHeld=>?_;clear Ad KK;refine BZ ?_;clear hHeld;clear HCF HX2;go_wp2_with fail;refine (DT 0 _).mono ?_;rintro e wf ⟨rfl,hbf⟩;replace H:=Aa (H.Av hbf);clear hbf;go_wp2_with ((with_reducible refine OS 4 ?_);(refine Cj AL H 2 rfl ((Et.err (0)).cs) (BJ _) ?_;clear H;intro wq H;(try simp only [LS] at H)));(try simp only [Act.put,LP]);refine Bc (AO rfl AL rfl (H.blk 2 rfl) rfl) rfl ?_
     have h1:=(ET.LY (T:=T) (r:=Ce 97 11 (.slice A2 (x.rows.n+F.n) c2) (x.rows.n+F.n) (x.rows.l.flatMap AY.cells++F.l.flatMap AY.cells)) ⟨H.get 7 rfl,H.VG 7 0 Za1 rfl rfl rfl⟩ Yw.Ab);have h2:=(ET.LY (T:=T) (r:=wR F) ⟨H.get 6 rfl,H.VG 6 0 Za1 rfl rfl rfl⟩ Yw.Ab);have h3:=(ET.LY (T:=T) (r:=Kj D.sc) ⟨H.get 4 rfl,H.VG 4 0 Za1 rfl rfl rfl⟩ Yw.Ab);have h4:=Ns _ H.fr;rw [HO.Ab];refine ⟨⟨D,⟨A2,x.rows.n+F.n,c2,x.rows.l++F.l⟩,x.has,x.closed⟩,rfl,H.fr,H.blk 0 rfl,?_,fun wz kz=>⟨HDI.1.rd (h3 wz kz),HDI.2,RP (x:=⟨A2,x.rows.n+F.n,c2,x.rows.l++F.l⟩) Zh5 (fun a ha=>(Ec.1 ha).elim ((h4 wz kz).rows.all a) ((h2 wz kz).1.all a)) Zh6⟩⟩;show MC.mk D.Ac (cons (x.rows.l++F.l)) x.has x.closed=_;rw [HD.Ab];unfold cons;rw [Cf,zM.Ab]
     rfl
    ·have HO:Hid (DF x.Ac c.data=(x.Ac,GK)):=by
      exact Zs9
     have dk:(GK !=0)=true:=by simpa using hK
     clear HG hK UZ;go_wp2_with fail;refine (DT GK _).mono ?_;rintro e wf ⟨rfl,hbf⟩;replace H:=Aa (H.Av hbf);clear hbf;go_wp2_with ((with_reducible refine OS 4 ?_);(refine Cj AL H 2 rfl ((Et.err (GK)).cs) (BJ _) ?_;clear H;intro wq H;(try simp only [LS] at H)));exact Zg9
  ·have HO:Hid (DF x.Ac c.data=(x.Ac,K)):=by
    show _=_;unfold DF;exact Ze8
   have dk:(K !=0)=true:=by simpa using hK
   clear hK UZ hX;go_wp2_with fail;refine (DT K _).mono ?_;rintro e wf ⟨rfl,hbf⟩;exact Zr4
theorem iZ {T:Nat→Prop} {A:Option Addr} {n c:Nat} {L:List KY} {w0 w w':World} (h1:(Ce 136 11 (.slice A n c) n (L.flatMap AY.cells)).holds w) (h2:(Gw Yp L).holds w) (n1:∀ g,(Ce 136 11 (.slice A n c) n (L.flatMap AY.cells)).D g→w0.heap.size≤g) (n2:∀ g,(Gw Yp L).D g→w0.heap.size≤g)
 (hT:∀ g,T g→g<w0.heap.size) (k:Fr T w w') (hn:n≤1000000):(Row.mk A n c L).rd w':=by
 refine An9 (h1.keep k.size fun g hg=>k.block g (h1.1 g hg) fun ht=>?_) (h2.keep k.size fun g hg=>k.block g (h2.1 g hg) fun ht=>?_) hn
 ·have:=hT g ht;have:=n1 g hg;omega
 ·have:=hT g ht;have:=n2 g hg;omega
def YR (T:Nat→Prop) (o:nS) (w:World) (e:Ending) (w':World):Prop:=∃ a:Et,e=.returned (.agg a.cs)∧Ai w w'∧a.Ac=o∧ET T w' fun w=>a.rd w
theorem YO {T:Nat→Prop} {k:Int} {w w':World} (hb:Ai w w'):YR T ⟨k,[],[]⟩ w (.returned (.agg (Et.err k).cs)) w':=⟨Et.err k,rfl,hb,rfl,fun wz _=>BL k wz⟩
theorem Zm9 {p:Prop} (h:p:=by
 have E2:L.flatMap AY.cells++(Br.mk ⟨KA,ks.length,kc,ks⟩ f.ag).cs.toList=(L++[(Br.mk ⟨KA,ks.length,kc,ks⟩ f.ag)]).flatMap AY.cells:=by rw [EM,Df,Gt,EO];rfl
 rw [E2] at H;clear E2;go_wp2_with fail;rw [←vF.Ab];go_roundg (n - (k+1));case rel=>exact ⟨k+1,m+1,A2,c2,L++[(Br.mk ⟨KA,ks.length,kc,ks⟩ f.ag)],rfl,Xl,Xl,rfl,by go_num,HL2,H⟩
 case measure=>rw [Cs.Ab];omega
):p:=h
theorem Ze7 {p:Prop} (h:p:=by (try simp only [Act.put,LP]);refine Bc (AO rfl AL rfl (H.blk 1 rfl) rfl) rfl ?_;rw [HRE.Ab];exact YO H.to):p:=h
theorem Zs7 {p:Prop} (h:p:=by
 go_wp2_with fail;rw [←vF.Ab];go_roundg (n - (k+1));case rel=>exact ⟨k+1,m,A,c',L,rfl,Xl,Xl,rfl,by go_num,HL2,H⟩
 case measure=>rw [Cs.Ab];omega
):p:=h
theorem Zf3 {p:Prop} (h:p:=by rw [←Vh.Ab];exact hlt):p:=h
theorem Zf4 {p:Prop} (h:p:=by rw [←hyl];exact lX):p:=h
theorem Ah1 (T:Nat→Prop) (B:Nat) (x:JZ) (c:Wt) (w:World) (hb:Bh w B 86 x.ms) (hT:∀ g,T g→g<w.heap.size) (hx:ET T w fun w=>x.rd w) (hc:c.data.length≤140737488351232) (hi:MInv x.Ac) (hh:x.has=true):
 Calls prog 36 #[.pointer (some ⟨B,0,none⟩),.agg c.cs] w (YR T (LH x.Ac c.data) w):=by
 have HX:Hid (∀ w',Ai w w'→x.rd w'):=fun w' h=>hx w' (Fr.MR h)
 have Ws:=Aa (fun w' (h:Ai w w')=>hb.Av h);have hx0:=hx.now;have hsm:=hx0.sm;have Tg:=Aa (fun w' (h:Ai w w')=>tZ x.ct.sc c.data w' (HX w' h).ct.sc hc hsm.1 hsm.2.1 hsm.2.2);have Yw:=Aa hT;have hmf:∀ (fn:Fn) (first cap:Array Value) (w:World),(Instr.makeFunc fn first cap).run prog w=.ok (.func fn first cap) w:=fun _ _ _ _=>rfl
 have HI:=Aa hi;have nO:=Aa hsm;have hrl:Hid (x.rows.l.length=x.rows.n):=hx0.rows.len;have hrn:x.rows.n≤4000:=by have h1:=hi.len;have h2:=hx0.rows.len;have h3:x.Ac.rows.length=x.rows.l.length:=AR _;omega
 have HRW:=Aa hx0.rows;have H:=Aa (((SL.start No w).alloc c.cs 41).alloc #[.int .i64 0,.slice none 0 0,.slice none 0 0] 49);(try simp only [LS] at H);clear hb hT hx hc hi hh hx0 hsm;go_enter func36,ntmps36;go_upto_region 1 with fail;generalize w.heap.size+1=y at H ⊢;generalize w.heap.size=q at H ⊢;generalize World.alloc (World.alloc _ _) _=w0 at H ⊢;refine' I1 (P:=fun z (X:Qr) wq=>X.Ac=(Dv x.ct.sc.Ac c.data).1∧SL No w wq [Aw q 41 c.cs,Aw y 49 #[.int .i64 0,.slice none 0 0,.slice none 0 0],pR X.ps,Aw z 29 X.cs]) (fun key=>?mn) ?tl;case mn=>
  refine Ep (S:=fun W=>Bh W B 86 x.ms∧W.cell? ⟨q,1,none⟩=some (.string ⟨c.data.toArray⟩)) Za0 ⟨by first|exact Ws _ H.to|exact Ws _ H.to.drew,(H.blk 0 rfl).cell 1⟩ fun hHeld=>?_;replace H:=Aa (H.drew);generalize World.drew _=w8 at *;refine Bd Ml ?_;refine Bd KF ?_;refine Bd MN ?_;refine Bd Ky ?_;refine Lx (i:=4) (v:=.agg x.ct.sc.cs) LJ Za0 Za0 Za0 Za7 (DU Bb (by rfl) (.tmp 22) rfl B 0 rfl (fun w h=>Bh.part h.1 0 x.ct.sc.cs.toList rfl) rfl) Zb0 ?_;try simp only [Act.put,LP]
  refine Bd KW ?_;refine Bd MI ?_;refine Oh Lj Ga (fun KK Ad=>?_) fun KK Ad=>?_
  ·go_simp;refine (Tg _ H.to).mono ?_;rintro e' w1 ⟨X,rfl,hX,hb1,hN⟩;replace H:=Aa (H.add hb1 _ hN.1 hN.2);(try simp only [LS] at H);have fO:=Aa hX;clear hX hb1 hN;refine Aj Ad ⟨by first|exact Ws _ H.to|exact Ws _ H.to.drew,(H.blk 0 rfl).cell 1⟩ fun hHeld=>?_;clear Ad KK;refine Bd Mk ?_;refine Bd MH ?_;refine Bd FO ?_;refine BG Ga fun KK Ad=>?_;go_simp;replace H:=Aa (H.alloc #[.slice none 0 0] 29);(try simp only [LS] at H);generalize w1.heap.size=z at H ⊢;generalize World.alloc w1 _=w7 at H ⊢;refine Aj Ad ⟨by first|exact Ws _ H.to|exact Ws _ H.to.drew,(H.blk 0 rfl).cell 1⟩ fun hHeld=>?_;clear Ad KK;refine BG Hw fun KK Ad=>?_;refine CK rfl Ev (.tmp 5) (.tmp 27) rfl _ rfl (H.blk 3 rfl) rfl (X.cs) rfl rfl (wS X) ?_;intro wq bq Aq;replace H:=Aa (H.AA 3 rfl Aq bq);(try simp only [LS] at H);clear Aq bq;refine Aj Ad ⟨by first|exact Ws _ H.to|exact Ws _ H.to.drew,(H.blk 0 rfl).cell 1⟩ fun hHeld=>?_;clear Ad KK;refine Bd Jc ?_;refine BZ ?_;clear hHeld;replace H:=Aa (H.Fg [0,1,2,3] Za1 uH);(try simp only [LS] at H);exact key z X _ ⟨fO.Ab,H.Ab⟩
  ·go_simp;replace H:=Aa (H.alloc #[.slice none 0 0] 29);(try simp only [LS] at H);generalize w8.heap.size=z at H ⊢;generalize World.alloc w8 _=w7 at H ⊢;refine Aj Ad ⟨by first|exact Ws _ H.to|exact Ws _ H.to.drew,(H.blk 0 rfl).cell 1⟩ fun hHeld=>?_;clear Ad KK;refine BG Lj fun KK Ad=>?_;go_simp;refine (Tg _ H.to).mono ?_;rintro e' w1 ⟨X,rfl,hX,hb1,hN⟩;replace H:=Aa (H.add hb1 _ hN.1 hN.2);(try simp only [LS] at H);have fO:=Aa hX;clear hX hb1 hN;refine Aj Ad ⟨by first|exact Ws _ H.to|exact Ws _ H.to.drew,(H.blk 0 rfl).cell 1⟩ fun hHeld=>?_;clear Ad KK;refine Bd Mk ?_;refine Bd MH ?_;refine Bd FO ?_;refine BG Hw fun KK Ad=>?_;refine CK rfl Ev (.tmp 5) (.tmp 27) rfl _ rfl (H.blk 2 rfl) rfl (X.cs) rfl rfl (wS X) ?_;intro wq bq Aq;replace H:=Aa (H.AA 2 rfl Aq bq);(try simp only [LS] at H);clear Aq bq;refine Aj Ad ⟨by first|exact Ws _ H.to|exact Ws _ H.to.drew,(H.blk 0 rfl).cell 1⟩ fun hHeld=>?_;clear Ad KK;refine Bd Jc ?_;refine BZ ?_;clear hHeld;replace H:=Aa (H.Fg [0,1,3,2] Za1 uH);(try simp only [LS] at H);exact key z X _ ⟨fO.Ab,H.Ab⟩
 case tl=>
  rintro z X wq ⟨hX,hH⟩;replace H:=Aa hH;clear hH Tg;(try simp only at H);obtain ⟨O,hO⟩:∃ O,O=Dv x.ct.sc.Ac c.data:=⟨_,rfl⟩;rw [←hO] at hX ⊢;have UZ:=Aa hO;clear hO;obtain ⟨QC,K⟩:=O;simp only at hX ⊢;by_cases hK:K=0
  ·subst hK;have hE:BV x.ct.sc.Ac X.Ac=0:=by have h:=(Wd (s:=x.ct.sc.Ac) (b:=c.data) (by rw [←UZ.Ab])).1;rw [←UZ.Ab] at h;rw [hX];exact h
   have hXr:=(H.at_ 2 rfl:X.ps.rd wq∧X.ps.n≤16∧∀ p ∈ X.ps.l,p.set.n≤200);have HQS:Hid (∀ p ∈ X.ps.l,p.set.n≤100000):=fun p hp=>by have:=hXr.2.2 p hp;omega
   have fO:Hid (QC=X.Ac):=hX.symm;have F6:=Aa hE;have HMM:Hid (LH x.Ac c.data=dK x.ct.sc.Ac X.Ac (Kr (Di x.ct.sc.Ac X.Ac x.Ac.rows))):=by
    show _=_;unfold LH;rw [show x.Ac.cat=x.ct.Ac from rfl,show x.ct.Ac.sc=x.ct.sc.Ac from rfl,←UZ.Ab];simp only;rw [Ak Za1,fO.Ab]
   have HKP:=Aa (fun f (hf:f ∈ x.Ac.rows)=>(HI.rows f hf).2);have HFIT:=Aa (UC (s:=x.ct.sc.Ac) (q:=X.Ac) HI.fit);have HNMD:Hid (∀ f ∈ Kr (Di x.ct.sc.Ac X.Ac x.Ac.rows),Ez x.ct.sc.Ac X.Ac f.1=.ok (Pf x.ct.sc.Ac X.Ac f.1)):=VQ HI hE;clear hXr hX hE HI UZ fO;have c9:wq.cell? ⟨B,9,none⟩=some (.slice x.rows.A x.rows.n x.rows.c):=(Ws _ H.to).cell 9;replace H:=Aa ((H.Dw 97 11).add (Ai.refl _) (Gw iC []) (Jb _ _) ME);(try simp only [LS] at H);go_upto_region 7 with fail;clear c9;obtain ⟨n,hn⟩:∃ n,n=x.rows.n:=⟨_,rfl⟩;rw [←hn] at hrn hrl ⊢;have Vh:=Aa hn;clear hn;go_loopg [7,40] n (fun gg s7 s40 wr=>∃ (k m:Nat) (A:Option Addr) (c':Nat) (L:List Br),gg=n - k∧k≤n∧m≤k∧s7=.slice A m c'∧s40=.int .i64 k∧Hid (cons L=Di x.ct.sc.Ac X.Ac (x.Ac.rows.take k))∧Hid (SL No w wr [Aw q 41 c.cs,Aw y 49 #[.int .i64 0,.slice none 0 0,.slice none 0 0],pR X.ps,Aw z 29 X.cs,Ce 97 11 (.slice A m c') m (L.flatMap AY.cells),Gw iC L]));case atStart=>exact ⟨0,0,none,0,[],rfl,Xl,Xl,rfl,rfl,rfl,H⟩
   case round=>
    clear H;obtain ⟨k,m,A,c',L,BR,hk,hmk,rfl,rfl,eD,H⟩:=hrel;have Cs:=Aa BR;clear BR;by_cases hlt:k<n
    ·obtain ⟨b,o,f,hA,hb,lU,hfo,_,hrg,_⟩:=HRW.Z7 (k:=k) Zf3;have hck:x.Ac.rows[k]?=some f.Ac:=by show (cons x.rows.l)[k]?=_;exact Jd lU
     have hfm:=CU hck;have HST:=Aa (XV (s:=x.ct.sc.Ac) (q:=X.Ac) hck);have HUN:=Aa (fun w' (h:Ai w w') (hq:X.ps.rd w')=>xH B x X f w' (Ws w' h) (HX w' h).ct.sc hq ⟨hfo.ks.mono h,hfo.ag⟩ F6 (HKP _ hfm) (fun p hp=>by have:=HQS p hp;omega));have fQ:=Aa (fun l (hl:EP x.ct.sc.Ac.Dx X.Ac f.ks.l=some l)=>RO (BH (EB F6.Ab).1).2.2.1 (EB F6.Ab).2.1 (EB F6.Ab).2.2 (HKP _ hfm) hl);have HD16:=Aa (BH (EB F6.Ab).1).2.1;have HFAG:=Aa hfo.ag;have fP:Hid (∀ w',Ai w w'→w'.rangeAt b (o+k * 11) f.cs.toList):=fun w' h=>CP hb hrg h
     have vF:=Aa hA;have i0:(0:Int)≤k:=by omega
     have i1:(k:Int)<n:=by omega
     clear hb lU hfo hrg hck hfm;rw [hA];clear hA;go_upto_region 9 with (first|((with_reducible refine OP 43 ?_);(refine Af rfl Bz (.tmp 42) rfl b (o+k * 11) rfl f.cs rfl (fP _ H.to) ?_))|((with_reducible refine OS 10 ?_);(refine DX Bz (f.cs) (EA f) ?_;replace H:=Aa (H.alloc (f.cs) 97);(try simp only [LS] at H))));(try simp only [Act.put,LP]);(try simp only [LS] at H);clear fP;generalize wr.heap.size=fz at H ⊢;generalize World.alloc wr _=w3 at H ⊢;go_wp2_with (first|((with_reducible refine OP 46 ?_);(refine Bf Ev (H.blk 3 rfl) ?_))|((with_reducible refine OP 47 ?_);(refine Bf Bz (H.blk 6 rfl) ?_)));refine (HUN _ H.to (H.at_ 2 rfl).1).mono ?_;rintro e w4 hU;clear HUN;unfold A8 at hU;cases hp:EP x.ct.sc.Ac.Dx X.Ac f.ks.l with
     |none=>
      rw [hp] at hU;obtain ⟨rfl,hb4⟩:=hU;have HL2:Hid (cons L=Di x.ct.sc.Ac X.Ac (x.Ac.rows.take (k+1))):=by show _=_;rw [eD.Ab,HST.Ab,show f.Ac.1=f.ks.l from rfl,hp,EO]
      replace H:=Aa (H.Av hb4);clear hp hb4 eD HST fQ;go_upto_region 10 with ((with_reducible refine OS 11 ?_);(refine DX Bz ((Br.mk ⟨none,0,0,[]⟩ .zero).cs) (EA _) ?_;replace H:=Aa (H.alloc ((Br.mk ⟨none,0,0,[]⟩ .zero).cs) 97);(try simp only [LS] at H)));(try simp only [Act.put,LP]);(try simp only [LS] at H);generalize World.alloc w4 _=w9 at H ⊢;generalize w4.heap.size=gz at H ⊢;replace H:=Aa (H.Fg [0,1,2,3,4,5] Za1 uH);(try simp only [LS] at H);exact Zs7
     |some ks=>
      rw [hp] at hU;obtain ⟨KA,kc,rfl,hb4,ho4⟩:=hU;have HL2:Hid (cons (L++[(Br.mk ⟨KA,ks.length,kc,ks⟩ f.ag)])=Di x.ct.sc.Ac X.Ac (x.Ac.rows.take (k+1))):=by show _=_;rw [HST.Ab,show f.Ac.1=f.ks.l from rfl,hp,←eD.Ab];unfold cons;rw [Cf];rfl
      have hps:=fQ ks hp;have HKS:=Aa hps.1;have hks:ks.length≤1000000:=by have:=hps.2;have:=HD16.Ab;omega
      replace H:=Aa (H.Co hb4 ho4);(try simp only [LS] at H);clear hp hb4 ho4 eD HST fQ hps;go_upto_region 11 with ((with_reducible refine OS 11 ?_);(refine DX Bz ((Br.mk ⟨KA,ks.length,kc,ks⟩ f.ag).cs) (EA _) ?_;replace H:=Aa (H.alloc ((Br.mk ⟨KA,ks.length,kc,ks⟩ f.ag).cs) 97);(try simp only [LS] at H)));(try simp only [Act.put,LP]);(try simp only [LS] at H);generalize w4.heap.size=gz at H ⊢;generalize World.alloc w4 _=w9 at H ⊢;go_upto_region 12 with (first|((with_reducible refine OP 53 ?_);(refine Bf Bz (H.blk 8 rfl) ?_))|((with_reducible refine OP 54 ?_);(refine AP rfl EI (.tmp 53) rfl ((Br.mk ⟨KA,ks.length,kc,ks⟩ f.ag).cs) rfl rfl Xl ?_;replace H:=Aa (H.Co ((Ai.refl _).alloc _) (CE _ 97 ((Br.mk ⟨KA,ks.length,kc,ks⟩ f.ag).cs) _ rfl));(try simp only [LS] at H)))|((with_reducible refine OP 55 ?_);(refine Az rfl (.tmp 52) (.tmp 54) _ rfl EI 0 (Bj _) _ m _ rfl (H.row 4 rfl) _ 1 1 _ rfl (Rd.BC (H.row 9 rfl)) (JG (Br.mk ⟨KA,ks.length,kc,ks⟩ f.ag)) Za4 Xl ?_;intro vq wq AJ Aq AQ;replace H:=Aa (H.setRow 4 rfl Aq AJ AQ);(try simp only [LS] at H);clear AJ Aq AQ;obtain ⟨A2,c2,rfl,_⟩:=Ao (H.row 4 rfl))));(try simp only [Act.put,LP]);replace H:=Aa (H.turn 7 rfl (iC (Br.mk ⟨KA,ks.length,kc,ks⟩ f.ag)) (iV (f:=(Br.mk ⟨KA,ks.length,kc,ks⟩ f.ag)) (H.get 7 rfl) HKS hks HFAG.Ab) (fun _ h=>h));(try simp only [LS] at H);replace H:=Aa (H.oD 5 7 (a:=(Br.mk ⟨KA,ks.length,kc,ks⟩ f.ag)) Xl rfl rfl);(try simp only [LS] at H);replace H:=Aa (H.Fg [0,1,2,3,4,5] Za1 uH);(try simp only [LS] at H);exact Zm9
    ·have hkn:k=n:=by omega
     subst hkn;have HLG:Hid (cons L=Di x.ct.sc.Ac X.Ac x.Ac.rows):=by show _=_;rw [eD.Ab,EU (by show (cons x.rows.l).length≤_;rw [AR,hrl.Ab];exact Ci _)]
     have hok:=p9 (H.get 4 rfl) (H.get 5 rfl) Xl;have HAN:=Aa (uA ⟨A,m,c',L⟩ wr hok (by show m≤5000;omega));have HFD:Hid (Nc (BK (cons L))=some (Kr (Di x.ct.sc.Ac X.Ac x.Ac.rows))):=by show _=_;rw [HLG.Ab];exact Oa HFIT.Ab
     clear hok eD;go_wp2_with fail;refine HAN.mono ?_;rintro e w5 ⟨v,kk,rfl,hF,hb5⟩;replace H:=Aa (H.Av hb5);rcases hF with ⟨h,_⟩|⟨Y,hy,rfl,rfl,TQ,hyn⟩
     ·rw [HFD.Ab] at h;cases h
     have YK:cons Y.l=Kr (Di x.ct.sc.Ac X.Ac x.Ac.rows):=by rw [HFD.Ab] at hy;injection hy with hy;exact hy.symm
     have vD:=Aa YK;have hyl:Y.n=(Kr (Di x.ct.sc.Ac X.Ac x.Ac.rows)).length:=by rw [←YK,AR];exact TQ.len.symm
     clear hy YK hb5 HAN;by_cases lX:500<Y.n
     ·have HRE:Hid (LH x.Ac c.data=⟨6,[],[]⟩):=by show _=_;rw [HMM.Ab];unfold dK;rw [Al Zf4]
      have d1:decide ((500:Int)<(Y.n:Int))=true:=by simp<;>omega
      have d1n:decide (500<Y.n)=true:=by simp<;>omega
      clear hyl lX HMM;go_wp2_with fail;refine (DT 6 _).mono ?_;rintro e wf ⟨rfl,hbf⟩;replace H:=Aa (H.Av hbf);clear hbf;go_wp2_with ((with_reducible refine OS 4 ?_);(refine Cj AL H 1 rfl ((Et.err (6)).cs) (BJ _) ?_;clear H;intro wq H;(try simp only [LS] at H)));exact Ze7
     ·have HRE:Hid (LH x.Ac c.data=⟨0,NV x.ct.sc.Ac X.Ac (cons Y.l),[]⟩):=by show _=_;rw [HMM.Ab];unfold dK;rw [Ak Zf4,vD.Ab]
      have d1:decide ((500:Int)<(Y.n:Int))=false:=by simp<;>omega
      have d1n:decide (500<Y.n)=false:=by simp<;>omega
      have hy5:Y.n≤500:=by omega
      have HYO:=Aa TQ;have HO:=H;have uR:Hid (∀ w',Ai w5 w'→Ai w w'):=fun w' h=>HO.to.trans h
      have HBK5:Hid (∀ w',Ai w5 w'→Bh w' B 86 x.ms):=fun w' h=>Ws _ (uR _ h)
      have HQK5:Hid (∀ w',Ai w5 w'→Bh w' z 29 X.cs):=fun w' h=>(HO.blk 3 rfl).Av h
      have HXQ5:Hid (∀ w',Ai w5 w'→X.ps.rd w'):=fun w' h=>(HO.at_ 2 rfl).1.mono h
      replace H:=Aa (((SL.start No w5).alloc #[.int .i64 0,.slice none 0 0,.slice none 0 0] 49).Dw 136 11|>.add (Ai.refl _) (Gw Yp []) (Jb _ _) ME);(try simp only [LS] at H);clear hyl lX HMM TQ;go_upto_region 20 with fail;clear d1 d1n;generalize w5.heap.size=oz at H ⊢;generalize World.alloc w5 _=wo at H ⊢;go_loopg [72] Y.n (fun gg s72 wr=>∃ (k:Nat) (A:Option Addr) (c':Nat) (L:List KY),gg=Y.n - k∧k≤Y.n∧s72=.int .i64 k∧Hid (L.map KY.Ac=NV x.ct.sc.Ac X.Ac ((cons Y.l).take k))∧Hid (L.length=k)∧Hid (SL No w5 wr [Aw oz 49 #[.int .i64 0,.slice A k c',.slice none 0 0],Ce 136 11 (.slice A k c') k (L.flatMap AY.cells),Gw Yp L]));case atStart=>exact ⟨0,none,0,[],rfl,Xl,rfl,rfl,rfl,H⟩
      case round=>
       clear H;obtain ⟨k,A,c',L,BR,hk,rfl,eD,HLL,H⟩:=hrel;have Cs:=Aa BR;clear BR;by_cases hlt:k<Y.n
       ·obtain ⟨b,o,f,hA,hb,lU,hfo,_,hrg,_⟩:=HYO.Z7 (k:=k) hlt;have hyk:(cons Y.l)[k]?=some f.Ac:=Jd lU;have hnm:=HNMD f.Ac (by rw [←vD.Ab];exact CU hyk);obtain ⟨ts,hts⟩:∃ ts,ts=Pf x.ct.sc.Ac X.Ac f.Ac.1:=⟨_,rfl⟩;rw [←hts] at hnm;have hnl:=XO F6 hnm;have HTS:Hid ((∀ t ∈ ts,t.length≤16)∧ts.length≤1000000):=⟨hnl.1,by have:=hnl.2;omega⟩;have HTE:=Aa hts;have HNM:=Aa (fun w' (h:Ai w5 w')=>T9 x.ct.sc X f.ks w' (HX w' (uR _ h)).ct.sc (HXQ5 w' h) (hfo.ks.mono h).zS hfo.ks.le nO.1 nO.2.1 nO.2.2 HQS.Ab);rw [show Ez x.ct.sc.Ac X.Ac f.ks.l=.ok ts from hnm] at HNM;have HFG:=Aa hfo.ag;have HYk:=Aa hyk;have fP:Hid (∀ w',Ai w5 w'→w'.rangeAt b (o+k * 11) f.cs.toList):=fun w' h=>CP hb hrg h
        have HYA:=Aa hA;have i0:(0:Int)≤k:=by omega
        have i1:(k:Int)<Y.n:=by omega
        have hts16:=hnl.2;clear hb lU hfo hrg hyk hnm hnl hts;(try simp only [Row.v]);rw [hA];clear hA;go_upto_region 22 with (first|((with_reducible refine OP 75 ?_);(refine Af rfl Bz (.tmp 74) rfl b (o+k * 11) rfl f.cs rfl (fP _ H.to) ?_))|((with_reducible refine OS 15 ?_);(refine DX Bz (f.cs) (EA f) ?_;replace H:=Aa (H.alloc (f.cs) 97);(try simp only [LS] at H))));(try simp only [Act.put,LP]);(try simp only [LS] at H);clear fP;generalize wr.heap.size=fz at H ⊢;generalize World.alloc wr _=w3 at H ⊢;refine Ep (S:=fun W=>Bh W B 86 x.ms∧Bh W z 29 X.cs∧W.cell? ⟨fz,0,none⟩=some (.slice f.ks.A f.ks.n f.ks.c)) Za0 ⟨by first|exact HBK5 _ H.to|exact HBK5 _ H.to.drew,by first|exact HQK5 _ H.to|exact HQK5 _ H.to.drew,(H.blk 3 rfl).cell 0⟩ fun hHeld=>?_;replace H:=Aa (H.drew);generalize World.drew _=w8 at *;refine Bd Ml ?_;refine Bd KF ?_;refine Bd MN ?_;refine Bd Ky ?_;refine Lx (i:=4) (v:=.agg x.ct.sc.cs) LJ Za0 Za0 Za0 Za7 (DU Bb (by rfl) (.tmp 80) rfl B 0 rfl (fun w h=>Bh.part h.1 0 x.ct.sc.cs.toList rfl) rfl) Zb0 ?_;try simp only [Act.put,LP]
        refine Lx (i:=5) (v:=.agg X.cs) KW Za0 Za0 Za0 Za7 (DU Ev (by rfl) (.tmp 5) rfl z 0 rfl (fun w h=>Bh.part h.2.1 0 X.cs.toList rfl) rfl) Zb0 ?_;try simp only [Act.put,LP]
        refine Bd MI ?_;refine Bd Lj ?_;refine BG Mk fun KK Ad=>?_;go_simp;refine (HNM _ H.to).mono ?_;rintro e' w6 ⟨NA,nc,rfl,hb6,ho6⟩;replace H:=Aa (H.Co hb6 ho6);(try simp only [LS] at H);clear hb6 ho6;refine Aj Ad ⟨by first|exact HBK5 _ H.to|exact HBK5 _ H.to.drew,by first|exact HQK5 _ H.to|exact HQK5 _ H.to.drew,(H.blk 3 rfl).cell 0⟩ fun hHeld=>?_;clear Ad KK;refine Bd MH ?_;refine Bd FO ?_;refine Bd Ga ?_;refine Bd Hw ?_;refine Bd Jc ?_;refine BZ ?_;clear hHeld;clear HNM;have cz:=(H.blk 0 rfl).cell 1;replace cz:=cz.trans (show _=some (Value.slice A k c') from rfl);have HAG:Hid (∀ w,w=w6→w.rangeAt fz 1 f.ag.cs.toList):=fun w e=>e ▸ (H.blk 3 rfl).part 1 f.ag.cs.toList rfl
        go_upto_region 24 with (first|((with_reducible refine OP 92 ?_);(refine Af rfl kS (.tmp 91) rfl fz (1) rfl f.ag.cs rfl (HAG _ rfl) ?_))|((with_reducible refine OP 93 ?_);refine Ke rfl (.tmp 90) (.tmp 92) rfl (vx:=.slice NA ts.length nc) (vy:=.agg f.ag.cs) (v:=.agg (KY.mk ⟨NA,ts.length,nc,ts⟩ f.ag).cs) rfl rfl (Aa6 NA ts.length nc ts f.ag) ?_)|((with_reducible refine OP 94 ?_);(refine AP rfl G6 (.tmp 93) rfl ((KY.mk ⟨NA,ts.length,nc,ts⟩ f.ag).cs) rfl rfl Xl ?_;replace H:=Aa (H.Co ((Ai.refl _).alloc _) (CE _ 136 ((KY.mk ⟨NA,ts.length,nc,ts⟩ f.ag).cs) _ rfl));(try simp only [LS] at H);have HAG:=0))|((with_reducible refine OP 95 ?_);(refine Az rfl (.tmp 89) (.tmp 94) _ rfl G6 0 (Bj _) _ k _ rfl (H.row 1 rfl) _ 1 1 _ rfl (Rd.BC (H.row 5 rfl)) (rZ (KY.mk ⟨NA,ts.length,nc,ts⟩ f.ag)) Za4 Xl ?_;intro vq wq AJ Aq AQ;replace H:=Aa (H.setRow 1 rfl Aq AJ AQ);(try simp only [LS] at H);clear AJ Aq AQ;obtain ⟨A2,c2,rfl,_⟩:=Ao (H.row 1 rfl);clear cz;have cz:=(H.blk 0 rfl).cell 1;replace cz:=cz.trans (show _=some (Value.slice A k c') from rfl);have fz0:=(H.blk 0 rfl).frozen 1)));(try simp only [Act.put,LP]);replace H:=Aa (H.setCell 0 rfl 1 (.slice A2 (k+1) c2));(try simp only [LS] at H);clear cz fz0;replace H:=Aa (H.turn 4 rfl (Yp (KY.mk ⟨NA,ts.length,nc,ts⟩ f.ag)) (iU (g:=(KY.mk ⟨NA,ts.length,nc,ts⟩ f.ag)) (H.get 4 rfl) HTS.1 HTS.2 HFG.Ab) (fun _ h=>h));(try simp only [LS] at H);replace H:=Aa (H.oD 2 4 (a:=(KY.mk ⟨NA,ts.length,nc,ts⟩ f.ag)) Xl rfl rfl);(try simp only [LS] at H);replace H:=Aa (H.Fg [0,1,2] Za1 uH);(try simp only [LS] at H);have E2:L.flatMap AY.cells++(KY.mk ⟨NA,ts.length,nc,ts⟩ f.ag).cs.toList=(L++[(KY.mk ⟨NA,ts.length,nc,ts⟩ f.ag)]).flatMap AY.cells:=by rw [EM,Df,Gt,EO];rfl
        rw [E2] at H;clear E2;go_wp2_with fail;rw [←HYA.Ab];go_roundg (Y.n - (k+1));case rel=>exact ⟨k+1,A2,c2,L++[(KY.mk ⟨NA,ts.length,nc,ts⟩ f.ag)],rfl,Xl,by go_num,by show _=_;rw [Cf,eD.Ab,aQ HYk.Ab,←HTE.Ab];rfl,by show _=_;rw [Cn,HLL.Ab];rfl,H⟩
        case measure=>rw [Cs.Ab];omega
       ·have hkn:k=Y.n:=by omega
        subst hkn;have HLG:Hid (L.map KY.Ac=NV x.ct.sc.Ac X.Ac (cons Y.l)):=by show _=_;rw [eD.Ab,EU (by rw [AR,HYO.len];exact Ci _)]
        replace H:=Aa (HO.join H.Ab);(try simp only [LS] at H);clear eD HO;go_wp2_with (first|((with_reducible refine OP 98 ?_);(refine Bf AL (H.blk 6 rfl) ?_))|((with_reducible refine OS 4 ?_);(refine Cj AL H 1 rfl ((Et.mk 0 ⟨A,Y.n,c',L⟩ ⟨none,0,0,[]⟩).cs) (BJ _) ?_;clear H;intro wq H;(try simp only [LS] at H))));(try simp only [Act.put,LP]);refine Bc (AO rfl AL rfl (H.blk 1 rfl) rfl) rfl ?_;rw [HRE.Ab];exact ⟨Et.mk 0 ⟨A,Y.n,c',L⟩ ⟨none,0,0,[]⟩,rfl,H.to,CW (fun g=>nS.mk 0 g []) HLG.Ab,fun wz kz=>⟨iZ (H.get 7 rfl) (H.get 8 rfl) (H.new 7 rfl) (H.new 8 rfl) Yw kz Xl,Row.MS wz⟩⟩
  ·have HRE:Hid (LH x.Ac c.data=⟨K,[],[]⟩):=by
    show _=_;unfold LH;exact Ze8
   have dk:(K !=0)=true:=by simpa using hK
   clear hK UZ hX;go_wp2_with fail;refine (DT K _).mono ?_;rintro e wf ⟨rfl,hbf⟩;replace H:=Aa (H.Av hbf);clear hbf;go_wp2_with ((with_reducible refine OS 4 ?_);(refine Cj AL H 1 rfl ((Et.err (K)).cs) (BJ _) ?_;clear H;intro wq H;(try simp only [LS] at H)));exact Ze7
section
variable {T : Nat → Prop} {w w0 w1 w2 : World} {P : World → Prop}
def TN (T:Nat→Prop) (w w0:World) (g:Nat):Prop:=T g∨(w.heap.size≤g∧g<w0.heap.size)
theorem ET.wide (h:ET T w P) (k:Fr T w w0):ET (TN T w w0) w0 P:=fun w2 k2=>h w2 (k.trans k2 fun g hg=>hg.elim .inl fun h=>.inr h.1)
theorem ET.narrow (h:ET (TN T w w0) w1 P) (k:Fr (TN T w w0) w1 w2):ET T w2 P:=fun w3 k3=>h w3 (k.trans (k3.mono fun g hg=>.inl hg) fun g hg=>.inl hg)
end
section
variable {P : Program} {w : World}
theorem Ni {ops:Array Oper} {o:Oper} {a:Act} {K:Act→World→Prop} {Q:Exit→Act→World→Prop} {X:Prop} (hgd:o.guard=none) {t:TypeId} (x:Operand) {i:Nat} (ho:o.op=.build t #[(i,x)])
 {vx v:Value} (hx:a.eval x=vx) (hr:∀ w,(Instr.build t #[(i,vx)]).run P w=.ok v w)
 (h:K (a.put o.dst v) w):if Region.wanted o (yielded ops a.tmps)=true then Oper.wp P o a w K Q else X:=by
 have hw:Region.wanted o (yielded ops a.tmps)=true:=by simp [Region.wanted,hgd]
 rw [Al hw];unfold Oper.wp execOp;simp only [ho,QD,En,EX,hx,KH,hr,LC,LB];exact h
end
theorem Am8 (a b:Int) (w:World):(Instr.buildSlice 47 2 #[(0,.int .i64 a),(1,.int .i64 b)]).run prog w=.ok (.slice (some ⟨w.heap.size,0,none⟩) 2 2) (w.alloc (.cells #[.int .i64 a,.int .i64 b] 3)):=by kernel_rfl
theorem PZ {w:World} {ops:Array Oper} {o:Oper} {a:Act} {K:Act→World→Prop} {Q:Exit→Act→World→Prop} {X:Prop} (hgd:o.guard=none) (x y:Operand) (ho:o.op=.buildSlice 47 2 #[(0,x),(1,y)])
 (u v:Int) (hx:a.eval x=.int .i64 u) (hy:a.eval y=.int .i64 v)
 (h:K (a.put o.dst (.slice (some ⟨w.heap.size,0,none⟩) 2 2)) (w.alloc (.cells #[.int .i64 u,.int .i64 v] 3))):if Region.wanted o (yielded ops a.tmps)=true then Oper.wp prog o a w K Q else X:=by
 have hw:Region.wanted o (yielded ops a.tmps)=true:=by simp [Region.wanted,hgd]
 rw [Al hw];unfold Oper.wp execOp;simp only [ho,QD,En,EX,hx,hy,KH,Am8,LC,LB];exact h
theorem VM {w:World} {g:Nat} {t:TypeId} {a b:Int} (h:Bh w g t #[.int .i64 a,.int .i64 b]) (ha:AZ a) (hb:AZ b):(Row.mk (some ⟨g,0,none⟩) 2 2 [a,b]:Row Int).rd w:=
 ⟨AV h rfl,fun z hz=>by rcases FJ.1 hz with rfl|hz<;>first|exact ha|(rw [Ef] at hz;subst hz;exact hb),by show (2:Nat)≤_;omega⟩
def Au8 (T:Nat→Prop) (B:Nat) (o:MC × nS) (w:World) (e:Ending) (w':World):Prop:=
 ∃ (y:JZ) (a:Et),e=.returned (.agg a.cs)∧Fr (One B) w w'∧Bh w' B 86 y.ms∧y.Ac=o.1∧ET T w' (fun w=>y.rd w)∧a.Ac=o.2∧ET T w' fun w=>a.rd w
theorem Zd3 {p:Prop} (h:p:=by rw [hh] at c10;go_wp2_with fail;clear c10 c11 c12 k0 k1;refine (DT 10 _).mono ?_;rintro e wf ⟨rfl,hbf⟩;replace H:=Aa (H.Av hbf);clear hbf;go_wp2_with ((with_reducible refine OS 4 ?_);refine Ae rfl AL (.tmp 4) (.tmp 73) rfl _ rfl (H.blk 2 rfl) rfl ((Et.err (10)).cs) rfl rfl (BJ _) ?_;intro wq bq Aq;replace H:=Aa (H.AA 2 rfl Aq bq);(try simp only [LS] at H);have HG:=Aa Aq;clear Aq bq);(try simp only [Act.put,LP]);refine Bc (AO rfl AL rfl (H.blk 2 rfl) rfl) rfl ?_;rw [HO.Ab];exact ⟨x,Et.err 10,rfl,H.fr,H.blk 0 rfl,rfl,Ns _ H.fr,rfl,fun wz _=>BL _ wz⟩):p:=h
theorem Zs1 {p:Prop} (h:p:=by (try simp only [Act.put,LP]);refine Bc (AO rfl AL rfl (H.blk 2 rfl) rfl) rfl ?_;rw [HO.Ab];exact ⟨x,Et.err 2,rfl,H.fr,H.blk 0 rfl,rfl,Ns _ H.fr,rfl,fun wz _=>BL _ wz⟩):p:=h
theorem Zg4 {p:Prop} (h:p:=by go_wp2_with fail;clear c10 c11 c12 k0 k1;refine (DT 2 _).mono ?_;rintro e wf ⟨rfl,hbf⟩;replace H:=Aa (H.Av hbf);clear hbf;go_wp2_with ((with_reducible refine OS 4 ?_);refine Ae rfl AL (.tmp 4) (.tmp 58) rfl _ rfl (H.blk 2 rfl) rfl ((Et.err (2)).cs) rfl rfl (BJ _) ?_;intro wq bq Aq;replace H:=Aa (H.AA 2 rfl Aq bq);(try simp only [LS] at H);have HG:=Aa Aq;clear Aq bq);exact Zs1):p:=h
theorem Zl6 {p:Prop} (h:p:=by replace H:=Aa (H.AA 0 rfl hfr.grown hbl);(try simp only [LS] at H);have vD:=Aa YK;have HYS:=Aa hys;clear hfr hbl YK hys;go_wp2_with ((with_reducible refine OS 4 ?_);refine Ae rfl AL (.tmp 4) (.tmp 81) rfl _ rfl (H.blk 2 rfl) rfl ((Et.err (DF x.Ac data).2).cs) rfl rfl (BJ _) ?_;intro wq bq Aq;replace H:=Aa (H.AA 2 rfl Aq bq);(try simp only [LS] at H);have HG:=Aa Aq;clear Aq bq);(try simp only [Act.put,LP]);refine Bc (AO rfl AL rfl (H.blk 2 rfl) rfl) rfl ?_;rw [HO.Ab];exact ⟨y',Et.err (DF x.Ac data).2,rfl,H.fr,H.blk 0 rfl,vD.Ab,HYS.narrow ((Fr.Gl HG.Ab).mono fun g (hg:some _=some g)=>by injection hg with hg;subst hg;exact .inr (vC.Ab)),rfl,fun wz _=>BL _ wz⟩):p:=h
theorem Zm3 {p:Prop} (h:p:=by refine (DT 2 _).mono ?_;rintro e wf ⟨rfl,hbf⟩;replace H:=Aa (H.Av hbf);clear hbf;go_wp2_with ((with_reducible refine OS 4 ?_);refine Ae rfl AL (.tmp 4) (.tmp 31) rfl _ rfl (H.blk 2 rfl) rfl ((Et.err (2)).cs) rfl rfl (BJ _) ?_;intro wq bq Aq;replace H:=Aa (H.AA 2 rfl Aq bq);(try simp only [LS] at H);have HG:=Aa Aq;clear Aq bq);exact Zs1):p:=h
theorem YJ (T:Nat→Prop) (B:Nat) (x:JZ) (c:Wt) (w:World) (hb:Bh w B 86 x.ms) (hT:∀ g,T g→g<w.heap.size) (hTB:T B) (hx:ET T w fun w=>x.rd w) (hc:c.ok) (hi:MInv x.Ac):Calls prog 14 #[.pointer (some ⟨B,0,none⟩),.agg c.cs] w (Au8 T B (Dr x.Ac c) w):=by
 have HX:=Aa hx;have Ns:=Aa (fun w' (k:Fr (One B) w w')=>hx.fr (k.mono fun g (hg:g=B)=>hg ▸ hTB));have HXR:=Aa (fun w' (k:Fr (One B) w w')=>(hx w' (k.mono fun g (hg:g=B)=>hg ▸ hTB)).rows);have hx0:=hx.now;have HXI:=Aa hx0.ct.ints.1;have Yw:=Aa hT;have HI:=Aa hi;have HC:=Aa hc;have hrn:x.rows.n≤4000:=by have h1:=hi.len;have h2:=hx0.rows.len;have h3:x.Ac.rows.length=x.rows.l.length:=AR _;omega
 have uQ:=Aa (fun w' (hb:Bh w' B 86 x.ms) (hr:x.rows.ok w')=>aR B x w' hb hr Xl HI.fit);have H:=Aa (((SL.blk1 w hb).alloc c.cs 41).alloc #[.int .i64 0,.slice none 0 0,.slice none 0 0] 49);(try simp only [LS] at H);have vC:Hid (w.heap.size≤w.heap.size+1∧w.heap.size+1<(World.alloc (World.alloc w (.cells c.cs 41)) (.cells #[.int .i64 0,.slice none 0 0,.slice none 0 0] 49)).heap.size):=⟨Xl,uH⟩;clear hb hT hx hc hi hx0;obtain ⟨kind,data⟩:=c;go_enter func14,ntmps14;go_upto_region 1 with fail;generalize hyy:w.heap.size+1=y at H vC ⊢;clear hyy;generalize w.heap.size=q at H ⊢;generalize World.alloc (World.alloc _ _) _=w0 at H vC ⊢;have HTN:Hid (∀ g,TN T w w0 g→g<w0.heap.size):=fun g hg=>hg.elim (fun h=>KI (Yw g h) H.size) (fun h=>h.2)
 have E9:Hid (ET (TN T w w0) w0 fun w=>x.rd w):=HX.wide (H.fr.mono fun g (hg:g=B)=>hg ▸ hTB);have c10:w0.cell? ⟨B,10,none⟩=some (.bool x.has):=(H.blk 0 rfl).cell 10;have c11:w0.cell? ⟨B,11,none⟩=some (.bool x.closed):=(H.blk 0 rfl).cell 11;have c12:w0.cell? ⟨B,12,none⟩=some (.bool true):=(H.blk 0 rfl).cell 12;have k0:w0.cell? ⟨q,0,none⟩=some (.int .i64 kind):=(H.blk 1 rfl).cell 0;have k1:w0.cell? ⟨q,1,none⟩=some (.string ⟨data.toArray⟩):=(H.blk 1 rfl).cell 1;cases hcl:x.closed with
 |true=>
  have HO:Hid (Dr x.Ac ⟨kind,data⟩=(x.Ac,⟨17,[],[]⟩)):=by show _=_;unfold Dr;simp [show x.Ac.closed=true from hcl]
  rw [hcl] at c11;go_wp2_with fail;clear c10 c11 c12 k0 k1;refine (DT 17 _).mono ?_;rintro e wf ⟨rfl,hbf⟩;replace H:=Aa (H.Av hbf);clear hbf;go_wp2_with ((with_reducible refine OS 4 ?_);refine Ae rfl AL (.tmp 4) (.tmp 21) rfl _ rfl (H.blk 2 rfl) rfl ((Et.err (17)).cs) rfl rfl (BJ _) ?_;intro wq bq Aq;replace H:=Aa (H.AA 2 rfl Aq bq);(try simp only [LS] at H);have HG:=Aa Aq;clear Aq bq);(try simp only [Act.put,LP]);refine Bc (AO rfl AL rfl (H.blk 2 rfl) rfl) rfl ?_;rw [HO.Ab];exact ⟨x,Et.err 17,rfl,H.fr,H.blk 0 rfl,rfl,Ns _ H.fr,rfl,fun wz _=>BL _ wz⟩
 |false=>
 have PM:Hid (x.Ac.closed=false):=hcl;rw [hcl] at c11;by_cases hk:kind<1∨7<kind
 ·have HO:Hid (Dr x.Ac ⟨kind,data⟩=(x.Ac,⟨2,[],[]⟩)):=by show _=_;unfold Dr;simp [PM.Ab,hk]
  by_cases hk1:kind<1
  ·have d1:decide (kind<1)=true:=by simpa using hk1
   clear hk hk1;go_wp2_with fail;clear c10 c11 c12 k0 k1 d1;exact Zm3
  ·have d1:decide (kind<1)=false:=by simpa using hk1
   have d2:decide (7<kind)=true:=by
    have h:7<kind:=by omega
    simpa using h
   clear hk hk1;go_wp2_with fail;clear c10 c11 c12 k0 k1 d1 d2;exact Zm3
 ·have hk7:kind=1∨kind=2∨kind=3∨kind=4∨kind=5∨kind=6∨kind=7:=by omega
  clear hk;rcases hk7 with rfl|rfl|rfl|rfl|rfl|rfl|rfl
  ·have HO:Hid (Dr x.Ac ⟨1,data⟩=((IP x.Ac data).1,⟨(IP x.Ac data).2,[],[]⟩)):=by show _=_;unfold Dr;simp [PM.Ab]
   go_wp2_with ((with_reducible refine OP 37 ?_);(refine Bf Rx (H.blk 1 rfl) ?_));refine (qW (TN T w w0) B x ⟨1,data⟩ w0 (H.blk 0 rfl) HTN (.inl hTB) E9 HC.data).mono ?_;rintro e w1 ⟨y',rfl,hfr,hbl,YK,hys⟩;replace H:=Aa (H.AA 0 rfl hfr.grown hbl);(try simp only [LS] at H);have vD:=Aa YK;have HYS:=Aa hys;clear hfr hbl YK hys;go_wp2_with ((with_reducible refine OS 4 ?_);refine Ae rfl AL (.tmp 4) (.tmp 38) rfl _ rfl (H.blk 2 rfl) rfl ((Et.err (IP x.Ac data).2).cs) rfl rfl (BJ _) ?_;intro wq bq Aq;replace H:=Aa (H.AA 2 rfl Aq bq);(try simp only [LS] at H);have HG:=Aa Aq;clear Aq bq);(try simp only [Act.put,LP]);refine Bc (AO rfl AL rfl (H.blk 2 rfl) rfl) rfl ?_;rw [HO.Ab];exact ⟨y',Et.err (IP x.Ac data).2,rfl,H.fr,H.blk 0 rfl,vD.Ab,HYS.narrow ((Fr.Gl HG.Ab).mono fun g (hg:some _=some g)=>by injection hg with hg;subst hg;exact .inr (vC.Ab)),rfl,fun wz _=>BL _ wz⟩
  ·cases hh:x.has with
   |false=>
    have HO:Hid (Dr x.Ac ⟨2,data⟩=(x.Ac,⟨10,[],[]⟩)):=by show _=_;unfold Dr;simp [PM.Ab,show x.Ac.has=false from hh]
    exact Zd3
   |true=>
    have Tp:Hid (x.has=true):=hh;have nG:Hid (x.Ac.has=true):=hh;rw [hh] at c10;clear hh;have HO:Hid (Dr x.Ac ⟨2,data⟩=((DF x.Ac data).1,⟨(DF x.Ac data).2,[],[]⟩)):=by show _=_;unfold Dr;simp [PM.Ab,nG.Ab]
    go_wp2_with ((with_reducible refine OP 80 ?_);(refine Bf Rx (H.blk 1 rfl) ?_));refine (iP (TN T w w0) B x ⟨2,data⟩ w0 (H.blk 0 rfl) HTN (.inl hTB) E9 HC.data HI Tp.Ab).mono ?_;rintro e w1 ⟨y',rfl,hfr,hbl,YK,hys⟩;exact Zl6
  ·cases hh:x.has with
   |false=>
    have HO:Hid (Dr x.Ac ⟨3,data⟩=(x.Ac,⟨10,[],[]⟩)):=by show _=_;unfold Dr;simp [PM.Ab,show x.Ac.has=false from hh]
    exact Zd3
   |true=>
    have Tp:Hid (x.has=true):=hh;have nG:Hid (x.Ac.has=true):=hh;rw [hh] at c10;clear hh;have HO:Hid (Dr x.Ac ⟨3,data⟩=((DF x.Ac data).1,⟨(DF x.Ac data).2,[],[]⟩)):=by show _=_;unfold Dr;simp [PM.Ab,nG.Ab]
    go_wp2_with ((with_reducible refine OP 80 ?_);(refine Bf Rx (H.blk 1 rfl) ?_));refine (iP (TN T w w0) B x ⟨3,data⟩ w0 (H.blk 0 rfl) HTN (.inl hTB) E9 HC.data HI Tp.Ab).mono ?_;rintro e w1 ⟨y',rfl,hfr,hbl,YK,hys⟩;exact Zl6
  ·cases data with
   |cons a l=>
    have HO:Hid (Dr x.Ac ⟨4,a::l⟩=(x.Ac,⟨2,[],[]⟩)):=by show _=_;unfold Dr;simp [PM.Ab]
    exact Zg4
   |nil=>
    cases hh:x.has with
    |false=>
     have HO:Hid (Dr x.Ac ⟨4,[]⟩=(x.Ac,⟨10,[],[]⟩)):=by show _=_;unfold Dr;simp [PM.Ab,show x.Ac.has=false from hh]
     exact Zd3
    |true=>
     have Tp:Hid (x.has=true):=hh;have nG:Hid (x.Ac.has=true):=hh;rw [hh] at c10;clear hh;have HO:Hid (Dr x.Ac ⟨4,[]⟩=(x.Ac,⟨0,[],[]⟩)):=by show _=_;unfold Dr;simp [PM.Ab,nG.Ab]
     go_wp2_with fail;clear c10 c11 c12 k0 k1;refine (DT 0 _).mono ?_;rintro e wf ⟨rfl,hbf⟩;replace H:=Aa (H.Av hbf);clear hbf;go_wp2_with ((with_reducible refine OS 4 ?_);refine Ae rfl AL (.tmp 4) (.tmp 99) rfl _ rfl (H.blk 2 rfl) rfl ((Et.err (0)).cs) rfl rfl (BJ _) ?_;intro wq bq Aq;replace H:=Aa (H.AA 2 rfl Aq bq);(try simp only [LS] at H);have HG:=Aa Aq;clear Aq bq);(try simp only [Act.put,LP]);refine Bc (AO rfl AL rfl (H.blk 2 rfl) rfl) rfl ?_;rw [HO.Ab];exact ⟨x,Et.err 0,rfl,H.fr,H.blk 0 rfl,rfl,Ns _ H.fr,rfl,fun wz _=>BL _ wz⟩
  ·cases hh:x.has with
   |false=>
    have HO:Hid (Dr x.Ac ⟨5,data⟩=(x.Ac,⟨10,[],[]⟩)):=by show _=_;unfold Dr;simp [PM.Ab,show x.Ac.has=false from hh]
    exact Zd3
   |true=>
    have Tp:Hid (x.has=true):=hh;have nG:Hid (x.Ac.has=true):=hh;rw [hh] at c10;clear hh;have HO:Hid (Dr x.Ac ⟨5,data⟩=(x.Ac,LH x.Ac data)):=by show _=_;unfold Dr;simp [PM.Ab,nG.Ab]
    go_wp2_with ((with_reducible refine OP 85 ?_);(refine Bf Rx (H.blk 1 rfl) ?_));refine (Ah1 (TN T w w0) B x ⟨5,data⟩ w0 (H.blk 0 rfl) HTN E9 HC.data HI Tp.Ab).mono ?_;rintro e w1 ⟨a,rfl,hb1,hac,has⟩;replace H:=Aa (H.Av hb1);have HAC:=Aa hac;have HAS:=Aa has;clear hb1 hac has;go_wp2_with ((with_reducible refine OS 4 ?_);refine Ae rfl AL (.tmp 4) (.tmp 86) rfl _ rfl (H.blk 2 rfl) rfl (a.cs) rfl rfl (BJ a) ?_;intro wq bq Aq;replace H:=Aa (H.AA 2 rfl Aq bq);(try simp only [LS] at H);have HG:=Aa Aq;clear Aq bq);(try simp only [Act.put,LP]);refine Bc (AO rfl AL rfl (H.blk 2 rfl) rfl) rfl ?_;rw [HO.Ab];exact ⟨x,a,rfl,H.fr,H.blk 0 rfl,rfl,Ns _ H.fr,HAC.Ab,HAS.narrow ((Fr.Gl HG.Ab).mono fun g (hg:some _=some g)=>by injection hg with hg;subst hg;exact .inr (vC.Ab))⟩
  ·cases data with
   |cons a l=>
    have HO:Hid (Dr x.Ac ⟨6,a::l⟩=(x.Ac,⟨2,[],[]⟩)):=by show _=_;unfold Dr;simp [PM.Ab]
    exact Zg4
   |nil=>
    cases hh:x.has with
    |false=>
     have HO:Hid (Dr x.Ac ⟨6,[]⟩=(x.Ac,⟨10,[],[]⟩)):=by show _=_;unfold Dr;simp [PM.Ab,show x.Ac.has=false from hh]
     exact Zd3
    |true=>
     have Tp:Hid (x.has=true):=hh;have nG:Hid (x.Ac.has=true):=hh;rw [hh] at c10;clear hh;have HO:Hid (Dr x.Ac ⟨6,[]⟩=(x.Ac,⟨0,[],[x.Ac.cat.fa,((Kr x.Ac.rows).length:Int)]⟩)):=by show _=_;unfold Dr;simp [PM.Ab,nG.Ab]
     go_upto_region 23 with fail;clear c10 c11 c12 k0 k1;refine Ep (S:=fun W=>W.cell? ⟨B,2,none⟩=some (.int .i64 x.ct.fa)) Za0 ((H.blk 0 rfl).cell 2) fun hHeld=>?_;replace H:=Aa (H.drew);generalize World.drew _=w8 at *;refine Bd Ml ?_;refine Bd KF ?_;refine Bd MN ?_;refine Bd Ky ?_;refine Bd LJ ?_;refine Bd KW ?_;refine BG MI fun KK Ad=>?_;go_simp;refine (uQ _ (H.blk 0 rfl) (HXR _ H.fr)).mono ?_;rintro e' w6 ⟨F,rfl,hF,hFo,hFn,hb6⟩;replace H:=Aa (H.Av hb6);have zM:=Aa hF;have HFL:=Aa hFo.len;clear hF hFo hb6;simp only [Row.v];refine Aj Ad ((H.blk 0 rfl).cell 2) fun hHeld=>?_;clear Ad KK;refine Bd Lj ?_;refine BG Mk fun KK Ad=>?_;refine PZ rfl (.tmp 93) (.tmp 96) rfl x.ct.fa F.n rfl (by go_simp) ?_;replace H:=Aa (H.alloc #[.int .i64 x.ct.fa,.int .i64 F.n] 3);(try simp only [LS] at H);generalize w6.heap.size=g6 at H ⊢;generalize World.alloc w6 _=w7 at H ⊢;refine Aj Ad ((H.blk 0 rfl).cell 2) fun hHeld=>?_;clear Ad KK;refine BG MH fun KK Ad=>?_;refine Ni rfl (.tmp 97) rfl (vx:=.slice (some ⟨g6,0,none⟩) 2 2) (v:=.agg (Et.mk 0 ⟨none,0,0,[]⟩ ⟨some ⟨g6,0,none⟩,2,2,[x.ct.fa,F.n]⟩).cs) rfl (fun w=>by kernel_rfl) ?_;refine Aj Ad ((H.blk 0 rfl).cell 2) fun hHeld=>?_;clear Ad KK;refine BG FO fun KK Ad=>?_;refine CK rfl AL (.tmp 4) (.tmp 98) rfl _ rfl (H.blk 2 rfl) rfl ((Et.mk 0 ⟨none,0,0,[]⟩ ⟨some ⟨g6,0,none⟩,2,2,[x.ct.fa,F.n]⟩).cs) rfl rfl (BJ _) ?_;intro wq bq Aq;replace H:=Aa (H.AA 2 rfl Aq bq);(try simp only [LS] at H);clear Aq bq;refine Aj Ad ((H.blk 0 rfl).cell 2) fun hHeld=>?_;clear Ad KK;refine BZ ?_;clear hHeld;clear uQ;go_wp2_with fail;(try simp only [Act.put,LP]);refine Bc (AO rfl AL rfl (H.blk 2 rfl) rfl) rfl ?_;rw [HO.Ab]
     refine ⟨x,(Et.mk 0 ⟨none,0,0,[]⟩ ⟨some ⟨g6,0,none⟩,2,2,[x.ct.fa,F.n]⟩),rfl,H.fr,H.blk 0 rfl,rfl,Ns _ H.fr,?_,fun wz kz=>⟨Row.MS wz,VM ((ET.LY (T:=T) (r:=Aw g6 3 #[.int .i64 x.ct.fa,.int .i64 F.n]) ⟨H.get 3 rfl,H.VG 3 0 Za1 rfl rfl rfl⟩ Yw.Ab) wz kz) HXI Za5⟩⟩;show nS.mk 0 [] [x.ct.fa,(F.n:Int)]=_;rw [←HFL.Ab,←AR,zM.Ab,Tp.Ab,Al rfl]
     rfl
  ·cases data with
   |cons a l=>
    have HO:Hid (Dr x.Ac ⟨7,a::l⟩=(x.Ac,⟨2,[],[]⟩)):=by show _=_;unfold Dr;simp [PM.Ab]
    exact Zg4
   |nil=>
    have HO:Hid (Dr x.Ac ⟨7,[]⟩=(⟨x.Ac.cat,x.Ac.rows,x.Ac.has,true⟩,⟨0,[],[]⟩)):=by show _=_;unfold Dr;simp [PM.Ab]
    have f11:=(H.blk 0 rfl).frozen 11;go_wp2_with fail;clear c10 c11 c12 k0 k1 f11;replace H:=Aa (H.setCell 0 rfl 11 (.bool true));(try simp only [LS] at H);refine (DT 0 _).mono ?_;rintro e wf ⟨rfl,hbf⟩;replace H:=Aa (H.Av hbf);clear hbf;go_wp2_with ((with_reducible refine OS 4 ?_);refine Ae rfl AL (.tmp 4) (.tmp 66) rfl _ rfl (H.blk 2 rfl) rfl ((Et.err (0)).cs) rfl rfl (BJ _) ?_;intro wq bq Aq;replace H:=Aa (H.AA 2 rfl Aq bq);(try simp only [LS] at H);have HG:=Aa Aq;clear Aq bq);(try simp only [Act.put,LP]);refine Bc (AO rfl AL rfl (H.blk 2 rfl) rfl) rfl ?_;rw [HO.Ab];exact ⟨⟨x.ct,x.rows,x.has,true⟩,Et.err 0,rfl,H.fr,H.blk 0 rfl,rfl,(Ns _ H.fr).imp (fun _ h=>⟨h.ct,h.sm,h.rows⟩),rfl,fun wz _=>BL _ wz⟩
section
variable {P : Program} {w : World}
theorem Vo {ops:Array Oper} {o:Oper} {a:Act} {K:Act→World→Prop} {Q:Exit→Act→World→Prop} {X:Prop} (hgd:o.guard=none) {t:TypeId} (ho:o.op=.buildSlice t 0 #[])
 {e:TypeId} (hr:∀ w,(Instr.buildSlice t 0 #[]).run P w=.ok (.slice (some ⟨w.heap.size,0,none⟩) 0 0) (w.alloc (.cells #[] e)))
 (h:K (a.put o.dst (.slice (some ⟨w.heap.size,0,none⟩) 0 0)) (w.alloc (.cells #[] e))):if Region.wanted o (yielded ops a.tmps)=true then Oper.wp P o a w K Q else X:=by
 have hw:Region.wanted o (yielded ops a.tmps)=true:=by simp [Region.wanted,hgd]
 rw [Al hw];unfold Oper.wp execOp;simp only [ho,QD,EX,KH,hr,LC,LB];exact h
end
theorem wC {b:List UInt8} {t k:Int} {d:SC} (h:Em b (GU b) t k d):(k≠0→Ey b=(SC.nil,k))∧(k=0→Ey b=if Io b t k=0 then (d,0) else (SC.nil,Io b t k)):=by
 rcases h with ⟨h1,h2⟩|⟨rfl,tn,rfl,h1,h2⟩
 ·exact ⟨fun _=>by unfold Ey;rw [h2],fun h=>absurd h h1⟩
 ·refine ⟨fun h=>absurd rfl h,fun _=>?_⟩;unfold Ey Io;rw [h2];simp only;by_cases ht:tn=b.length
  ·subst ht;rw [List.drop_length];simp
  ·have hd:b.drop tn≠[]:=fun e=>by have:=List.drop_eq_nil_iff.1 e;omega
   have hi:¬ ((tn:Int)=(b.length:Int)):=by omega
   simp [hd,hi]
def Ap0 (o:SC × Int) (w:World) (e:Ending) (w':World):Prop:=∃ D:El,e=.returned (.tuple #[.agg D.cs,.int .i64 o.2])∧D.Ac=o.1∧Ai w w'∧(o.2=0→UY w w' (Kj D))∧(o.2≠0→D=El.nil)
theorem oQ (b:List UInt8) (w:World) (hb:b.length≤140737488351232):Calls prog 42 #[.string ⟨b.toArray⟩] w (Ap0 (Ey b) w):=by
 have hbd:∀ (t:ByteArray) (w:World),True:=fun _ _=>trivial
 have hbs:∀ w:World,(Instr.build 141 #[(0,.string ⟨b.toArray⟩)]).run prog w=.ok (Iz b 0 0) w:=fun _=>by kernel_rfl
 have Kz:=Aa (fun w'=>kR b 0 w' hb (Bj _));have H:=Aa ((SL.start No w).alloc #[.slice none 0 0,.slice none 0 0] 25);(try simp only [LS] at H);clear hbd hb;go_enter func42,ntmps42;go_upto_region 1 with fail;generalize w.heap.size=q at H ⊢;generalize World.alloc w _=w0 at H ⊢;go_wp2_with ((with_reducible refine OP 9 ?_);refine Bv (vx:=.string ⟨b.toArray⟩) (v:=Iz b 0 0) rfl (.tmp 8) rfl rfl hbs ?_);refine (Kz w0).mono ?_;rintro e w1 ⟨t,k,D,rfl,hb1,hS,hN⟩;have hS2:=hS.Ab;rw [Pj] at hS2;obtain ⟨e1,e2⟩:=wC hS2;clear hS hS2 Kz hbs;by_cases hk:k=0
 ·subst hk;have QO:=hN rfl;replace H:=Aa (H.add hb1 _ QO.1 QO.2);(try simp only [LS] at H);have HE:=Aa (e2 rfl);clear hb1 hN QO e1 e2;go_wp2_with (first|((with_reducible refine OS 4 ?_);(replace H:=Aa ((H.alloc (DY [] 0 0) 141).alloc #[.slice none 0 0,.slice none 0 0] 25);(try simp only [LS] at H);refine Cj Ar H 2 rfl (DY b t 0) (AU _ _ _) ?_;clear H;intro wq H;(try simp only [LS] at H)))|((with_reducible refine OS 5 ?_);(refine Cj Bb H 3 rfl (D.cs) (FE D) ?_;clear H;intro wq H;(try simp only [LS] at H)))|((with_reducible refine OP 13 ?_);(refine Bf Ar (H.blk 2 rfl) ?_)));refine (Rz b t 0 _).mono ?_;rintro e w2 ⟨rfl,hb2⟩;replace H:=Aa (H.Av hb2);clear hb2;generalize Io b t 0=K at *;by_cases hK:K=0
  ·have HE2:Hid (Ey b=(D.Ac,0)):=by show _=_;rw [HE.Ab,Al hK]
   have dk:(K !=0)=false:=by simpa using hK
   clear hK HE;go_wp2_with (first|((with_reducible refine OP 19 ?_);(refine Bf Bb (H.blk 3 rfl) ?_))|((with_reducible refine OS 2 ?_);(refine Cj Bb H 0 rfl (D.cs) (FE D) ?_;clear H;intro wq H;(try simp only [LS] at H))));(try simp only [Act.put,LP]);refine Bc (Au rfl Bb rfl (H.blk 0 rfl) rfl) rfl ?_;rw [HE2.Ab];exact ⟨D,rfl,rfl,H.to,fun _=>⟨H.get 1 rfl,H.new 1 rfl⟩,fun h=>absurd rfl h⟩
  ·have HE2:Hid (Ey b=(SC.nil,K)):=by show _=_;rw [HE.Ab,Ak hK]
   have Ad:=Aa hK;have dk:(K !=0)=true:=by simpa using hK
   have hz:∀ w:World,(Instr.build 25 #[]).run prog w=.ok (.agg El.nil.cs) w:=fun _=>by kernel_rfl
   clear hK HE;go_wp2_with (first|((with_reducible refine OP 17 ?_);refine Ij rfl rfl hz ?_)|((with_reducible refine OS 2 ?_);(refine Cj Bb H 0 rfl (El.nil.cs) (FE _) ?_;clear H;intro wq H;(try simp only [LS] at H))));(try simp only [Act.put,LP]);refine Bc (Au rfl Bb rfl (H.blk 0 rfl) rfl) rfl ?_;rw [HE2.Ab];exact ⟨El.nil,rfl,rfl,H.to,fun h=>absurd h Ad.out,fun _=>rfl⟩
 ·have HE:=Aa (e1 hk);have Ad:=Aa hk;have hz:∀ w:World,(Instr.build 25 #[]).run prog w=.ok (.agg El.nil.cs) w:=fun _=>by kernel_rfl
  replace H:=Aa (H.Av hb1);clear hb1 hN e1 e2;go_wp2_with (first|((with_reducible refine OS 4 ?_);(replace H:=Aa ((H.alloc (DY [] 0 0) 141).alloc #[.slice none 0 0,.slice none 0 0] 25);(try simp only [LS] at H);refine Cj Ar H 1 rfl (DY b t k) (AU _ _ _) ?_;clear H;intro wq H;(try simp only [LS] at H)))|((with_reducible refine OS 5 ?_);(refine Cj Bb H 2 rfl (D.cs) (FE D) ?_;clear H;intro wq H;(try simp only [LS] at H)))|((with_reducible refine OP 13 ?_);(refine Bf Ar (H.blk 1 rfl) ?_)));refine (Rz b t k _).mono ?_;rintro e w2 ⟨rfl,hb2⟩;replace H:=Aa (H.Av hb2);have hen:Io b t k=k:=by unfold Io;rw [Al hk]
  have dk:(k !=0)=true:=by simpa using hk
  rw [hen];clear hb2 hen hk;go_wp2_with (first|((with_reducible refine OP 17 ?_);refine Ij rfl rfl hz ?_)|((with_reducible refine OS 2 ?_);(refine Cj Bb H 0 rfl (El.nil.cs) (FE _) ?_;clear H;intro wq H;(try simp only [LS] at H))));(try simp only [Act.put,LP]);refine Bc (Au rfl Bb rfl (H.blk 0 rfl) rfl) rfl ?_;rw [HE.Ab];exact ⟨El.nil,rfl,rfl,H.to,fun h=>absurd h Ad.out,fun _=>rfl⟩
theorem Ak1 {w w':World} (hb:Ai w w') {p:Addr} {v:Value} (h:w.cell? p=some v):w'.cell? p=some v:=by rw [hb.cell (JM _ _ h)];exact h
def uU (sc:El) (o:CC × Int) (w:World) (e:Ending) (w':World):Prop:=
 ∃ D:Ct,e=.returned (.tuple #[.agg D.cs,.int .i64 o.2])∧D.Ac=o.1∧D.rd w'∧C9 D.sc∧Ai w w'∧(D.sc=sc∨D=Ct.nil)
theorem FP {sc:El} {k:Int} {w w':World} (hb:Ai w w'):uU sc (CC.nil,k) w (.returned (.tuple #[.agg #[.slice none 0 0,.slice none 0 0,.int .i64 0,.int .i64 0,.int .i64 0,.int .i64 0,.int .i64 0,.int .i64 0,.int .i64 0],.int .i64 k])) w':=⟨Ct.nil,rfl,rfl,NF w',Sw,hb,.inr rfl⟩
theorem Zn6 {p:Prop} (h:p:=by go_wp2_with ((with_reducible refine OS 4 ?_);(refine Cj BI H 1 rfl (#[.slice none 0 0,.slice none 0 0,.int .i64 0,.int .i64 0,.int .i64 0,.int .i64 0,.int .i64 0,.int .i64 0,.int .i64 0]) Za2 ?_;clear H;intro wq H;(try simp only [LS] at H)));refine Bc (Au rfl BI rfl (H.blk 1 rfl) rfl) rfl ?_;rw [Om.Ab];exact FP H.to):p:=h
theorem Zc4 {p:Prop} (h:p:=by
 have Om:Hid (O=(CC.nil,12)):=by
  exact Ze5
 exact Zn6
):p:=h
theorem Zn7 {p:Prop} (h:p:=by go_wp2_with ((with_reducible refine OS 4 ?_);(refine Cj BI H 1 rfl (#[.slice none 0 0,.slice none 0 0,.int .i64 0,.int .i64 0,.int .i64 0,.int .i64 0,.int .i64 0,.int .i64 0,.int .i64 0]) Za2 ?_;clear H;intro wq H;(try simp only [LS] at H)));refine Bc (Au rfl BI rfl (H.blk 1 rfl) rfl) rfl ?_;rw [dY.Ab];exact FP H.to):p:=h
theorem Za6 {p:Prop} (h:p:=by first|exact Kz _ H.to|exact Kz _ H.drew.to):p:=h
theorem Zd0 {p:Prop} (h:p:=by have:=uL.Ab;omega):p:=h
theorem eU (s:Ct) (r:Row (Row Int)) (w:World) (hs:s.rd w) (hm:C9 s.sc) (hr:Rd w 1 r.A r.n (r.l.flatMap AY.cells)) (hra:∀ y ∈ r.l,y.rd w) (hrn:r.n≤1000000):
 Calls prog 73 #[.agg s.cs,.slice r.A r.n r.c] w (uU s.sc (Fx s.Ac (r.l.map (·.l))) w):=by
 have HC:=Aa (fun w' (hb:Ai w w')=>mI s w' (hs.mono hb) hm);have HSC:=Aa hs.sc;have nO:=Aa hm;have HRW:=Aa (fun w' (h:Ai w w')=>hr.Av h);have vF:Hid (∀ y ∈ r.l,∀ w',Ai w w'→y.rd w'):=fun y hy w' hb=>(hra y hy).mono hb
 have hrl:Hid (r.l.length=r.n):=Il hr;have WZ:Hid (s.sc.ms.l.length=s.sc.ms.n):=hs.sc.ms.len;have H:=Aa (((SL.start No w).alloc s.cs 63).alloc #[.slice none 0 0,.slice none 0 0,.int .i64 0,.int .i64 0,.int .i64 0,.int .i64 0,.int .i64 0,.int .i64 0,.int .i64 0] 63);(try simp only [LS] at H);have hfa:=hs.fa;unfold AZ at hfa;have HI0:Hid (AZ s.p0∧AZ s.q0∧AZ s.p1∧AZ s.q1∧AZ s.p2∧AZ s.q2):=⟨hs.p0,hs.q0,hs.p1,hs.q1,hs.p2,hs.q2⟩;generalize hO:Fx s.Ac (r.l.map (·.l))=O;have HO:=Aa hO;clear hO;obtain ⟨⟨⟨A,n,c,ds⟩,⟨MA,mn,mc,ms⟩⟩,fa,p0,q0,p1,q1,p2,q2⟩:=s;obtain ⟨RA,rn,rc,rs⟩:=r;simp only [Ct.cs,El.cs,Ct.Ac,El.Ac] at *;obtain ⟨f1,f2⟩:=hfa;clear hs hm hr hra;go_enter func73,ntmps73;go_upto_region 1 with fail;generalize w.heap.size+1=y at *;generalize w.heap.size=x at *;generalize World.alloc (World.alloc _ _) _=w1 at *;go_wp2_with ((with_reducible refine OP 11 ?_);(refine Bf BI (H.blk 0 rfl) ?_));refine (HC _ H.to).mono ?_;rintro e w2 ⟨rfl,hb2⟩;replace H:=Aa (H.Av hb2);clear hb2 HC;by_cases hE:Bu ⟨⟨ds.map Dm.Ac,ms⟩,fa,p0,q0,p1,q1,p2,q2⟩=0
 ·obtain ⟨g1,g2,g3⟩:=MM hE;have Y0:mn≤3:=by have h:ms.length≤3:=(BH g1).2.2.2.2.1;have:=WZ.Ab;omega
  simp only at g2 g3;by_cases h4:4000<fa+rn
  ·have dY:Hid (O=(CC.nil,6)):=by have h:=HO.Ab;unfold Fx at h;rw [Ak Zb9,Al Zf2] at h;exact h.symm
   have e1:decide (4000<fa+(rn:Int))=true:=PS Xl;rw [hE];have c2:=(H.blk 0 rfl).Ap 2;clear hE g1 HO;exact Zn7
  ·have HO4:Hid (O=Xh rn (EG mn ⟨⟨ds.map Dm.Ac,ms⟩,fa,p0,q0,p1,q1,p2,q2⟩ (rs.map (·.l)))):=by have h:=HO.Ab;unfold Fx at h;rw [Ak Zb9,Ak Zf2] at h;rw [←h,CQ,hrl.Ab];show Xh rn (EG ms.length _ _)=_;rw [WZ.Ab]
   have e1:decide (4000<fa+(rn:Int))=false:=WB Xl;rw [hE];have c2:=(H.blk 0 rfl).Ap 2;clear hE g1 HO;go_wp2_with fail;clear c2 e1;have Yk:Hid (∀ o,EG mn ⟨⟨ds.map Dm.Ac,ms⟩,fa,p0,q0,p1,q1,p2,q2⟩ (rs.map (·.l))=o→Xh rn o=O):=fun o ho=>by rw [HO4.Ab,ho]
   have HRR:Hid (EG mn ⟨⟨ds.map Dm.Ac,ms⟩,fa,p0,q0,p1,q1,p2,q2⟩ (rs.map (·.l))=EG mn ⟨⟨ds.map Dm.Ac,ms⟩,fa,p0,q0,p1,q1,p2,q2⟩ ((rs.map (·.l)).drop 0)):=rfl;clear HO4;go_loopg [26] rn (fun gg i wr=>∃ (k:Nat) (P0 Q0 P1 Q1 P2 Q2:Int),gg=rn - k∧k≤rn∧i=.int .i64 k∧Hid (SL No w wr [Aw x 63 #[.slice A n c,.slice MA mn mc,.int .i64 fa,.int .i64 P0,.int .i64 Q0,.int .i64 P1,.int .i64 Q1,.int .i64 P2,.int .i64 Q2],Aw y 63 #[.slice none 0 0,.slice none 0 0,.int .i64 0,.int .i64 0,.int .i64 0,.int .i64 0,.int .i64 0,.int .i64 0,.int .i64 0]])∧Hid (EG mn ⟨⟨ds.map Dm.Ac,ms⟩,fa,p0,q0,p1,q1,p2,q2⟩ (rs.map (·.l))=EG mn ⟨⟨ds.map Dm.Ac,ms⟩,fa,P0,Q0,P1,Q1,P2,Q2⟩ ((rs.map (·.l)).drop k))∧Hid (AZ P0∧AZ Q0∧AZ P1∧AZ Q1∧AZ P2∧AZ Q2));case atStart=>exact ⟨0,p0,q0,p1,q1,p2,q2,rfl,Xl,rfl,H,HRR,HI0⟩
   case round=>
    clear H HRR HI0;obtain ⟨k,P0,Q0,P1,Q1,P2,Q2,BR,hk,rfl,H,HRR,hI⟩:=hrel;have Cs:=Aa BR;clear BR;by_cases hlt:k<rn
    ·obtain ⟨bb,oo,yr,hA,hyk,hc'⟩:=Oz rfl (HRW _ H.to) (k:=k) hlt;have q1':wr.cell? ⟨bb,oo+k,none⟩=some (.slice yr.A yr.n yr.c):=hc' _ rfl;have Pw:=vF yr (CU hyk) _ H.to;clear hc';(try simp only at hA);subst hA;have Yj:Hid ((rs.map (·.l))[k]?=some yr.l):=by show _=_;rw [Ee,hyk];(try rfl)
     have HYR:=Aa (fun w' (hb:Ai w w')=>(vF yr (CU hyk) w' hb));have Vg:Hid (yr.l.length=yr.n):=Pw.len;have y63:=Pw.n63;have i0:(0:Int)≤k:=by omega
     have i1:(k:Int)<rn:=by omega
     clear hyk Pw;obtain ⟨YA,yn,yc,ys⟩:=yr;simp only at *;have cm0:=(H.blk 0 rfl).Ap 1;by_cases hyn:yn=mn
     ·obtain rfl:mn=yn:=hyn.symm;have e1:(((mn:Nat):Int) !=mn)=false:=by simp
      go_wp2_with fail;clear cm0 e1 q1';have Ic:Hid (Ea ⟨⟨ds.map Dm.Ac,ms⟩,fa,P0,Q0,P1,Q1,P2,Q2⟩ 0 ys=Ea ⟨⟨ds.map Dm.Ac,ms⟩,fa,P0,Q0,P1,Q1,P2,Q2⟩ 0 (ys.drop 0)):=rfl;have hI0:=hI;have KX:=HRR;clear hI HRR;generalize hC1:(⟨⟨ds.map Dm.Ac,ms⟩,fa,P0,Q0,P1,Q1,P2,Q2⟩:CC)=C1 at KX Ic;have MW:=Aa hC1;clear hC1;replace Ic:Hid (Ea C1 0 ys=Ea ⟨⟨ds.map Dm.Ac,ms⟩,fa,P0,Q0,P1,Q1,P2,Q2⟩ 0 (ys.drop 0)):=by show _=_;rw [MW.Ab];exact Ic.Ab
      go_loopg [40] mn (fun gg i wr=>∃ (j:Nat) (P0 Q0 P1 Q1 P2 Q2:Int),gg=mn - j∧j≤mn∧i=.int .i64 j∧Hid (SL No w wr [Aw x 63 #[.slice A n c,.slice MA mn mc,.int .i64 fa,.int .i64 P0,.int .i64 Q0,.int .i64 P1,.int .i64 Q1,.int .i64 P2,.int .i64 Q2],Aw y 63 #[.slice none 0 0,.slice none 0 0,.int .i64 0,.int .i64 0,.int .i64 0,.int .i64 0,.int .i64 0,.int .i64 0,.int .i64 0]])∧Hid (Ea C1 0 ys=Ea ⟨⟨ds.map Dm.Ac,ms⟩,fa,P0,Q0,P1,Q1,P2,Q2⟩ j (ys.drop j))∧Hid (AZ P0∧AZ Q0∧AZ P1∧AZ Q1∧AZ P2∧AZ Q2));case atStart=>exact ⟨0,P0,Q0,P1,Q1,P2,Q2,rfl,Xl,rfl,H,Ic,hI0⟩
      case round=>
       clear H Ic hI0 MW;obtain ⟨j,P0,Q0,P1,Q1,P2,Q2,hgj,hj,rfl,H,Ic,hI⟩:=hrel;have Lt:=Aa hgj;clear hgj;by_cases hjlt:j<mn
       ·obtain ⟨b2,o2,v,hA,hyv,hv,q2⟩:=(HYR w (Ai.refl w)).Pv (k:=j) hjlt;simp only at hA;subst hA;have Kz:=Aa (fun w' (hb:Ai w w')=>Ak1 hb q2);have q2':=Kz _ H.to;have Tn:=Aa hyv;have HV:=Aa hv;clear hyv hv q2;have j0:(0:Int)≤j:=by omega
        have j1:(j:Int)<mn:=by omega
        obtain rfl|rfl|rfl:j=0∨j=1∨j=2:=by omega
        ·rw [show ((0:Nat):Int)=0 from rfl] at j0 j1 ⊢;rw [Kb] at q2';by_cases hv0:v<0
         ·have uL:Hid (v<0):=hv0;have dv:decide (v<0)=true:=PS hv0;go_upto_region 16 with fail;(try simp only [Act.put,LP]);clear q2' dv;have uM:Hid (AZ (Cu Q0 v).1):=Mo;have HG:=Aa (fun w=>Lf Q0 v w hI.2.1 HV.Ab);have HU:Hid (Lm ⟨⟨ds.map Dm.Ac,ms⟩,fa,P0,Q0,P1,Q1,P2,Q2⟩ 0 v=(if (Cu Q0 v).2 then ⟨⟨ds.map Dm.Ac,ms⟩,fa,P0,(Cu Q0 v).1,P1,Q1,P2,Q2⟩ else (Lm ⟨⟨ds.map Dm.Ac,ms⟩,fa,P0,Q0,P1,Q1,P2,Q2⟩ 0 v).1,(Cu Q0 v).2)):=by
           show _=_;refine Prod.ext ?_ (by show (BO P0 Q0 v).2=_;unfold BO;rw [Al uL.Ab]);cases hx:(Cu Q0 v).2
           ·rfl
           ·show (⟨_,_,(BO P0 Q0 v).1.1,(BO P0 Q0 v).1.2,_,_,_,_⟩:CC)=_;have he:BO P0 Q0 v=((P0,(Cu Q0 v).1),true):=by unfold BO;rw [Al uL.Ab,hx];(try rfl)
            rw [he]
            rfl
          generalize Cu Q0 v=G at *;obtain ⟨u,ok⟩:=G;simp only at HG HU uM;refine Ep (S:=fun w=>w.cell? ⟨b2,o2,none⟩=some (.int .i64 v)) Za0 Za6 fun hHeld=>?_;replace H:=Aa (H.drew);refine Bd Ml ?_;refine Bd KF ?_;refine Bd MN ?_;refine Bd Ky ?_;refine Bd LJ ?_;refine Bd MI ?_;refine Bd Lj ?_;refine Bd Mk ?_;refine Bd MH ?_;refine Bd Jw ?_;refine BG KW fun KK Ad=>?_;generalize World.drew _=w7 at *;have cz:=(H.blk 0 rfl).Ap 4;go_simp;clear cz;refine Aj Ad Za6 fun hHeld=>?_;clear Ad KK;refine BG FO fun KK Ad=>?_;go_simp;refine (HG _).mono ?_;rintro e' w6 ⟨rfl,rfl⟩;refine Aj Ad Za6 fun hHeld=>?_;clear Ad KK;refine Bd Ga ?_;refine Bd Hw ?_;refine Bd Jc ?_;refine Bd bV ?_;refine Bd sD ?_;refine BG yC fun KK Ad=>?_;have cz:=(H.blk 0 rfl).Ap 4;have fz:=(H.blk 0 rfl).frozen 4;go_simp;replace H:=Aa (H.setCell 0 rfl 4 (.int .i64 u));(try simp only [LS] at H);clear cz fz;refine Aj Ad Za6 fun hHeld=>?_;clear Ad KK;refine BG yB fun KK Ad=>?_;go_simp;refine Aj Ad Za6 fun hHeld=>?_;clear Ad KK;refine BZ ?_;clear hHeld;cases ok with
          |true=>
           have HR2:Hid (Ea C1 0 ys=Ea ⟨⟨ds.map Dm.Ac,ms⟩,fa,P0,u,P1,Q1,P2,Q2⟩ (0+1) (ys.drop (0+1))):=by
            show _=_;rw [Ic.Ab,Bp Tn.Ab,Fq Zb8,HU.Ab]
            rfl
           have hI2:Hid (AZ P0∧AZ u∧AZ P1∧AZ Q1∧AZ P2∧AZ Q2):=⟨hI.1,uM.Ab,hI.2.2.1,hI.2.2.2.1,hI.2.2.2.2.1,hI.2.2.2.2.2⟩;clear Ic HU;go_wp2_with fail;go_roundg (mn - (0+1));case rel=>exact ⟨0+1,P0,u,P1,Q1,P2,Q2,rfl,Xl,rfl,H,HR2,hI2⟩
           case measure=>rw [Lt.Ab];omega
          |false=>
           exact Zc4
         ·have uL:Hid (¬ v<0):=hv0;have dv:decide (v<0)=false:=WB hv0;go_upto_region 17 with fail;(try simp only [Act.put,LP]);clear q2' dv;have uM:Hid (AZ (Cu P0 v).1):=Mo;have HG:=Aa (fun w=>Lf P0 v w hI.1 HV.Ab);have HU:Hid (Lm ⟨⟨ds.map Dm.Ac,ms⟩,fa,P0,Q0,P1,Q1,P2,Q2⟩ 0 v=(if (Cu P0 v).2 then ⟨⟨ds.map Dm.Ac,ms⟩,fa,(Cu P0 v).1,Q0,P1,Q1,P2,Q2⟩ else (Lm ⟨⟨ds.map Dm.Ac,ms⟩,fa,P0,Q0,P1,Q1,P2,Q2⟩ 0 v).1,(Cu P0 v).2)):=by
           show _=_;refine Prod.ext ?_ (by show (BO P0 Q0 v).2=_;unfold BO;rw [Ak Zd0]);cases hx:(Cu P0 v).2
           ·rfl
           ·show (⟨_,_,(BO P0 Q0 v).1.1,(BO P0 Q0 v).1.2,_,_,_,_⟩:CC)=_;have he:BO P0 Q0 v=(((Cu P0 v).1,Q0),true):=by unfold BO;rw [Ak Zd0,hx];(try rfl)
            rw [he]
            rfl
          generalize Cu P0 v=G at *;obtain ⟨u,ok⟩:=G;simp only at HG HU uM;refine Ep (S:=fun w=>w.cell? ⟨b2,o2,none⟩=some (.int .i64 v)) Za0 Za6 fun hHeld=>?_;replace H:=Aa (H.drew);refine Bd Ml ?_;refine Bd KF ?_;refine Bd MN ?_;refine Bd Ky ?_;refine Bd LJ ?_;refine Bd MI ?_;refine Bd Lj ?_;refine Bd Mk ?_;refine Bd MH ?_;refine Bd Jw ?_;refine BG KW fun KK Ad=>?_;generalize World.drew _=w7 at *;have cz:=(H.blk 0 rfl).Ap 3;go_simp;clear cz;refine Aj Ad Za6 fun hHeld=>?_;clear Ad KK;refine BG FO fun KK Ad=>?_;go_simp;refine (HG _).mono ?_;rintro e' w6 ⟨rfl,rfl⟩;refine Aj Ad Za6 fun hHeld=>?_;clear Ad KK;refine Bd Ga ?_;refine Bd Hw ?_;refine Bd Jc ?_;refine Bd bV ?_;refine Bd sD ?_;refine BG yC fun KK Ad=>?_;have cz:=(H.blk 0 rfl).Ap 3;have fz:=(H.blk 0 rfl).frozen 3;go_simp;replace H:=Aa (H.setCell 0 rfl 3 (.int .i64 u));(try simp only [LS] at H);clear cz fz;refine Aj Ad Za6 fun hHeld=>?_;clear Ad KK;refine BG yB fun KK Ad=>?_;go_simp;refine Aj Ad Za6 fun hHeld=>?_;clear Ad KK;refine BZ ?_;clear hHeld;cases ok with
          |true=>
           have HR2:Hid (Ea C1 0 ys=Ea ⟨⟨ds.map Dm.Ac,ms⟩,fa,u,Q0,P1,Q1,P2,Q2⟩ (0+1) (ys.drop (0+1))):=by
            show _=_;rw [Ic.Ab,Bp Tn.Ab,Fq Zb8,HU.Ab]
            rfl
           have hI2:Hid (AZ u∧AZ Q0∧AZ P1∧AZ Q1∧AZ P2∧AZ Q2):=⟨uM.Ab,hI.2.1,hI.2.2.1,hI.2.2.2.1,hI.2.2.2.2.1,hI.2.2.2.2.2⟩;clear Ic HU;go_wp2_with fail;go_roundg (mn - (0+1));case rel=>exact ⟨0+1,u,Q0,P1,Q1,P2,Q2,rfl,Xl,rfl,H,HR2,hI2⟩
           case measure=>rw [Lt.Ab];omega
          |false=>
           exact Zc4
        ·rw [show ((1:Nat):Int)=1 from rfl] at j0 j1 ⊢;by_cases hv0:v<0
         ·have uL:Hid (v<0):=hv0;have dv:decide (v<0)=true:=PS hv0;go_upto_region 16 with fail;(try simp only [Act.put,LP]);clear q2' dv;have uM:Hid (AZ (Cu Q1 v).1):=Mo;have HG:=Aa (fun w=>Lf Q1 v w hI.2.2.2.1 HV.Ab);have HU:Hid (Lm ⟨⟨ds.map Dm.Ac,ms⟩,fa,P0,Q0,P1,Q1,P2,Q2⟩ 1 v=(if (Cu Q1 v).2 then ⟨⟨ds.map Dm.Ac,ms⟩,fa,P0,Q0,P1,(Cu Q1 v).1,P2,Q2⟩ else (Lm ⟨⟨ds.map Dm.Ac,ms⟩,fa,P0,Q0,P1,Q1,P2,Q2⟩ 1 v).1,(Cu Q1 v).2)):=by
           show _=_;refine Prod.ext ?_ (by show (BO P1 Q1 v).2=_;unfold BO;rw [Al uL.Ab]);cases hx:(Cu Q1 v).2
           ·rfl
           ·show (⟨_,_,_,_,(BO P1 Q1 v).1.1,(BO P1 Q1 v).1.2,_,_⟩:CC)=_;have he:BO P1 Q1 v=((P1,(Cu Q1 v).1),true):=by unfold BO;rw [Al uL.Ab,hx];(try rfl)
            rw [he]
            rfl
          generalize Cu Q1 v=G at *;obtain ⟨u,ok⟩:=G;simp only at HG HU uM;refine Ep (S:=fun w=>w.cell? ⟨b2,o2+1,none⟩=some (.int .i64 v)) Za0 Za6 fun hHeld=>?_;replace H:=Aa (H.drew);refine Bd Ml ?_;refine Bd KF ?_;refine Bd MN ?_;refine Bd Ky ?_;refine Bd LJ ?_;refine Bd MI ?_;refine Bd Lj ?_;refine Bd Mk ?_;refine Bd MH ?_;refine Bd Jw ?_;refine BG KW fun KK Ad=>?_;generalize World.drew _=w7 at *;have cz:=(H.blk 0 rfl).Ap 6;go_simp;clear cz;refine Aj Ad Za6 fun hHeld=>?_;clear Ad KK;refine BG FO fun KK Ad=>?_;go_simp;refine (HG _).mono ?_;rintro e' w6 ⟨rfl,rfl⟩;refine Aj Ad Za6 fun hHeld=>?_;clear Ad KK;refine Bd Ga ?_;refine Bd Hw ?_;refine Bd Jc ?_;refine Bd bV ?_;refine Bd sD ?_;refine BG yC fun KK Ad=>?_;have cz:=(H.blk 0 rfl).Ap 6;have fz:=(H.blk 0 rfl).frozen 6;go_simp;replace H:=Aa (H.setCell 0 rfl 6 (.int .i64 u));(try simp only [LS] at H);clear cz fz;refine Aj Ad Za6 fun hHeld=>?_;clear Ad KK;refine BG yB fun KK Ad=>?_;go_simp;refine Aj Ad Za6 fun hHeld=>?_;clear Ad KK;refine BZ ?_;clear hHeld;cases ok with
          |true=>
           have HR2:Hid (Ea C1 0 ys=Ea ⟨⟨ds.map Dm.Ac,ms⟩,fa,P0,Q0,P1,u,P2,Q2⟩ (1+1) (ys.drop (1+1))):=by
            show _=_;rw [Ic.Ab,Bp Tn.Ab,Fq Zb8,HU.Ab]
            rfl
           have hI2:Hid (AZ P0∧AZ Q0∧AZ P1∧AZ u∧AZ P2∧AZ Q2):=⟨hI.1,hI.2.1,hI.2.2.1,uM.Ab,hI.2.2.2.2.1,hI.2.2.2.2.2⟩;clear Ic HU;go_wp2_with fail;go_roundg (mn - (1+1));case rel=>exact ⟨1+1,P0,Q0,P1,u,P2,Q2,rfl,Xl,rfl,H,HR2,hI2⟩
           case measure=>rw [Lt.Ab];omega
          |false=>
           exact Zc4
         ·have uL:Hid (¬ v<0):=hv0;have dv:decide (v<0)=false:=WB hv0;go_upto_region 17 with fail;(try simp only [Act.put,LP]);clear q2' dv;have uM:Hid (AZ (Cu P1 v).1):=Mo;have HG:=Aa (fun w=>Lf P1 v w hI.2.2.1 HV.Ab);have HU:Hid (Lm ⟨⟨ds.map Dm.Ac,ms⟩,fa,P0,Q0,P1,Q1,P2,Q2⟩ 1 v=(if (Cu P1 v).2 then ⟨⟨ds.map Dm.Ac,ms⟩,fa,P0,Q0,(Cu P1 v).1,Q1,P2,Q2⟩ else (Lm ⟨⟨ds.map Dm.Ac,ms⟩,fa,P0,Q0,P1,Q1,P2,Q2⟩ 1 v).1,(Cu P1 v).2)):=by
           show _=_;refine Prod.ext ?_ (by show (BO P1 Q1 v).2=_;unfold BO;rw [Ak Zd0]);cases hx:(Cu P1 v).2
           ·rfl
           ·show (⟨_,_,_,_,(BO P1 Q1 v).1.1,(BO P1 Q1 v).1.2,_,_⟩:CC)=_;have he:BO P1 Q1 v=(((Cu P1 v).1,Q1),true):=by unfold BO;rw [Ak Zd0,hx];(try rfl)
            rw [he]
            rfl
          generalize Cu P1 v=G at *;obtain ⟨u,ok⟩:=G;simp only at HG HU uM;refine Ep (S:=fun w=>w.cell? ⟨b2,o2+1,none⟩=some (.int .i64 v)) Za0 Za6 fun hHeld=>?_;replace H:=Aa (H.drew);refine Bd Ml ?_;refine Bd KF ?_;refine Bd MN ?_;refine Bd Ky ?_;refine Bd LJ ?_;refine Bd MI ?_;refine Bd Lj ?_;refine Bd Mk ?_;refine Bd MH ?_;refine Bd Jw ?_;refine BG KW fun KK Ad=>?_;generalize World.drew _=w7 at *;have cz:=(H.blk 0 rfl).Ap 5;go_simp;clear cz;refine Aj Ad Za6 fun hHeld=>?_;clear Ad KK;refine BG FO fun KK Ad=>?_;go_simp;refine (HG _).mono ?_;rintro e' w6 ⟨rfl,rfl⟩;refine Aj Ad Za6 fun hHeld=>?_;clear Ad KK;refine Bd Ga ?_;refine Bd Hw ?_;refine Bd Jc ?_;refine Bd bV ?_;refine Bd sD ?_;refine BG yC fun KK Ad=>?_;have cz:=(H.blk 0 rfl).Ap 5;have fz:=(H.blk 0 rfl).frozen 5;go_simp;replace H:=Aa (H.setCell 0 rfl 5 (.int .i64 u));(try simp only [LS] at H);clear cz fz;refine Aj Ad Za6 fun hHeld=>?_;clear Ad KK;refine BG yB fun KK Ad=>?_;go_simp;refine Aj Ad Za6 fun hHeld=>?_;clear Ad KK;refine BZ ?_;clear hHeld;cases ok with
          |true=>
           have HR2:Hid (Ea C1 0 ys=Ea ⟨⟨ds.map Dm.Ac,ms⟩,fa,P0,Q0,u,Q1,P2,Q2⟩ (1+1) (ys.drop (1+1))):=by
            show _=_;rw [Ic.Ab,Bp Tn.Ab,Fq Zb8,HU.Ab]
            rfl
           have hI2:Hid (AZ P0∧AZ Q0∧AZ u∧AZ Q1∧AZ P2∧AZ Q2):=⟨hI.1,hI.2.1,uM.Ab,hI.2.2.2.1,hI.2.2.2.2.1,hI.2.2.2.2.2⟩;clear Ic HU;go_wp2_with fail;go_roundg (mn - (1+1));case rel=>exact ⟨1+1,P0,Q0,u,Q1,P2,Q2,rfl,Xl,rfl,H,HR2,hI2⟩
           case measure=>rw [Lt.Ab];omega
          |false=>
           exact Zc4
        ·rw [show ((2:Nat):Int)=2 from rfl] at j0 j1 ⊢;by_cases hv0:v<0
         ·have uL:Hid (v<0):=hv0;have dv:decide (v<0)=true:=PS hv0;go_upto_region 16 with fail;(try simp only [Act.put,LP]);clear q2' dv;have uM:Hid (AZ (Cu Q2 v).1):=Mo;have HG:=Aa (fun w=>Lf Q2 v w hI.2.2.2.2.2 HV.Ab);have HU:Hid (Lm ⟨⟨ds.map Dm.Ac,ms⟩,fa,P0,Q0,P1,Q1,P2,Q2⟩ 2 v=(if (Cu Q2 v).2 then ⟨⟨ds.map Dm.Ac,ms⟩,fa,P0,Q0,P1,Q1,P2,(Cu Q2 v).1⟩ else (Lm ⟨⟨ds.map Dm.Ac,ms⟩,fa,P0,Q0,P1,Q1,P2,Q2⟩ 2 v).1,(Cu Q2 v).2)):=by
           show _=_;refine Prod.ext ?_ (by show (BO P2 Q2 v).2=_;unfold BO;rw [Al uL.Ab]);cases hx:(Cu Q2 v).2
           ·rfl
           ·show (⟨_,_,_,_,_,_,(BO P2 Q2 v).1.1,(BO P2 Q2 v).1.2⟩:CC)=_;have he:BO P2 Q2 v=((P2,(Cu Q2 v).1),true):=by unfold BO;rw [Al uL.Ab,hx];(try rfl)
            rw [he]
            rfl
          generalize Cu Q2 v=G at *;obtain ⟨u,ok⟩:=G;simp only at HG HU uM;refine Ep (S:=fun w=>w.cell? ⟨b2,o2+2,none⟩=some (.int .i64 v)) Za0 Za6 fun hHeld=>?_;replace H:=Aa (H.drew);refine Bd Ml ?_;refine Bd KF ?_;refine Bd MN ?_;refine Bd Ky ?_;refine Bd LJ ?_;refine Bd MI ?_;refine Bd Lj ?_;refine Bd Mk ?_;refine Bd MH ?_;refine Bd Jw ?_;refine BG KW fun KK Ad=>?_;generalize World.drew _=w7 at *;have cz:=(H.blk 0 rfl).Ap 8;go_simp;clear cz;refine Aj Ad Za6 fun hHeld=>?_;clear Ad KK;refine BG FO fun KK Ad=>?_;go_simp;refine (HG _).mono ?_;rintro e' w6 ⟨rfl,rfl⟩;refine Aj Ad Za6 fun hHeld=>?_;clear Ad KK;refine Bd Ga ?_;refine Bd Hw ?_;refine Bd Jc ?_;refine Bd bV ?_;refine Bd sD ?_;refine BG yC fun KK Ad=>?_;have cz:=(H.blk 0 rfl).Ap 8;have fz:=(H.blk 0 rfl).frozen 8;go_simp;replace H:=Aa (H.setCell 0 rfl 8 (.int .i64 u));(try simp only [LS] at H);clear cz fz;refine Aj Ad Za6 fun hHeld=>?_;clear Ad KK;refine BG yB fun KK Ad=>?_;go_simp;refine Aj Ad Za6 fun hHeld=>?_;clear Ad KK;refine BZ ?_;clear hHeld;cases ok with
          |true=>
           have HR2:Hid (Ea C1 0 ys=Ea ⟨⟨ds.map Dm.Ac,ms⟩,fa,P0,Q0,P1,Q1,P2,u⟩ (2+1) (ys.drop (2+1))):=by
            show _=_;rw [Ic.Ab,Bp Tn.Ab,Fq Zb8,HU.Ab]
            rfl
           have hI2:Hid (AZ P0∧AZ Q0∧AZ P1∧AZ Q1∧AZ P2∧AZ u):=⟨hI.1,hI.2.1,hI.2.2.1,hI.2.2.2.1,hI.2.2.2.2.1,uM.Ab⟩;clear Ic HU;go_wp2_with fail;go_roundg (mn - (2+1));case rel=>exact ⟨2+1,P0,Q0,P1,Q1,P2,u,rfl,Xl,rfl,H,HR2,hI2⟩
           case measure=>rw [Lt.Ab];omega
          |false=>
           exact Zc4
         ·have uL:Hid (¬ v<0):=hv0;have dv:decide (v<0)=false:=WB hv0;go_upto_region 17 with fail;(try simp only [Act.put,LP]);clear q2' dv;have uM:Hid (AZ (Cu P2 v).1):=Mo;have HG:=Aa (fun w=>Lf P2 v w hI.2.2.2.2.1 HV.Ab);have HU:Hid (Lm ⟨⟨ds.map Dm.Ac,ms⟩,fa,P0,Q0,P1,Q1,P2,Q2⟩ 2 v=(if (Cu P2 v).2 then ⟨⟨ds.map Dm.Ac,ms⟩,fa,P0,Q0,P1,Q1,(Cu P2 v).1,Q2⟩ else (Lm ⟨⟨ds.map Dm.Ac,ms⟩,fa,P0,Q0,P1,Q1,P2,Q2⟩ 2 v).1,(Cu P2 v).2)):=by
           show _=_;refine Prod.ext ?_ (by show (BO P2 Q2 v).2=_;unfold BO;rw [Ak Zd0]);cases hx:(Cu P2 v).2
           ·rfl
           ·show (⟨_,_,_,_,_,_,(BO P2 Q2 v).1.1,(BO P2 Q2 v).1.2⟩:CC)=_;have he:BO P2 Q2 v=(((Cu P2 v).1,Q2),true):=by unfold BO;rw [Ak Zd0,hx];(try rfl)
            rw [he]
            rfl
          generalize Cu P2 v=G at *;obtain ⟨u,ok⟩:=G;simp only at HG HU uM;refine Ep (S:=fun w=>w.cell? ⟨b2,o2+2,none⟩=some (.int .i64 v)) Za0 Za6 fun hHeld=>?_;replace H:=Aa (H.drew);refine Bd Ml ?_;refine Bd KF ?_;refine Bd MN ?_;refine Bd Ky ?_;refine Bd LJ ?_;refine Bd MI ?_;refine Bd Lj ?_;refine Bd Mk ?_;refine Bd MH ?_;refine Bd Jw ?_;refine BG KW fun KK Ad=>?_;generalize World.drew _=w7 at *;have cz:=(H.blk 0 rfl).Ap 7;go_simp;clear cz;refine Aj Ad Za6 fun hHeld=>?_;clear Ad KK;refine BG FO fun KK Ad=>?_;go_simp;refine (HG _).mono ?_;rintro e' w6 ⟨rfl,rfl⟩;refine Aj Ad Za6 fun hHeld=>?_;clear Ad KK;refine Bd Ga ?_;refine Bd Hw ?_;refine Bd Jc ?_;refine Bd bV ?_;refine Bd sD ?_;refine BG yC fun KK Ad=>?_;have cz:=(H.blk 0 rfl).Ap 7;have fz:=(H.blk 0 rfl).frozen 7;go_simp;replace H:=Aa (H.setCell 0 rfl 7 (.int .i64 u));(try simp only [LS] at H);clear cz fz;refine Aj Ad Za6 fun hHeld=>?_;clear Ad KK;refine BG yB fun KK Ad=>?_;go_simp;refine Aj Ad Za6 fun hHeld=>?_;clear Ad KK;refine BZ ?_;clear hHeld;cases ok with
          |true=>
           have HR2:Hid (Ea C1 0 ys=Ea ⟨⟨ds.map Dm.Ac,ms⟩,fa,P0,Q0,P1,Q1,u,Q2⟩ (2+1) (ys.drop (2+1))):=by
            show _=_;rw [Ic.Ab,Bp Tn.Ab,Fq Zb8,HU.Ab]
            rfl
           have hI2:Hid (AZ P0∧AZ Q0∧AZ P1∧AZ Q1∧AZ u∧AZ Q2):=⟨hI.1,hI.2.1,hI.2.2.1,hI.2.2.2.1,uM.Ab,hI.2.2.2.2.2⟩;clear Ic HU;go_wp2_with fail;go_roundg (mn - (2+1));case rel=>exact ⟨2+1,P0,Q0,P1,Q1,u,Q2,rfl,Xl,rfl,H,HR2,hI2⟩
           case measure=>rw [Lt.Ab];omega
          |false=>
           exact Zc4
       ·obtain rfl:j=mn:=by omega
        have zJ:Hid (EG j ⟨⟨ds.map Dm.Ac,ms⟩,fa,p0,q0,p1,q1,p2,q2⟩ (rs.map (·.l))=EG j ⟨⟨ds.map Dm.Ac,ms⟩,fa,P0,Q0,P1,Q1,P2,Q2⟩ ((rs.map (·.l)).drop (k+1))):=by
         show _=_;rw [KX.Ab,Bp Yj.Ab];refine Sg (Vg.Ab) ?_;rw [Ic.Ab,EN (by have:=Vg.Ab;omega)]
         rfl
        clear KX Ic;go_wp2_with fail;go_roundg (rn - (k+1));case rel=>exact ⟨k+1,P0,Q0,P1,Q1,P2,Q2,rfl,Xl,by go_num,H,zJ,hI⟩
        case measure=>rw [Cs.Ab];omega
     ·have e1:(((yn:Nat):Int) !=mn)=true:=by simp;omega
      have Om:Hid (O=(CC.nil,2)):=by
       exact Zu8
      clear hyn;exact Zn6
    ·obtain rfl:k=rn:=by omega
     have Om:Hid (O=(⟨⟨ds.map Dm.Ac,ms⟩,fa+k,P0,Q0,P1,Q1,P2,Q2⟩,0)):=by
      exact Zt2
     clear HRR;have cz2:=(H.blk 0 rfl).Ap 2;have fz2:=(H.blk 0 rfl).frozen 2;go_wp2_with (first|((with_reducible refine OP 93 ?_);replace H:=Aa (H.setCell 0 rfl 2 (.int .i64 (fa+k)));(try simp only [LS] at H);clear cz2 fz2;refine Bf BI (H.blk 0 rfl) ?_)|((with_reducible refine OS 4 ?_);(refine Cj BI H 1 rfl (#[.slice A n c,.slice MA mn mc,.int .i64 (fa+k),.int .i64 P0,.int .i64 Q0,.int .i64 P1,.int .i64 Q1,.int .i64 P2,.int .i64 Q2]) Za2 ?_;clear H;intro wq H;(try simp only [LS] at H))));refine Bc (Au rfl BI rfl (H.blk 1 rfl) rfl) rfl ?_;rw [Om.Ab];exact ⟨⟨⟨⟨A,n,c,ds⟩,⟨MA,mn,mc,ms⟩⟩,fa+k,P0,Q0,P1,Q1,P2,Q2⟩,rfl,rfl,⟨HSC.mono H.to,by show _≤fa+(k:Int)∧fa+(k:Int)≤_;omega,hI.1,hI.2.1,hI.2.2.1,hI.2.2.2.1,hI.2.2.2.2.1,hI.2.2.2.2.2⟩,nO.Ab,H.to,.inl rfl⟩
 ·have dY:Hid (O=(CC.nil,Bu ⟨⟨ds.map Dm.Ac,ms⟩,fa,p0,q0,p1,q1,p2,q2⟩)):=by have h:=HO.Ab;unfold Fx at h;rw [Al hE] at h;exact h.symm
  have dE:(Bu ⟨⟨ds.map Dm.Ac,ms⟩,fa,p0,q0,p1,q1,p2,q2⟩==0)=false:=by simpa using hE
  generalize Bu ⟨⟨ds.map Dm.Ac,ms⟩,fa,p0,q0,p1,q1,p2,q2⟩=E at *;clear hE HO;exact Zn7
theorem Am7 (A B:Option Addr) (n c m d:Nat):∀ u ∈ ([.slice A n c,.slice B m d]:List Value),u.oneCell'=true:=by simp [Value.oneCell']
theorem Zj9 {p:Prop} (h:p:=by
 refine Aj Ad trivial fun hHeld=>?_;clear Ad KK;refine BG Ky fun KK Ad=>?_;go_simp;refine (Nw s t1 k1 3 (isTerm lb) _).mono ?_;rintro e' w3 ⟨rfl,hb3⟩;replace H:=Aa (H.Av hb3);clear hb3;refine Aj Ad trivial fun hHeld=>?_;clear Ad KK;refine BG LJ fun KK Ad=>?_;refine Jp rfl Ar (.tmp 7) (.tmp 50) rfl _ rfl (H.blk 1 rfl) rfl (DY s t1 (Kg k1 (isTerm lb) 3)) rfl rfl (AU _ _ _) ?_;intro wq bq Aq;replace H:=Aa (H.AA 1 rfl Aq bq);(try simp only [LS] at H);clear Aq bq;refine Aj Ad trivial fun hHeld=>?_;clear Ad KK;refine BZ ?_;clear hHeld;have c1:=(H.blk 4 rfl).Ap 0;go_wp2_with ((with_reducible refine OP 55 ?_);(replace H:=Aa (H.alloc #[.string ⟨lb.toArray⟩] 9);(try simp only [LS] at H);refine Az rfl (.tmp 52) (.tmp 54) _ rfl FB 0 (Bj _) _ j _ rfl (H.row 5 rfl) _ 1 1 [.string ⟨lb.toArray⟩] rfl (AV (H.blk 7 rfl) rfl) Za2 Za4 Xl ?_;intro vq wq AJ Aq AQ;replace H:=Aa (H.setRow 5 rfl Aq AJ AQ);(try simp only [LS] at H);clear AJ Aq AQ;obtain ⟨A2,c2,rfl,_⟩:=Ao (H.row 5 rfl);clear c1;have c1:=(H.blk 4 rfl).Ap 0;have f1:=(H.blk 4 rfl).frozen 0));replace H:=Aa (H.setCell 4 rfl 0 (.slice A2 (j+1) c2));(try simp only [LS] at H);replace H:=Aa (H.Fg [0,1,2,3,4,5] Za1 uH);(try simp only [LS] at H);clear c1 f1;go_wp2_with fail;go_roundg (N - (j+1));case rel=>exact ⟨j+1,ts++[lb],A2,c2,t1,Kg k1 (isTerm lb) 3,rfl,Xl,by go_num,by show _=_;rw [Cn,htc.Ab];(try rfl),HTL2,by rw [Cf];exact H,HI2⟩
 case measure=>rw [Lt.Ab];omega
):p:=h
theorem Zo2 {p:Prop} (h:p:=by
 have HT:Hid (De dc s=([],kk)):=by show _=_;rw [HT0.Ab,Oe.bad hkk]
 rw [show Io s t kk=kk by unfold Io;rw [Al hkk]];have dk:(kk==0)=false:=by simpa using hkk
 have dk2:(kk !=0)=true:=by simpa using hkk
 clear hkk HT0 Oe;go_wp2;go_ret2;rw [HT.Ab];exact ⟨⟨none,0,0,[]⟩,rfl,rfl,H.to,Fw _,GQ⟩
):p:=h
theorem kT (d:El) (s:List UInt8) (w:World) (hd:d.rd w) (hs:s.length≤140737488351232) (hn:d.dm.n≤1000000) (hm:d.ms.n≤1000000) (hdd:∀ x ∈ d.dm.l,x.tr.n≤1000000∧∀ t ∈ x.tr.l,t.up.n≤100000):
 Calls prog 72 #[.agg d.cs,.string ⟨s.toArray⟩] w (Ar6 (De d.Ac s) w):=by
 have HC:=Aa (fun w' (hb:Ai w w')=>GI d w' (hd.mono hb) hn hm (fun x hx=>(hdd x hx).1));have HBC:=Aa (fun (X:Row Rw) w' (hX:X.rd w') (hb:Ai w w')=>pQ d X w' (hd.mono hb) hX hn hm hdd);have hl1:d.Ac.Dx.length=d.dm.n:=by have:d.dm.l.length=d.dm.n:=hd.dm.len;simpa using this
 have hl2:d.Ac.ms.length=d.ms.n:=by have:d.ms.l.length=d.ms.n:=hd.ms.len;simpa using this
 have H:=Aa ((SL.start No w).alloc d.cs 25);(try simp only [LS] at H);clear hd hdd;generalize d.Ac=dc at HC HBC hl1 hl2 ⊢;obtain ⟨⟨DA,N,cN,ds⟩,⟨MB,M,cM,ms⟩⟩:=d;simp only [El.cs] at *;by_cases hE:Ay dc=0
 ·obtain ⟨_,q2,_,_,q5,_⟩:=BH hE;have hn16:N≤16:=by omega
  have Y0:M≤3:=by omega
  have HT0:Hid (De dc s=match Qi N M s with
   |.error k=>([],k)
   |.ok (rows,r)=>if r=[] then (if CR dc rows=0 then (rows,0) else ([],CR dc rows)) else ([],3)):=by
   show _=_;unfold De;rw [Ak Xl,hl1,hl2]
   rfl
  rw [hE] at HC;clear hE q2 q5 hl1 hl2;have hrn:=fun w=>Qg s 0 300 hs Xl Xl Xl w
  simp only [Pj] at hrn;have HRN:=Aa hrn;clear hrn;go_enter func72,ntmps72;go_wp2_with ((with_reducible refine OP 16 ?_);(refine Bf Bb (H.blk 0 rfl) ?_));refine (HC _ H.to).mono ?_;rintro e w1 ⟨rfl,hb1⟩;replace H:=Aa (H.Av hb1);clear hb1 HC;generalize w.heap.size=x at *;go_wp2_with fail;refine (HRN _).mono ?_;rintro e w2 ⟨t,kk,n,rfl,hb2,Ai3,HS⟩;replace H:=Aa (H.Av hb2);have HI:=Aa (FH.As0 (D:=N) (M:=M) HS.Ab);clear hb2 HRN HS;go_wp2_with ((with_reducible refine OS 7 ?_);(refine DX Ar (DY s t kk) (AU _ _ _) ?_;replace H:=Aa (H.alloc (DY s t kk) 141);(try simp only [LS] at H)));generalize w2.heap.size=a at *;generalize World.alloc _ _=w3 at *;replace H:=Aa (H.Dw 38 2);(try simp only [LS] at H);replace H:=Aa (H.add (Ai.refl _) (BS Wq []) (Dk _ _) GZ);(try simp only [LS] at H);go_loopg [9,10] n (fun gg s9 s10 wr=>∃ (k:Nat) (rows:List Rw) (B:Option Addr) (c:Nat) (t kk:Int),gg=n - k∧k≤n∧s10=.int .i64 k∧s9=.slice B k c∧Hid (rows.length=k)∧Hid (SL No w wr [Aw x 25 #[.slice DA N cN,.slice MB M cM],Aw a 141 (DY s t kk),Ce 38 2 (.slice B k c) k (rows.flatMap AY.cells),BS Wq rows])∧Hid (FH s (Qi N M s) (Jm N M) n k (rows.map Rw.Ac) t kk));case atStart=>exact ⟨0,[],none,0,t,kk,rfl,Xl,rfl,rfl,rfl,H,HI⟩
  case round=>
   clear H HI;obtain ⟨k,rows,B,c,t,kk,BR,hk,rfl,rfl,hac,H,HI⟩:=hrel;obtain ⟨W0,hW0⟩:∃ W0,W0=wr:=⟨_,rfl⟩;subst hW0;have Cs:=Aa BR;have Ar0:k≤300:=by omega
   clear BR;have c2:=(H.blk 1 rfl).Ap 2;by_cases hgo:kk=0∧k<n
   ·obtain ⟨rfl,hlt⟩:=hgo;obtain ⟨tn,rfl,htn,hE⟩:=HI.good;have Kv:=Aa (fun x t' k' (hS:Em s (Jm N M (s.drop tn)) t' k' x)=>FH.step hlt hE hS);clear hE HI;go_upto_region 10 with fail;replace H:=Aa (H.alloc #[.slice none 0 0,.slice none 0 0] 38);(try simp only [LS] at H);replace H:=Aa (H.Dw 9 1);(try simp only [LS] at H);have c0:=(H.blk 0 rfl).Ap 0;go_wp2_with fail;clear c0 c2;generalize W0.heap.size=y at *;generalize W0.alloc (.cells #[.slice none 0 0,.slice none 0 0] 38)=w5 at *;obtain ⟨o1,ho1⟩:∃ o1,o1=Bw NR N [] (s.drop tn):=⟨_,rfl⟩;have HI:Hid (FH s o1 NR N 0 [] tn 0):=.inr ⟨rfl,tn,rfl,htn,by rw [ho1,Nat.sub_zero]⟩;have HO1:=Aa ho1;clear ho1;have nN:Hid (∀ t ∈ ([]:List (List UInt8)),t.length≤16):=by show ∀ t ∈ ([]:List (List UInt8)),_;intro t ht;cases ht
    obtain ⟨t0,ht0⟩:∃ t0:Int,t0=tn:=⟨_,rfl⟩;obtain ⟨k0,hk0⟩:∃ k0:Int,k0=0:=⟨_,rfl⟩;rw [←ht0,←hk0] at H HI;clear ht0 hk0;go_loopg [40] N (fun gg s40 wx=>∃ (j:Nat) (ts:List (List UInt8)) (A:Option Addr) (c3:Nat) (t kk:Int),gg=N - j∧j≤N∧s40=.int .i64 j∧Hid (ts.length=j)∧Hid (∀ t ∈ ts,t.length≤16)∧Hid (SL No w wx [Aw x 25 #[.slice DA N cN,.slice MB M cM],Aw a 141 (DY s t kk),Ce 38 2 (.slice B k c) k (rows.flatMap AY.cells),BS Wq rows,Aw y 38 #[.slice A j c3,.slice none 0 0],Ce 9 1 (.slice A j c3) j (ts.map tx)])∧Hid (FH s o1 NR N j ts t kk));case atStart=>exact ⟨0,[],none,0,t0,k0,rfl,Xl,rfl,rfl,nN,H,HI⟩
    case round=>
     clear H HI nN t0 k0;obtain ⟨j,ts,A,c3,t,kk,hgj,hj,rfl,htc,nN,H,HI⟩:=hrel;have Lt:=Aa hgj;clear hgj;by_cases hjlt:j<N
     ·have HX:=Aa (Uk s t kk 16 HI.st hs Xl Xl);have HNx:=Aa (fun t' k' x (h:OQ s NR t kk t' k' x)=>HI.next hjlt h);clear HI;go_wp2_with ((with_reducible refine OP 43 ?_);(refine Bf Ar (H.blk 1 rfl) ?_));refine (HX _).mono ?_;rintro e w6 ⟨t1,k1,lb,rfl,hb6,hlb,hN⟩;replace H:=Aa (H.Av hb6);have HI2:=Aa (HNx _ _ _ hN.trm);have HIs:=Aa (fun w=>WV lb w Xl);have HTL2:Hid (∀ y ∈ ts++[lb],y.length≤16):=by
       intro y hy;rcases Ec.1 hy with hy|hy
       ·exact nN y hy
       ·rw [Ef] at hy;subst hy;omega
      clear hb6 HX HNx hN nN;go_upto_region 13 with ((with_reducible refine OS 12 ?_);(refine DX Ar (DY s t1 k1) (AU _ _ _) ?_;replace H:=Aa (H.alloc (DY s t1 k1) 141);(try simp only [LS] at H)));refine Ep (S:=fun _=>True) Za0 trivial fun hHeld=>?_;replace H:=Aa (H.drew);refine Bd KF ?_;refine Oh Ml MN (fun KK Ad=>?_) fun KK Ad=>?_
      ·refine Je rfl Ar (.tmp 12) rfl _ rfl (H.blk 6 rfl) rfl ?_;refine Aj Ad trivial fun hHeld=>?_;clear Ad KK;refine BG MN fun KK Ad=>?_;go_simp;refine (HIs _).mono ?_;rintro e' w3 ⟨rfl,rfl⟩;exact Zj9
      ·go_simp;refine (HIs _).mono ?_;rintro e' w3 ⟨rfl,rfl⟩;refine Aj Ad trivial fun hHeld=>?_;clear Ad KK;refine BG Ml fun KK Ad=>?_;refine Je rfl Ar (.tmp 12) rfl _ rfl (H.blk 6 rfl) rfl ?_;exact Zj9
     ·obtain rfl:j=N:=by omega
      have zI:=Aa (HI.done (.inr (Ci _)));have HI2:=Aa (FH.As1 (M:=M) zI.Ab);clear HI;have c6:=(H.blk 0 rfl).Ap 1;go_wp2_with fail;clear c6;replace H:=Aa (H.Dw 2 1);(try simp only [LS] at H);have HVL:Hid (∀ t ∈ ([]:List Int),AZ t):=by show ∀ t ∈ ([]:List Int),_;intro t ht;cases ht
      obtain ⟨t1,ht1⟩:∃ t1:Int,t1=t:=⟨_,rfl⟩;obtain ⟨k1,hk1⟩:∃ k1:Int,k1=kk:=⟨_,rfl⟩;rw [←ht1,←hk1] at H HI2 zI;clear ht1 hk1;go_loopg [61] M (fun gg s61 wx=>∃ (i:Nat) (vs:List Int) (B2:Option Addr) (e:Nat) (t kk:Int),gg=M - i∧i≤M∧s61=.int .i64 i∧Hid (vs.length=i)∧Hid (∀ t ∈ vs,AZ t)∧Hid (SL No w wx [Aw x 25 #[.slice DA j cN,.slice MB M cM],Aw a 141 (DY s t kk),Ce 38 2 (.slice B k c) k (rows.flatMap AY.cells),BS Wq rows,Aw y 38 #[.slice A j c3,.slice B2 i e],Ce 9 1 (.slice A j c3) j (ts.map tx),Ce 2 1 (.slice B2 i e) i (vs.map (Value.int .i64))])∧Hid (FH s (oVs M o1) GY M i vs t kk));case atStart=>exact ⟨0,[],none,0,t1,k1,rfl,Xl,rfl,rfl,HVL,H,HI2⟩
      case round=>
       clear H HI2 HVL;obtain ⟨i,vs,B2,e,t,kk,hgi,hi,rfl,hvc,HVL,H,HI⟩:=hrel;have Hgi:=Aa hgi;clear hgi;by_cases hilt:i<M
       ·have HX:=Aa (O0 s t kk HI.st hs);have HNx:=Aa (fun t' k' x (h:OQ s GY t kk t' k' x)=>HI.next hilt h);clear HI;go_wp2_with ((with_reducible refine OP 64 ?_);(refine Bf Ar (H.blk 1 rfl) ?_));refine (HX _).mono ?_;rintro e w6 ⟨t2,k2,v,rfl,hb6,hv,hN⟩;replace H:=Aa (H.Av hb6);have HI2:=Aa (HNx _ _ _ hN.Ab);have HVL2:Hid (∀ y ∈ vs++[v],AZ y):=by
         intro y hy;rcases Ec.1 hy with hy|hy
         ·exact HVL y hy
         ·rw [Ef] at hy;subst hy;exact hv
        clear hb6 HX HNx hN HVL hv;go_wp2_with (first|((with_reducible refine OS 14 ?_);(refine DX Ar (DY s t2 k2) (AU _ _ _) ?_;replace H:=Aa (H.alloc (DY s t2 k2) 141);(try simp only [LS] at H)))|((with_reducible refine OP 68 ?_);(refine Bf Ar (H.blk 7 rfl) ?_))|((with_reducible refine OS 7 ?_);(refine Cj Ar H 1 rfl (DY s t2 k2) (AU _ _ _) ?_;clear H;intro wq H;(try simp only [LS] at H);have c1:=(H.blk 4 rfl).Ap 1))|((with_reducible refine OP 73 ?_);(replace H:=Aa (H.alloc #[.int .i64 v] 2);(try simp only [LS] at H);refine Az rfl (.tmp 70) (.tmp 72) _ rfl Yl 0 (Bj _) _ i _ rfl (H.row 6 rfl) _ 1 1 [.int .i64 v] rfl (AV (H.blk 8 rfl) rfl) Za2 Za4 Xl ?_;intro vq wq AJ Aq AQ;replace H:=Aa (H.setRow 6 rfl Aq AJ AQ);(try simp only [LS] at H);clear AJ Aq AQ;obtain ⟨B9,e9,rfl,_⟩:=Ao (H.row 6 rfl);clear c1;have c1:=(H.blk 4 rfl).Ap 1;have f1:=(H.blk 4 rfl).frozen 1)));replace H:=Aa (H.setCell 4 rfl 1 (.slice B9 (i+1) e9));(try simp only [LS] at H);replace H:=Aa (H.Fg [0,1,2,3,4,5,6] Za1 uH);(try simp only [LS] at H);clear c1 f1;go_wp2_with fail;go_roundg (M - (i+1));case rel=>exact ⟨i+1,vs++[v],B9,e9,t2,k2,rfl,Xl,by go_num,by show _=_;rw [Cn,hvc.Ab];(try rfl),HVL2,by rw [Cf];exact H,HI2⟩
        case measure=>rw [Hgi.Ab];omega
       ·have HSE:=HI.done (.inr Xl);have HI3:Hid (FH s (Qi j M s) (Jm j M) n (k+1) (rows.map Rw.Ac++[⟨ts,vs⟩]) t kk):=Kv _ _ _ (Em.Jm (by rw [←HO1.Ab];exact zI.Ab) (by rw [←HO1.Ab];exact HSE));clear HI HSE zI Kv HO1;replace H:=Aa (H.both 5 6 Xl rfl rfl (Wq ⟨⟨A,j,c3,ts⟩,⟨B2,i,e,vs⟩⟩) (rE (H.get 5 rfl) (H.get 6 rfl) nN HVL hn16 Xl) (fun g hg=>hg));(try simp only [LS] at H);go_wp2_with (first|((with_reducible refine OP 77 ?_);(refine Bf KL (H.blk 4 rfl) ?_))|((with_reducible refine OP 78 ?_);(refine AP rfl fU (.tmp 77) rfl (#[.slice A j c3,.slice B2 i e]) rfl rfl Xl ?_;replace H:=Aa (H.Co ((Ai.refl _).alloc _) (CE _ 38 (#[.slice A j c3,.slice B2 i e]) _ rfl));(try simp only [LS] at H)))|((with_reducible refine OP 79 ?_);(refine Az rfl (.tmp 76) (.tmp 78) _ rfl fU 0 (Bj _) _ k _ rfl (H.row 2 rfl) _ 1 1 _ rfl (Rd.BC (H.row 6 rfl)) (Am7 _ _ _ _ _ _) Za4 Xl ?_;intro vq wq AJ Aq AQ;replace H:=Aa (H.setRow 2 rfl Aq AJ AQ);(try simp only [LS] at H);clear AJ Aq AQ;obtain ⟨B9,e9,rfl,_⟩:=Ao (H.row 2 rfl))));replace H:=Aa (H.both 3 5 Xl rfl rfl (BS Wq (rows++[⟨⟨A,j,c3,ts⟩,⟨B2,i,e,vs⟩⟩])) (Bl (H.get 3 rfl) (H.get 5 rfl)) Cg);(try simp only [LS] at H);replace H:=Aa (H.Fg [0,1,2,3] Za1 uH);(try simp only [LS] at H);go_wp2_with fail;go_roundg (n - (k+1));case rel=>exact ⟨k+1,rows++[⟨⟨A,j,c3,ts⟩,⟨B2,i,e,vs⟩⟩],B9,e9,t,kk,rfl,Xl,by go_num,rfl,by show _=_;rw [Cn,hac.Ab];(try rfl),by rw [EM,Df,Gt,EO];exact H,by rw [Cf];exact HI3⟩
        case measure=>rw [Cs.Ab];omega
   ·have Oe:=Aa (HI.done (by by_cases h0:kk=0;exact .inr Xl;exact .inl h0));have hg2:(decide ((k:Int)<n)=false∧decide (k<n)=false∧¬ k<n)∨(decide ((k:Int)<n)=true∧decide (k<n)=true∧k<n∧(kk==0)=false):=by
     by_cases h:k<n
     ·right;refine ⟨by simp<;>omega,by simp<;>omega,h,by simp;intro h0;exact hgo ⟨h0,h⟩⟩
     ·left;refine ⟨by simp<;>omega,by simp<;>omega,h⟩
    clear HI hgo;replace H:=Aa (H.both 2 3 Xl rfl rfl (eY ⟨B,k,c,rows⟩) (WY (H.get 2 rfl) (H.get 3 rfl) Ar0) (fun g hg=>hg));(try simp only [LS] at H);rcases hg2 with ⟨g1,g2,g3⟩|⟨g1,g2,g3,g4⟩
    ·go_wp2_with ((with_reducible refine OP 80 ?_);(refine Bf Ar (H.blk 1 rfl) ?_));refine (Rz s t kk _).mono ?_;rintro e w7 ⟨rfl,Pz⟩;replace H:=Aa (H.Av Pz);clear Pz c2 g1 g2;by_cases hkk:kk=0
     ·subst hkk;obtain ⟨tn,rfl,htn,hP⟩:=Oe.good;by_cases hr:s.drop tn=[]
      ·have HT1:Hid (De dc s=if CR dc (rows.map Rw.Ac)=0 then (rows.map Rw.Ac,0) else ([],CR dc (rows.map Rw.Ac))):=by show _=_;rw [HT0.Ab,hP];simp only;rw [Al hr]
       rw [show Io s tn 0=0 by unfold Io;rw [Ak Xl,Al (by have:=CW List.length hr;simp at this;omega)]];clear hP hr HT0 Oe;go_wp2_with ((with_reducible refine OP 84 ?_);(refine Bf Bb (H.blk 0 rfl) ?_));refine (HBC ⟨B,k,c,rows⟩ _ (H.at_ 2 rfl).1 H.to).mono ?_;rintro e w8 ⟨rfl,iY⟩;replace H:=Aa (H.Av iY);clear iY HBC;by_cases hE2:CR dc (rows.map Rw.Ac)=0
       ·have HT:Hid (De dc s=(rows.map Rw.Ac,0)):=by show _=_;rw [HT1.Ab,Al hE2]
        simp only [hE2];clear hE2 HT1;go_wp2;go_ret2;rw [HT.Ab];exact ⟨⟨B,k,c,rows⟩,rfl,rfl,H.to,H.get 2 rfl,H.new 2 rfl⟩
       ·have HT:Hid (De dc s=([],CR dc (rows.map Rw.Ac))):=by show _=_;rw [HT1.Ab,Ak hE2]
        simp only;generalize CR dc (rows.map Rw.Ac)=E at *;have dk:(E==0)=false:=by simpa using hE2
        have dk2:(E !=0)=true:=by simpa using hE2
        clear hE2 HT1;go_wp2;go_ret2;rw [HT.Ab];exact ⟨⟨none,0,0,[]⟩,rfl,rfl,H.to,Fw _,GQ⟩
      ·have HT:Hid (De dc s=([],3)):=by show _=_;rw [HT0.Ab,hP];simp only;rw [Ak hr]
       rw [show Io s tn 0=3 by unfold Io;rw [Ak Xl,Ak (fun h=>hr (EN Xl))]];clear hP hr HT0 Oe;go_wp2;go_ret2;rw [HT.Ab];exact ⟨⟨none,0,0,[]⟩,rfl,rfl,H.to,Fw _,GQ⟩
     ·exact Zo2
    ·have hkk:kk≠0:=by simpa using g4
     clear g4;go_wp2_with ((with_reducible refine OP 80 ?_);(refine Bf Ar (H.blk 1 rfl) ?_));refine (Rz s t kk _).mono ?_;rintro e w7 ⟨rfl,Pz⟩;replace H:=Aa (H.Av Pz);clear Pz c2 g1 g2;exact Zo2
 ·have HT:Hid (De dc s=([],Ay dc)):=by show _=_;unfold De;rw [Al hE]
  have dE:(Ay dc==0)=false:=by simpa using hE
  have dE2:(Ay dc !=0)=true:=by simpa using hE
  clear hE;go_enter func72,ntmps72;go_wp2_with ((with_reducible refine OP 16 ?_);(refine Bf Bb (H.blk 0 rfl) ?_));exact Zs2
theorem vZ (x:JZ) (E:Ct):Eb x.cs 0 E.cs.toList=(JZ.mk E x.rows x.has x.closed).cs:=by
 simp [Eb]
theorem yS {c:CC} (hE:Bu c=0) (hc:Vd c) {l:List (List Int)} (h:(Fx c l).2=0):(Fx c l).1.sc=c.sc:=by
 obtain ⟨v1,v2⟩:=Yb hE hc l;by_cases hg:sF c l
 ·rw [v1 hg];rfl
 ·exact absurd h (v2 hg)
def Ap1 (T:Nat→Prop) (o:MC × Int) (w:World) (e:Ending) (w':World):Prop:=
 ∃ y:JZ,e=.returned (.tuple #[.agg y.cs,.int .i64 o.2])∧y.Ac=o.1∧Ai w w'∧ET T w' fun w=>y.rd w
theorem Zu3 {p:Prop} (h:p:=by (try simp only [Act.put,LP]);refine Bc (Au rfl Be rfl (H.blk 1 rfl) rfl) rfl ?_;rw [HO.Ab];exact ⟨x,rfl,rfl,H.to,Ns _ H.to⟩):p:=h
theorem gY (T:Nat→Prop) (x:JZ) (b:List UInt8) (w:World) (hT:∀ g,T g→g<w.heap.size) (hx:ET T w fun w=>x.rd w) (hb:b.length≤140737488351232) (hi:MInv x.Ac) (hh:x.has=true):
 Calls prog 43 #[.agg x.cs,.string ⟨b.toArray⟩] w (Ap1 T (DF x.Ac b) w):=by
 have HX:Hid (∀ w',Ai w w'→x.rd w'):=fun w' h=>hx w' (Fr.MR h)
 have Ns:=Aa (fun w' (h:Ai w w')=>hx.Av h);have hx0:=hx.now;have hsm:=hx0.sm;have nO:=Aa hsm;have HBT:=Aa (fun w' (h:Ai w w')=>kT x.ct.sc b w' (HX w' h).ct.sc hb hsm.1 hsm.2.1 hsm.2.2);have rC:x.rows.n≤4000:=by have h1:=hi.len;have h2:=hx0.rows.len;have h3:x.Ac.rows.length=x.rows.l.length:=AR _;omega
 have Yw:=Aa hT;have HI:=Aa hi;have HHH:=Aa hh;have H:=Aa (((SL.start No w).alloc x.cs 65).alloc #[.slice none 0 0,.slice none 0 0,.int .i64 0,.int .i64 0,.int .i64 0,.int .i64 0,.int .i64 0,.int .i64 0,.int .i64 0,.slice none 0 0,.bool false,.bool false] 65);(try simp only [LS] at H);clear hT hx hb hx0 hsm hi hh;go_enter func43,ntmps43;go_upto_region 1 with fail;generalize w.heap.size+1=y at H ⊢;generalize w.heap.size=q at H ⊢;generalize World.alloc (World.alloc _ _) _=w0 at H ⊢;go_wp2_with ((with_reducible refine OP 15 ?_);(refine Af rfl Bb (.tmp 14) rfl q (0) rfl x.ct.sc.cs rfl ((H.blk 0 rfl).part 0 x.ct.sc.cs.toList rfl) ?_));refine (HBT _ H.to).mono ?_;rintro e w1 ⟨X,rfl,hX,hb1,hN⟩;replace H:=Aa (H.add hb1 _ hN.1 hN.2);(try simp only [LS] at H);clear hb1 hN HBT;obtain ⟨O,hO⟩:∃ O,O=De x.ct.sc.Ac b:=⟨_,rfl⟩;rw [←hO] at hX ⊢;have UZ:=Aa hO;clear hO;obtain ⟨R,K⟩:=O;simp only at hX ⊢;by_cases hK:K=0
 ·subst hK;have hB:CR x.ct.sc.Ac R=0:=by have h:=Qy (s:=x.ct.sc.Ac) (b:=b) (by rw [←UZ.Ab]);rw [←UZ.Ab] at h;exact h
  have hXr:=(H.at_ 2 rfl:X.rd w1∧X.n≤300);have HXL:Hid (X.l.length=X.n):=hXr.1.len;have fO:Hid (X.l.map Rw.Ac=R):=hX;have HVR:Hid ((X.l.map (fun r=>r.vs)).map (fun y=>y.l)=R.map (·.vs)):=by show _=_;rw [←hX,Ri,Ri];rfl
  have HBE:=Aa hB;have hx3:=hXr.2;clear hB hXr hX;go_upto_region 5 with fail;replace H:=Aa (H.Dw 36 1);(try simp only [LS] at H);go_upto_region 6 with fail;obtain ⟨n,hn⟩:∃ n,n=X.n:=⟨_,rfl⟩;rw [←hn] at hx3 HXL ⊢;have Vh:=Aa hn;clear hn;go_loopg [8,26] n (fun gg s8 s26 wr=>∃ (k:Nat) (A:Option Addr) (c':Nat),gg=n - k∧k≤n∧s8=.slice A k c'∧s26=.int .i64 k∧Hid (SL No w wr [Aw q 65 x.cs,Aw y 65 #[.slice none 0 0,.slice none 0 0,.int .i64 0,.int .i64 0,.int .i64 0,.int .i64 0,.int .i64 0,.int .i64 0,.int .i64 0,.slice none 0 0,.bool false,.bool false],eY X,Ce 36 1 (.slice A k c') k ((X.l.take k).map (fun r=>r.vs.v))]));case atStart=>exact ⟨0,none,0,rfl,Xl,rfl,rfl,H⟩
  case round=>
   clear H;obtain ⟨k,A,c',BR,hk,rfl,rfl,H⟩:=hrel;have Cs:=Aa BR;clear BR;by_cases hlt:k<n
   ·obtain ⟨bb,oo,r,hA,hbb,nL,hro,hrg⟩:=(H.at_ 2 rfl).1.K8 (k:=k) Zf3;have nP:=Aa hrg;have HTS:Hid ((X.l.take k).map (fun r=>r.vs.v)++[r.vs.v]=(X.l.take (k+1)).map (fun r=>r.vs.v)):=by show _=_;rw [Ra,nL,Cf];rfl
    have vF:=Aa hA;have i0:(0:Int)≤k:=by omega
    have i1:(k:Int)<n:=by omega
    clear hbb nL hro hrg;rw [hA];clear hA;go_upto_region 8 with (first|((with_reducible refine OP 29 ?_);(refine Af rfl KL (.tmp 28) rfl bb (oo+k * 2) rfl r.cs rfl nP.Ab ?_))|((with_reducible refine OS 10 ?_);(refine DX KL (r.cs) (Ui r) ?_;replace H:=Aa (H.alloc (r.cs) 38);(try simp only [LS] at H))));(try simp only [Act.put,LP]);(try simp only [LS] at H);clear nP;generalize wr.heap.size=rz at H ⊢;generalize World.alloc wr _=w3 at H ⊢;have cv:w3.cell? ⟨rz,1,none⟩=some (.slice r.vs.A r.vs.n r.vs.c):=(H.blk 4 rfl).cell 1;go_upto_region 9 with ((with_reducible refine OP 34 ?_);(replace H:=Aa (H.alloc #[.slice r.vs.A r.vs.n r.vs.c] 36);(try simp only [LS] at H);refine Az rfl (.tmp 30) (.tmp 33) _ rfl F9 0 (Bj _) _ k _ rfl (H.row 3 rfl) _ 1 1 _ rfl (AV (H.blk 5 rfl) rfl) Za2 Za4 Xl ?_;intro vq wq AJ Aq AQ;replace H:=Aa (H.setRow 3 rfl Aq AJ AQ);(try simp only [LS] at H);clear AJ Aq AQ;obtain ⟨A2,c2,rfl,_⟩:=Ao (H.row 3 rfl)));(try simp only [Act.put,LP]);clear cv;replace H:=Aa (H.Fg [0,1,2,3] Za1 uH);(try simp only [LS] at H);have E2:(X.l.take k).map (fun r=>r.vs.v)++[Value.slice r.vs.A r.vs.n r.vs.c]=(X.l.take (k+1)).map (fun r=>r.vs.v):=HTS.Ab;replace H:Hid (SL No w wq [Aw q 65 x.cs,Aw y 65 #[.slice none 0 0,.slice none 0 0,.int .i64 0,.int .i64 0,.int .i64 0,.int .i64 0,.int .i64 0,.int .i64 0,.int .i64 0,.slice none 0 0,.bool false,.bool false],eY X,Ce 36 1 (.slice A2 (k+1) c2) (k+1) ((X.l.take (k+1)).map (fun r=>r.vs.v))]):=by rw [←E2];exact H
    clear E2 HTS;go_wp2_with fail;rw [←vF.Ab];go_roundg (n - (k+1));case rel=>exact ⟨k+1,A2,c2,rfl,Xl,rfl,by go_num,H⟩
    case measure=>rw [Cs.Ab];omega
   ·have hkn:k=n:=by omega
    subst hkn;have ho:(X.l.take k).map (fun r=>r.vs.v)=(X.l.map (fun r=>r.vs)).flatMap AY.cells:=by rw [EU (by rw [HXL.Ab];exact Ci _),jG,Ri];rfl
    have HRV:=Aa (fun w' (hs:x.ct.rd w') (h1:w'.ownsRow 0 36 1 (.slice A k c') k ((X.l.take k).map (fun r=>r.vs.v))) (h2:X.rd w')=>eU x.ct ⟨A,k,c',X.l.map (fun r=>r.vs)⟩ w' hs nO (by rw [ho] at h1;exact Rd.BC h1) (fun y hy=>by obtain ⟨r,hr,rfl⟩:=Kc.1 hy;exact Rw.rd.vs (h2.all r hr)) (by show k≤_;omega));clear ho;go_wp2_with ((with_reducible refine OP 38 ?_);(refine Af rfl BI (.tmp 37) rfl q (0) rfl x.ct.cs rfl ((H.blk 0 rfl).part 0 x.ct.cs.toList rfl) ?_));refine (HRV _ (HX _ H.to).ct (H.row 3 rfl) (H.at_ 2 rfl).1).mono ?_;rintro e w5 ⟨D,rfl,hD,Fj,rW,hb5,hDs⟩;replace H:=Aa (H.Av hb5);rw [HVR.Ab] at hD ⊢;have HDW:Hid (∀ w',x.rd w'→D.rd w'):=fun w' h=>by
     rcases hDs with e|e
     ·exact ⟨by rw [e];exact h.ct.sc,Fj.fa,Fj.p0,Fj.q0,Fj.p1,Fj.q1,Fj.p2,Fj.q2⟩
     ·rw [e];exact NF w'
    have HDM:=Aa rW;clear hb5 hDs Fj rW HRV;obtain ⟨G,hG⟩:∃ G,G=Fx x.ct.Ac (R.map (·.vs)):=⟨_,rfl⟩;rw [←hG] at hD ⊢;have HG:=Aa hG;clear hG;obtain ⟨GC,GK⟩:=G;simp only at hD ⊢;have HD:=Aa hD;clear hD;go_upto_region 11 with ((with_reducible refine OS 11 ?_);(refine DX BI (D.cs) (Oc D) ?_;replace H:=Aa (H.alloc (D.cs) 63);(try simp only [LS] at H)));(try simp only [Act.put,LP]);(try simp only [LS] at H);generalize w5.heap.size=z at H ⊢;generalize World.alloc w5 _=w6 at H ⊢;by_cases hK:GK=0
    ·subst hK;have HO:Hid (DF x.Ac b=(⟨GC,x.Ac.rows++R.map (Gp x.ct.sc.Ac),x.has,x.closed⟩,0)):=by
      show _=_;unfold DF;rw [show x.Ac.cat=x.ct.Ac from rfl,show x.ct.Ac.sc=x.ct.sc.Ac from rfl,←UZ.Ab];simp only;rw [←HG.Ab]
      rfl
     have hgs:D.sc.Ac=x.ct.sc.Ac:=by
      have h1:=yS (HI.err HHH.Ab) HI.ok (l:=R.map (·.vs)) (by rw [show x.Ac.cat=x.ct.Ac from rfl,←HG.Ab]);rw [show x.Ac.cat=x.ct.Ac from rfl,←HG.Ab] at h1;have h2:D.sc.Ac=D.Ac.sc:=rfl;rw [h2,HD.Ab];exact h1
     have HFQ:Hid ((X.l.map Rw.Ac).map (Gp D.sc.Ac)=R.map (Gp x.ct.sc.Ac)):=by show _=_;rw [hgs,fO.Ab]
     have HBF:=Aa (fun w' (hs:D.sc.rd w') (hr:X.rd w')=>eX D.sc X w' hs hr HDM.1 HDM.2.1 HDM.2.2 (by rw [hgs,fO.Ab];exact HBE.Ab));have HDR:Hid (∀ w',x.rd w'→D.rd w'):=HDW.Ab;replace HDW:Hid (∀ w',Ai w w'→D.sc.rd w'):=fun w' h=>(HDR w' (HX w' h)).sc
     rw [←Vh.Ab] at HBF;clear UZ HG HBE hgs;go_upto_region 14 with (first|((with_reducible refine OP 47 ?_);(refine Bf BI (H.blk 4 rfl) ?_))|((with_reducible refine OS 48 ?_);refine Bq rfl BI (.tmp 48) (.tmp 47) rfl q 0 rfl (H.blk 0 rfl) D.cs rfl uH rfl (Oc D) ?_;intro wq bq Aq;rw [vZ] at bq;replace H:=Aa (H.AA 0 rfl Aq bq);(try simp only [LS] at H);clear Aq bq));(try simp only [Act.put,LP]);refine Ep (S:=fun W=>W.rangeAt q 0 D.sc.cs.toList) Za0 ((H.blk 0 rfl).part 0 D.sc.cs.toList rfl) fun hHeld=>?_;replace H:=Aa (H.drew);generalize World.drew _=w8 at *;refine Bd KF ?_;refine Bd LJ ?_;refine Bd KW ?_;refine Lx (i:=6) (v:=.agg D.sc.cs) MI Za0 Za0 Za0 Za7 (DU Bb (by rfl) (.tmp 54) rfl q 0 rfl (fun w h=>h) rfl) Zb0 ?_;try simp only [Act.put,LP]
     refine Bd Lj ?_;refine Oh Ml MN (fun KK Ad=>?_) fun KK Ad=>?_
     ·refine Vo rfl rfl (e:=97) (fun w=>by kernel_rfl) ?_;replace H:=Aa (H.Co ((Ai.refl _).alloc _) (Uv _ 97 11));(try simp only [LS] at H);refine Aj Ad ((H.blk 0 rfl).part 0 D.sc.cs.toList rfl) fun hHeld=>?_;clear Ad KK;refine BG MN fun KK Ad=>?_;have r9:=(H.blk 0 rfl).cell 9;replace r9:=r9.trans (show _=some (Value.slice x.rows.A x.rows.n x.rows.c) from rfl);go_simp;clear r9;refine Aj Ad ((H.blk 0 rfl).part 0 D.sc.cs.toList rfl) fun hHeld=>?_;clear Ad KK;refine BG Ky fun KK Ad=>?_;refine AX rfl (.tmp 49) (.tmp 51) _ rfl EI 0 (Bj _) _ 0 _ rfl (H.row 5 rfl) x.rows.A x.rows.n x.rows.c _ rfl ((HX _ H.to).rows.rd) (ND x.rows.l) Za4 Xl ?_;intro vq wq AJ Aq AQ;replace H:=Aa (H.setRow 5 rfl Aq AJ AQ);(try simp only [LS] at H);clear AJ Aq AQ;obtain ⟨CA,cc,rfl,_⟩:=Ao (H.row 5 rfl);simp only [FI,FC] at H ⊢;refine Aj Ad ((H.blk 0 rfl).part 0 D.sc.cs.toList rfl) fun hHeld=>?_;clear Ad KK;refine BG Mk fun KK Ad=>?_;go_simp;refine (HBF _ (HDW _ H.to) (H.at_ 2 rfl).1).mono ?_;rintro e' w9 ⟨F,rfl,hFn,hFc,rP,hN⟩;replace H:=Aa (H.add rP _ hN.1 hN.2);(try simp only [LS] at H);have zM:Hid (F.l.map Br.Ac=R.map (Gp x.ct.sc.Ac)):=hFc.trans HFQ.Ab;have hF3:F.n≤300:=(H.at_ 6 rfl).2;clear hFn hFc rP hN;refine Aj Ad ((H.blk 0 rfl).part 0 D.sc.cs.toList rfl) fun hHeld=>?_;clear Ad KK;refine BG MH fun KK Ad=>?_;refine AX rfl (.tmp 52) (.tmp 57) _ rfl EI 0 (Bj _) _ x.rows.n _ rfl (H.row 5 rfl) F.A F.n F.c _ rfl ((H.at_ 6 rfl).1.rd) (ND F.l) Za4 Xl ?_;intro vq wq AJ Aq AQ;replace H:=Aa (H.setRow 5 rfl Aq AJ AQ);(try simp only [LS] at H);clear AJ Aq AQ;obtain ⟨A2,c2,rfl,_⟩:=Ao (H.row 5 rfl);refine Aj Ad ((H.blk 0 rfl).part 0 D.sc.cs.toList rfl) fun hHeld=>?_;clear Ad KK;refine Bd FO ?_;refine BG Ga fun KK Ad=>?_;have cz9:=(H.blk 0 rfl).Ap 9;have fz9:=(H.blk 0 rfl).frozen 9;go_simp
      replace H:=Aa (H.setCell 0 rfl 9 (.slice A2 (x.rows.n+F.n) c2));(try simp only [LS] at H);clear cz9 fz9;refine Aj Ad ((H.blk 0 rfl).part 0 D.sc.cs.toList rfl) fun hHeld=>?_;clear Ad KK;refine BZ ?_;clear hHeld;clear HBF;go_wp2_with (first|((with_reducible refine OP 60 ?_);(refine Bf Be (H.blk 0 rfl) ?_))|((with_reducible refine OS 4 ?_);(refine Cj Be H 1 rfl ((JZ.mk D ⟨A2,x.rows.n+F.n,c2,x.rows.l++F.l⟩ x.has x.closed).cs) (Dt _) ?_;clear H;intro wq H;(try simp only [LS] at H))));(try simp only [Act.put,LP]);refine Bc (Au rfl Be rfl (H.blk 1 rfl) rfl) rfl ?_;have h1:=(ET.LY (T:=T) (r:=Ce 97 11 (.slice A2 (x.rows.n+F.n) c2) (x.rows.n+F.n) (x.rows.l.flatMap AY.cells++F.l.flatMap AY.cells)) ⟨H.get 5 rfl,H.new 5 rfl⟩ Yw.Ab);have h2:=(ET.LY (T:=T) (r:=wR F) ⟨H.get 6 rfl,H.new 6 rfl⟩ Yw.Ab);have h4:=Ns _ H.to;rw [HO.Ab];refine ⟨(JZ.mk D ⟨A2,x.rows.n+F.n,c2,x.rows.l++F.l⟩ x.has x.closed),rfl,?_,H.to,fun wz kz=>⟨HDR wz (h4 wz kz),HDM.Ab,RP (x:=⟨A2,x.rows.n+F.n,c2,x.rows.l++F.l⟩) Zh5 (fun a ha=>(Ec.1 ha).elim ((h4 wz kz).rows.all a) ((h2 wz kz).1.all a)) Zh6⟩⟩;show MC.mk D.Ac (cons (x.rows.l++F.l)) x.has x.closed=_;rw [HD.Ab];unfold cons;rw [Cf,zM.Ab]
      rfl
     ·have r9:=(H.blk 0 rfl).cell 9;replace r9:=r9.trans (show _=some (Value.slice x.rows.A x.rows.n x.rows.c) from rfl);go_simp;clear r9;refine Aj Ad ((H.blk 0 rfl).part 0 D.sc.cs.toList rfl) fun hHeld=>?_;clear Ad KK;refine BG Ml fun KK Ad=>?_;refine Vo rfl rfl (e:=97) (fun w=>by kernel_rfl) ?_;replace H:=Aa (H.Co ((Ai.refl _).alloc _) (Uv _ 97 11));(try simp only [LS] at H);refine Aj Ad ((H.blk 0 rfl).part 0 D.sc.cs.toList rfl) fun hHeld=>?_;clear Ad KK;refine BG Ky fun KK Ad=>?_;refine AX rfl (.tmp 49) (.tmp 51) _ rfl EI 0 (Bj _) _ 0 _ rfl (H.row 5 rfl) x.rows.A x.rows.n x.rows.c _ rfl ((HX _ H.to).rows.rd) (ND x.rows.l) Za4 Xl ?_;intro vq wq AJ Aq AQ;replace H:=Aa (H.setRow 5 rfl Aq AJ AQ);(try simp only [LS] at H);clear AJ Aq AQ;obtain ⟨CA,cc,rfl,_⟩:=Ao (H.row 5 rfl);simp only [FI,FC] at H ⊢;refine Aj Ad ((H.blk 0 rfl).part 0 D.sc.cs.toList rfl) fun hHeld=>?_;clear Ad KK;refine BG Mk fun KK Ad=>?_;go_simp;refine (HBF _ (HDW _ H.to) (H.at_ 2 rfl).1).mono ?_;rintro e' w9 ⟨F,rfl,hFn,hFc,rP,hN⟩;replace H:=Aa (H.add rP _ hN.1 hN.2);(try simp only [LS] at H);have zM:Hid (F.l.map Br.Ac=R.map (Gp x.ct.sc.Ac)):=hFc.trans HFQ.Ab;have hF3:F.n≤300:=(H.at_ 6 rfl).2;clear hFn hFc rP hN;refine Aj Ad ((H.blk 0 rfl).part 0 D.sc.cs.toList rfl) fun hHeld=>?_;clear Ad KK;refine BG MH fun KK Ad=>?_;refine AX rfl (.tmp 52) (.tmp 57) _ rfl EI 0 (Bj _) _ x.rows.n _ rfl (H.row 5 rfl) F.A F.n F.c _ rfl ((H.at_ 6 rfl).1.rd) (ND F.l) Za4 Xl ?_;intro vq wq AJ Aq AQ;replace H:=Aa (H.setRow 5 rfl Aq AJ AQ);(try simp only [LS] at H);clear AJ Aq AQ;obtain ⟨A2,c2,rfl,_⟩:=Ao (H.row 5 rfl);refine Aj Ad ((H.blk 0 rfl).part 0 D.sc.cs.toList rfl) fun hHeld=>?_;clear Ad KK;refine Bd FO ?_;refine BG Ga fun KK Ad=>?_;have cz9:=(H.blk 0 rfl).Ap 9;have fz9:=(H.blk 0 rfl).frozen 9;go_simp
      replace H:=Aa (H.setCell 0 rfl 9 (.slice A2 (x.rows.n+F.n) c2));(try simp only [LS] at H);clear cz9 fz9;refine Aj Ad ((H.blk 0 rfl).part 0 D.sc.cs.toList rfl) fun hHeld=>?_;clear Ad KK;refine BZ ?_;clear hHeld;clear HBF;go_wp2_with (first|((with_reducible refine OP 60 ?_);(refine Bf Be (H.blk 0 rfl) ?_))|((with_reducible refine OS 4 ?_);(refine Cj Be H 1 rfl ((JZ.mk D ⟨A2,x.rows.n+F.n,c2,x.rows.l++F.l⟩ x.has x.closed).cs) (Dt _) ?_;clear H;intro wq H;(try simp only [LS] at H))));(try simp only [Act.put,LP]);refine Bc (Au rfl Be rfl (H.blk 1 rfl) rfl) rfl ?_;have h1:=(ET.LY (T:=T) (r:=Ce 97 11 (.slice A2 (x.rows.n+F.n) c2) (x.rows.n+F.n) (x.rows.l.flatMap AY.cells++F.l.flatMap AY.cells)) ⟨H.get 5 rfl,H.new 5 rfl⟩ Yw.Ab);have h2:=(ET.LY (T:=T) (r:=wR F) ⟨H.get 6 rfl,H.new 6 rfl⟩ Yw.Ab);have h4:=Ns _ H.to;rw [HO.Ab];refine ⟨(JZ.mk D ⟨A2,x.rows.n+F.n,c2,x.rows.l++F.l⟩ x.has x.closed),rfl,?_,H.to,fun wz kz=>⟨HDR wz (h4 wz kz),HDM.Ab,RP (x:=⟨A2,x.rows.n+F.n,c2,x.rows.l++F.l⟩) Zh5 (fun a ha=>(Ec.1 ha).elim ((h4 wz kz).rows.all a) ((h2 wz kz).1.all a)) Zh6⟩⟩;show MC.mk D.Ac (cons (x.rows.l++F.l)) x.has x.closed=_;rw [HD.Ab];unfold cons;rw [Cf,zM.Ab]
      rfl
    ·have HO:Hid (DF x.Ac b=(x.Ac,GK)):=by
      exact Zs9
     have dk:(GK !=0)=true:=by simpa using hK
     clear HG hK UZ;go_wp2_with (first|((with_reducible refine OP 45 ?_);(refine Bf Be (H.blk 0 rfl) ?_))|((with_reducible refine OS 4 ?_);(refine Cj Be H 1 rfl (x.cs) (Dt x) ?_;clear H;intro wq H;(try simp only [LS] at H))));exact Zu3
 ·have HO:Hid (DF x.Ac b=(x.Ac,K)):=by
   show _=_;unfold DF;exact Ze8
  have dk:(K !=0)=true:=by simpa using hK
  clear hK UZ hX;go_wp2_with (first|((with_reducible refine OP 22 ?_);(refine Bf Be (H.blk 0 rfl) ?_))|((with_reducible refine OS 4 ?_);(refine Cj Be H 1 rfl (x.cs) (Dt x) ?_;clear H;intro wq H;(try simp only [LS] at H))));exact Zu3
def Ap3 (o:List CZ) (w:World) (e:Ending) (w':World):Prop:=∃ y:Row Br,e=.returned y.v∧cons y.l=o∧y.ok w'∧y.n≤1000000∧Ai w w'
theorem ZP (x:JZ) (w:World) (hx:x.rows.ok w) (hn:x.rows.n≤5000) (hf:QW (cons x.rows.l)):Calls prog 45 #[.agg x.cs] w (Ap3 (Kr (cons x.rows.l)) w):=by
 have HRS:=Aa (fun w' (h:Ai w w')=>gW x.rows w' (hx.mono h) hn);have HFD:=Aa (Oa hf);have hxl:=hx.len;have H:=Aa ((SL.start No w).alloc x.cs 65);(try simp only [LS] at H);clear hx hf;go_enter func45,ntmps45;go_upto_region 1 with fail;generalize w.heap.size=q at H ⊢;generalize World.alloc w _=w0 at H ⊢;have c9:w0.cell? ⟨q,9,none⟩=some (.slice x.rows.A x.rows.n x.rows.c):=(H.blk 0 rfl).cell 9;go_wp2_with fail;refine (HRS _ H.to).mono ?_;rintro e w2 ⟨v,gs,rfl,hK,hgs⟩;have hgl:gs.length=x.rows.n:=by have h:=CW List.length hgs;rw [AR,FD,AR] at h;rw [h];exact hxl
 obtain ⟨⟨zA,zn,zc,zl⟩,rfl,hzo,hzl,hzn⟩:=hK.row Xl;replace H:=Aa (H.Av hK.Av);(try simp only [LS] at H);have fP:=Aa (ZO _ ⟨zA,zn,zc,zl⟩ hzo (by simp only at hzn ⊢;omega));simp only at hzl;rw [hzl,hgs,HFD.Ab] at fP;clear hK hgs hgl hzo hzl hzn;simp only [Row.v];go_wp2_with fail;refine (fP.Ab).mono ?_;rintro e w5 ⟨v,bb,rfl,hF,hb5⟩;replace H:=Aa (H.Av hb5);rcases hF with ⟨h,_⟩|⟨Y,hy,rfl,rfl,TQ,hyn⟩
 ·cases h
 have HY:=Aa (Option.some.inj hy).symm;have HYO:=Aa TQ;clear hy TQ hb5 fP;go_wp2_with fail;(try simp only [Row.v]);go_ret;exact ⟨Y,rfl,HY.Ab,HYO.Ab,hyn,H.to⟩
def D9 (o:Option (List Int)) (w:World) (e:Ending) (w':World):Prop:=
 match o with
 |none=>e=.returned (.tuple #[.slice none 0 0,.bool false])∧Ai w w'
 |some l=>∃ (A:Option Addr) (c:Nat),e=.returned (.tuple #[.slice A l.length c,.bool true])∧Ai w w'∧w'.ownsRow w.heap.size 3 1 (.slice A l.length c) l.length (l.map (Value.int .i64))
theorem oV (s:El) (q:Qr) (f:Br) (w:World) (hx:s.rd w) (hq:q.rd w) (hf:f.ok w) (hE:BV s.Ac q.Ac=0) (hk:OT s.Ac.Dx f.ks.l):
 Calls prog 119 #[.agg s.cs,.agg q.cs,.agg f.cs] w (D9 (EP s.Ac.Dx q.Ac f.ks.l) w):=by
 obtain ⟨g1,g2,g3⟩:=EB hE;obtain ⟨g4,g5,g6,_⟩:=BH g1;have HX:=Aa hx.dm;have HQ:=Aa hq;have HF:=Aa hf.ks.zS;have hdl:s.Ac.Dx.length=s.dm.n:=by show (s.dm.l.map Dm.Ac).length=_;rw [CQ];exact hx.dm.len
 have hql:q.Ac.length=q.ps.n:=by show (q.ps.l.map Pk.Ac).length=_;rw [CQ];exact hq.len
 have hqd:q.ps.n=s.dm.n:=by omega
 have hfd:f.ks.n=s.dm.n:=by have h1:=hk.len;have h2:=hf.ks.len;omega
 have hn16:q.ps.n≤16:=by omega
 have zK:Hid (q.ps.n=s.dm.n∧f.ks.n=s.dm.n):=⟨hqd,hfd⟩;clear hqd hfd;have HPE:=Aa (fun (k:Nat) d p (hd:s.Ac.Dx[k]?=some d) (hp:q.Ac[k]?=some p)=>OE g3 g2 k d p hd hp);have HDE:=Aa g6;have HKO:=Aa (fun (k:Nat) d z (hd:s.Ac.Dx[k]?=some d) (hz:f.ks.l[k]?=some z)=>hk.at_ hd hz);obtain ⟨R,hR⟩:∃ R,R=EP s.Ac.Dx q.Ac f.ks.l:=⟨_,rfl⟩;rw [←hR];have HN:Hid (R=KG [] (EP (s.Ac.Dx.drop 0) (q.Ac.drop 0) (f.ks.l.drop 0))):=by
  show _=_;rw [hR];unfold KG;simp
 have HQL:=Aa hql;have H:=Aa ((((SL.start No w).alloc s.cs 25).alloc q.cs 29).alloc f.cs 97);(try simp only [LS] at H);clear hx hq hf hE hk g1 g2 g3 g4 g5 g6 hR hdl hql;go_enter func119,ntmps119;go_upto_region 2 with fail;generalize w.heap.size+2=fx at H ⊢;generalize w.heap.size+1=qx at H ⊢;generalize w.heap.size=sx at H ⊢;generalize World.alloc (World.alloc (World.alloc _ _) _) _=w0 at H ⊢;replace H:=Aa (H.Dw 3 1);(try simp only [LS] at H);have cq:=(H.blk 1 rfl).Ap 0;go_upto_region 3 with fail;clear cq;obtain ⟨n,hn⟩:∃ n,n=q.ps.n:=⟨_,rfl⟩;rw [←hn] at zK hn16 HQL ⊢;have Vh:=Aa hn;clear hn;go_loopg [8,14] n (fun gg s8 s14 wr=>∃ (k:Nat) (A:Option Addr) (c:Nat) (l:List Int),gg=n - k∧k≤n∧l.length≤k∧s8=.slice A l.length c∧s14=.int .i64 k∧Hid (R=KG l (EP (s.Ac.Dx.drop k) (q.Ac.drop k) (f.ks.l.drop k)))∧Hid (SL No w wr [Aw sx 25 s.cs,Aw qx 29 q.cs,Aw fx 97 f.cs,Ce 3 1 (.slice A l.length c) l.length (l.map (Value.int .i64))]));case atStart=>exact ⟨0,none,0,[],rfl,Xl,uH,rfl,rfl,HN,H⟩
 case round=>
  clear H HN;obtain ⟨k,A,c,l,BR,hk,hlk,rfl,rfl,HN,H⟩:=hrel;have Cs:=Aa BR;clear BR;by_cases hlt:k<n
  ·obtain ⟨b1,o1,D,hA1,hb1,Ve,Fj,hrg1⟩:=HX.Sd (k:=k) (by have h:=zK.1;omega);obtain ⟨b2,o2,p,hA2,hb2,hpk,hpr,hrg2⟩:=HQ.P7 (k:=k) (by have h:=Vh.Ab;omega);obtain ⟨bk,uX,key0,hA3,hzk,_,hck⟩:=HF.Pv (k:=k) (by have h:=zK.Ab;omega);have EW:s.Ac.Dx[k]?=some D.Ac:=by show (s.dm.l.map Dm.Ac)[k]?=_;rw [Ee,Ve];rfl
   have hpc:q.Ac[k]?=some p.Ac:=by show (q.ps.l.map Pk.Ac)[k]?=_;rw [Ee,hpk];rfl
   have hk1:=HKO k _ _ EW hzk;obtain ⟨key,rfl⟩:∃ key:Nat,key0=key:=⟨key0.toNat,Xl⟩;have hpe:=HPE k _ _ EW hpc;have hde:=HDE D.Ac (CU EW);obtain ⟨d0,d1,d4,d5⟩:=ER hde;have hok:Iu (D.tr.l.map Bt.Ac):=Gq d5;have hdt:D.tr.n≤4:=by have h1:=Fj.tr.len;have h2:D.Ac.Bi.length=D.tr.l.length:=CQ ..;omega
   have hk2:key<Eu (D.tr.l.map Bt.Ac) 0:=by have h:(key:Int)<((Eu (D.tr.l.map Bt.Ac) 0:Nat):Int):=hk1.2;omega
   obtain ⟨Mt,j,TT,u,m1,m2,m3,m4,m5,m6,m7⟩:=aU Fj hde hpe hk2;have hMt:Mt<D.tr.n:=by have h:=(CB.1 m2).1;rw [Fj.tr.len] at h;exact h
   have HLF:Hid (∀ w',Ai w w'→Calls prog 162 #[.agg D.cs,.int .i64 0,.int .i64 p.t,.int .i64 key] w' fun e w2=>e=.returned (.int .i64 j)∧Ai w' w2):=fun w' h=>by
    have h1:=gZ D 0 Mt key w' (Fj.mono h) hok (Bj _) hMt hk2;rw [show ((0:Nat):Int)=0 from rfl,m4,←m1] at h1;exact h1
   have HLT:=Aa (fun w' (h:Ai w w')=>N7 D p Mt j TT u w' (Fj.mono h) (hpr.mono h) m2 m3 (fun _=>m1) m6);have HLV:Hid (RX D.Ac p.Ac key=KQ p.Ac u):=m5;have F4:Hid (p.g=true→∀ w',Ai w w'→Calls prog 162 #[.agg D.cs,.int .i64 0,.int .i64 p.Mf,.int .i64 key] w' fun e w2=>e=.returned (.int .i64 (DI (D.tr.l.map Bt.Ac) 0 p.Mf key))∧Ai w' w2):=fun hg w' h=>by
    rcases (IK hpe).b with ⟨_,b0,b1⟩|⟨hx,_⟩
    ·have h2:D.Ac.Bi.length=D.tr.n:=by rw [←Fj.tr.len];exact CQ ..
     have b0:0≤p.Mf:=b0;have b1:p.Mf<(D.Ac.Bi.length:Int):=b1;obtain ⟨bb,hbb⟩:∃ bb:Nat,p.Mf=bb:=⟨p.Mf.toNat,Xl⟩;have h1:=gZ D 0 bb key w' (Fj.mono h) hok (Bj _) Xl hk2;rw [show ((0:Nat):Int)=0 from rfl,←hbb] at h1;exact h1
    ·have hx:p.g=false:=hx;rw [hg] at hx;cases hx
   have HR1:Hid (∀ w',Ai w w'→w'.rangeAt b1 (o1+k * 2) D.cs.toList):=fun w' h=>CP hb1 hrg1 h
   have HR2:Hid (∀ w',Ai w w'→w'.rangeAt b2 (o2+k * 7) p.cs.toList):=fun w' h=>CP hb2 hrg2 h
   have HBL:Hid (∀ w',Ai w w'→b1<w'.heap.size):=fun w' h=>KI hb1 h.size
   have Nh:Hid (∀ w',Ai w w'→w'.cell? ⟨bk,uX+k,none⟩=some (.int .i64 key)):=fun w' h=>(h.cell (p:=⟨bk,uX+k,none⟩) (JM _ _ hck)).trans hck
   have OU:=Aa EW;have HPc:=Aa hpc;have HZk:=Aa hzk;have jS:=Aa hA2;have TY:=Aa hA3;have uK:=Aa hA1;have i0:(0:Int)≤k:=by omega
   have i1:(k:Int)<n:=by omega
   have i2:(k:Int)<s.dm.n:=by have h:=zK.Ab;omega
   have i3:(k:Int)<f.ks.n:=by have h:=zK.Ab;omega
   clear hb1 hb2 Ve hpk hzk hck EW hpc hk1 hpe hde d0 d1 d4 d5 hok hdt hk2 m1 m2 m3 m4 m5 m6 m7 hMt Fj hpr hrg1 hrg2 hA1 hA3;have cq0:wr.cell? ⟨qx,0,none⟩=some (.slice (some ⟨b2,o2,none⟩) q.ps.n q.ps.c):=by rw [←hA2];exact (H.blk 1 rfl).cell 0
   rw [←Vh.Ab] at cq0;rw [hA2];clear hA2;go_upto_region 6 with (first|((with_reducible refine OP 21 ?_);(refine Af rfl EC (.tmp 20) rfl b2 (o2+k * 7) rfl p.cs rfl (HR2 _ H.to) ?_))|((with_reducible refine OS 10 ?_);(refine DX EC (p.cs) (OZ p) ?_;replace H:=Aa (H.alloc (p.cs) 80);(try simp only [LS] at H))));(try simp only [Act.put,LP]);(try simp only [LS] at H);clear cq0 HR2;generalize wr.heap.size=pz at H ⊢;generalize World.alloc wr _=w4 at H ⊢;have cs0:w4.cell? ⟨sx,0,none⟩=some (.slice (some ⟨b1,o1,none⟩) s.dm.n s.dm.c):=by rw [←uK.Ab];exact (H.blk 0 rfl).cell 0
   have cf:w4.cell? ⟨fx,0,none⟩=some (.slice (some ⟨bk,uX,none⟩) f.ks.n f.ks.c):=by rw [←TY.Ab];exact (H.blk 2 rfl).cell 0
   have ct:w4.cell? ⟨pz,1,none⟩=some (.int .i64 p.t):=(H.blk 4 rfl).cell 1;have ck:=Nh _ H.to;have hb1:=HBL _ H.to;have hr1:=HR1 _ H.to;have Aj6:=fun u:Over w4=>Over.cell cs0 u
   have f_cf:=fun u:Over w4=>Over.cell cf u
   have f_ct:=fun u:Over w4=>Over.cell ct u
   have f_ck:=fun u:Over w4=>Over.cell ck u
   refine Am ?_;(try simp only [Act.put,LP]);repeat (first
    |((with_reducible show wpQuiet _ _ _ _ (⟨some 26,_,_,_,_,_⟩::_) _);refine Ah (by first|rfl|go_simp) CX (.tmp 25) rfl b1 (o1+k * 2) rfl D.cs rfl hb1 hr1 ?_;simp only [Act.put,LP])
    |((with_reducible show wpQuiet _ _ _ _ (⟨some 27,_,_,_,_,_⟩::_) _);refine Ah (by first|rfl|go_simp) EC (.tmp 10) rfl _ (0) rfl _ rfl (H.blk 4 rfl).lt (H.blk 4 rfl).range ?_;simp only [Act.put,LP])
    |((with_reducible show wpQuiet _ _ _ _ (⟨some 32,_,_,_,_,_⟩::_) _);refine Ah (by first|rfl|go_simp) CX (.tmp 31) rfl b1 (o1+k * 2) rfl D.cs rfl hb1 hr1 ?_;simp only [Act.put,LP])
    |go_big_quiet_step ((first|(go_at_call 162;rename_i u;exact AB (HLF _ (H.to.trans u.Av)))|(go_at_call 161;rename_i u;exact AB (HLT _ (H.to.trans u.Av))))))
   refine CS ?_;rintro w5 ⟨⟨_,Gd⟩,rfl⟩;(try dsimp only);replace H:=Aa (H.Av Gd);clear Aj6 f_cf f_ct f_ck cs0 cf ct ck;clear Gd HLT HLF hb1 hr1 HBL;rw [←HLV.Ab];cases hL:RX D.Ac p.Ac key with
   |false=>
    have HRN:Hid (R=none):=qC HN OU HPc HZk hL;clear hL HN HLV;go_wp2_with fail;go_ret2;rw [HRN.Ab];exact ⟨rfl,H.to⟩
   |true=>
    have cg:w5.cell? ⟨pz,5,none⟩=some (.bool p.g):=(H.blk 4 rfl).cell 5;cases hg:p.g with
    |false=>
     have JS:=Aa (aI HN OU HPc HZk hL hg);rw [hg] at cg;clear hL HN HLV F4 hg;go_wp2_with fail;clear cg;rw [←jS.Ab];replace H:=Aa (H.Fg [0,1,2,3] Za1 uH);(try simp only [LS] at H);go_roundg (n - (k+1));case rel=>exact ⟨k+1,A,c,l,rfl,Xl,Xl,rfl,by go_num,JS,H⟩
     case measure=>rw [Cs.Ab];omega
    |true=>
     have QO:=aH HN OU HPc HZk hL hg;obtain ⟨z,hz⟩:∃ z,z=DI D.Ac.Bi 0 p.Ac.Mf key:=⟨_,rfl⟩;rw [←hz] at QO;replace F4:=Aa (F4 hg);rw [show DI (D.tr.l.map Bt.Ac) 0 p.Mf key=z from hz.symm] at F4;rw [hg] at cg;replace HN:=Aa QO;clear hL HLV hg hz QO;go_upto_region 9 with fail;clear cg;refine Ep (S:=fun W=>W.cell? ⟨sx,0,none⟩=some (.slice (some ⟨b1,o1,none⟩) s.dm.n s.dm.c)∧W.rangeAt b1 (o1+k * 2) D.cs.toList∧W.cell? ⟨pz,6,none⟩=some (.int .i64 p.Mf)∧W.cell? ⟨fx,0,none⟩=some (.slice (some ⟨bk,uX,none⟩) f.ks.n f.ks.c)∧W.cell? ⟨bk,uX+k,none⟩=some (.int .i64 key)) Za0 ⟨by rw [←uK.Ab];exact (H.blk 0 rfl).cell 0,by first|exact HR1 _ H.to|exact HR1 _ H.to.drew,(H.blk 4 rfl).cell 6,by rw [←TY.Ab];exact (H.blk 2 rfl).cell 0,by first|exact Nh _ H.to|exact Nh _ H.to.drew⟩ fun hHeld=>?_;replace H:=Aa (H.drew);generalize World.drew _=w8 at *;refine Bd Ml ?_;refine Bd KF ?_;refine Bd MN ?_;refine Bd Ky ?_;refine Bd LJ ?_;refine Lx (i:=5) (v:=.agg D.cs) KW Za0 Za0 Za0 Za7 (DU CX (by rfl) (.tmp 49) rfl b1 (o1+k * 2) rfl (fun w h=>h.2.1) rfl) Zb0 ?_;try simp only [Act.put,LP]
     refine Bd MI ?_;refine Bd Lj ?_;refine Bd Mk ?_;refine Bd MH ?_;refine Bd FO ?_;refine Bd Ga ?_;refine Bd Hw ?_;refine BG Jc fun KK Ad=>?_;go_simp;refine (F4 _ H.to).mono ?_;rintro e' w6 ⟨rfl,hb6⟩;replace H:=Aa (H.Av hb6);clear hb6;refine Aj Ad ⟨by rw [←uK.Ab];exact (H.blk 0 rfl).cell 0,by first|exact HR1 _ H.to|exact HR1 _ H.to.drew,(H.blk 4 rfl).cell 6,by rw [←TY.Ab];exact (H.blk 2 rfl).cell 0,by first|exact Nh _ H.to|exact Nh _ H.to.drew⟩ fun hHeld=>?_;clear Ad KK;refine BG Jw fun KK Ad=>?_;refine BP rfl LM (.tmp 58) rfl (.int .i64 z) rfl #[.int .i64 z] rfl rfl Xl ?_;replace H:=Aa (H.alloc #[.int .i64 z] 3);(try simp only [LS] at H);refine Aj Ad ⟨by rw [←uK.Ab];exact (H.blk 0 rfl).cell 0,by first|exact HR1 _ H.to|exact HR1 _ H.to.drew,(H.blk 4 rfl).cell 6,by rw [←TY.Ab];exact (H.blk 2 rfl).cell 0,by first|exact Nh _ H.to|exact Nh _ H.to.drew⟩ fun hHeld=>?_;clear Ad KK;refine BG bV fun KK Ad=>?_;refine AX rfl (.tmp 45) (.tmp 59) _ rfl LM 0 (Bj _) _ l.length _ rfl (H.row 3 rfl) _ 1 1 [.int .i64 z] rfl (AV (H.blk 5 rfl) rfl) Za2 Za4 Xl ?_;intro vq wq AJ Aq AQ;replace H:=Aa (H.setRow 3 rfl Aq AJ AQ);(try simp only [LS] at H);clear AJ Aq AQ;obtain ⟨A2,c2,rfl,_⟩:=Ao (H.row 3 rfl);refine Aj Ad ⟨by rw [←uK.Ab];exact (H.blk 0 rfl).cell 0,by first|exact HR1 _ H.to|exact HR1 _ H.to.drew,(H.blk 4 rfl).cell 6,by rw [←TY.Ab];exact (H.blk 2 rfl).cell 0,by first|exact Nh _ H.to|exact Nh _ H.to.drew⟩ fun hHeld=>?_;clear Ad KK;refine Bd sD ?_;refine BZ ?_;clear hHeld;replace H:=Aa (H.Fg [0,1,2,3] Za1 uH);(try simp only [LS] at H);have E1:l.length+1=(l++[z]).length:=by simp
     have E2:l.map (Value.int .i64)++[Value.int .i64 z]=(l++[z]).map (Value.int .i64):=by simp
     rw [E2] at H;replace H:Hid (SL No w wq [Aw sx 25 s.cs,Aw qx 29 q.cs,Aw fx 97 f.cs,Ce 3 1 (.slice A2 (l++[z]).length c2) (l++[z]).length ((l++[z]).map (Value.int .i64))]):=by rw [←E1];exact H
     clear E2 F4 Nh;go_wp2_with fail;rw [←jS.Ab];go_roundg (n - (k+1));case rel=>exact ⟨k+1,A2,c2,l++[z],rfl,Xl,by rw [Cn];show l.length+1≤k+1;omega,by rw [←E1],by go_num,HN,H⟩
     case measure=>rw [Cs.Ab];omega
  ·have HRN:Hid (R=some l):=iM HN (by rw [HQL.Ab];omega);clear HN;go_wp2_with fail;go_ret2;rw [HRN.Ab];exact ⟨A,c,rfl,H.to,H.M7 3 rfl⟩
def Ap2 (o:List CZ) (w:World) (e:Ending) (w':World):Prop:=∃ y:Row Br,e=.returned (.tuple #[y.v,.bool true])∧cons y.l=o∧y.ok w'∧y.n≤1000000∧Ai w w'
theorem pI (s:El) (q:Qr) (x:Row Br) (w:World) (hs:s.rd w) (hq:q.rd w) (hx:x.ok w) (hn:x.n≤4000) (hE:BV s.Ac q.Ac=0) (hk:∀ f ∈ cons x.l,OT s.Ac.Dx f.1) (hf:QW (cons x.l)):
 Calls prog 76 #[.agg s.cs,.agg q.cs,.slice x.A x.n x.c] w (Ap2 (Kr (Di s.Ac q.Ac (cons x.l))) w):=by
 have HPA:=Aa (fun f (hf:f ∈ cons x.l) (g:Br) (hg:g.Ac=f) w' (h:Ai w w') (hgo:g.ok w')=>oV s q g w' (hs.mono h) (Row.rd.mono hq h) hgo hE (by have:=hk f hf;rw [←hg] at this;exact this));have fQ:=Aa (fun (f:CZ) (hf:f ∈ cons x.l) l (hl:EP s.Ac.Dx q.Ac f.1=some l)=>RO (BH (EB hE).1).2.2.1 (EB hE).2.1 (EB hE).2.2 (hk f hf) hl);have HD16:=Aa (BH (EB hE).1).2.1;have HFD:=Aa (Oa (UC (s:=s.Ac) (q:=q.Ac) hf));have HRW:=Aa hx;have hrl:Hid (x.l.length=x.n):=hx.len;have H:=Aa (((SL.start No w).alloc s.cs 25).alloc q.cs 29);(try simp only [LS] at H);clear hs hq hx hE hk hf;go_enter func76,ntmps76;go_upto_region 3 with fail;generalize w.heap.size+1=qx at H ⊢;generalize w.heap.size=sx at H ⊢;generalize World.alloc (World.alloc _ _) _=w0 at H ⊢;replace H:=Aa ((H.Dw 97 11).add (Ai.refl _) (Gw iC []) (Jb _ _) ME);(try simp only [LS] at H);obtain ⟨n,hnn⟩:∃ n,n=x.n:=⟨_,rfl⟩;rw [←hnn] at hn hrl ⊢;have Vh:=Aa hnn;clear hnn;go_loopg [8,15] n (fun gg s8 s15 wr=>∃ (k m:Nat) (A:Option Addr) (c':Nat) (L:List Br),gg=n - k∧k≤n∧m≤k∧s8=.slice A m c'∧s15=.int .i64 k∧Hid (cons L=Di s.Ac q.Ac ((cons x.l).take k))∧Hid (SL No w wr [Aw sx 25 s.cs,Aw qx 29 q.cs,Ce 97 11 (.slice A m c') m (L.flatMap AY.cells),Gw iC L]));case atStart=>exact ⟨0,0,none,0,[],rfl,Xl,Xl,rfl,rfl,rfl,H⟩
 case round=>
  clear H;obtain ⟨k,m,A,c',L,BR,hk,hmk,rfl,rfl,eD,H⟩:=hrel;have Cs:=Aa BR;clear BR;by_cases hlt:k<n
  ·obtain ⟨b,o,f,hA,hb,lU,hfo,_,hrg,_⟩:=HRW.Z7 (k:=k) Zf3;have hck:(cons x.l)[k]?=some f.Ac:=Jd lU;have hfm:=CU hck;have HST:=Aa (XV (s:=s.Ac) (q:=q.Ac) hck);have HUN:=Aa (fun w' (h:Ai w w')=>HPA f.Ac hfm f rfl w' h ⟨hfo.ks.mono h,hfo.ag⟩);have HPS1:=Aa (fun l hl=>fQ f.Ac hfm l hl);have HFAG:=Aa hfo.ag;have fP:Hid (∀ w',Ai w w'→w'.rangeAt b (o+k * 11) f.cs.toList):=fun w' h=>CP hb hrg h
   have vF:=Aa hA;have i0:(0:Int)≤k:=by omega
   have i1:(k:Int)<n:=by omega
   clear hb lU hfo hrg hck hfm;rw [hA];clear hA;go_upto_region 5 with (first|((with_reducible refine OP 18 ?_);(refine Af rfl Bz (.tmp 17) rfl b (o+k * 11) rfl f.cs rfl (fP _ H.to) ?_))|((with_reducible refine OS 10 ?_);(refine DX Bz (f.cs) (EA f) ?_;replace H:=Aa (H.alloc (f.cs) 97);(try simp only [LS] at H))));(try simp only [Act.put,LP]);(try simp only [LS] at H);clear fP;generalize wr.heap.size=fz at H ⊢;generalize World.alloc wr _=w3 at H ⊢;go_wp2_with (first|((with_reducible refine OP 20 ?_);(refine Bf Bb (H.blk 0 rfl) ?_))|((with_reducible refine OP 21 ?_);(refine Bf Ev (H.blk 1 rfl) ?_))|((with_reducible refine OP 22 ?_);(refine Bf Bz (H.blk 4 rfl) ?_)));refine (HUN _ H.to).mono ?_;rintro e w4 hU;clear HUN;unfold D9 at hU;cases hp:EP s.Ac.Dx q.Ac f.ks.l with
   |none=>
    rw [hp] at hU;obtain ⟨rfl,hb4⟩:=hU;have HL2:Hid (cons L=Di s.Ac q.Ac ((cons x.l).take (k+1))):=by show _=_;rw [eD.Ab,HST.Ab,show f.Ac.1=f.ks.l from rfl,hp,EO]
    replace H:=Aa (H.Av hb4);clear hp hb4 eD HST HPS1;replace H:=Aa (H.Fg [0,1,2,3] Za1 uH);(try simp only [LS] at H);exact Zs7
   |some ks=>
    rw [hp] at hU;obtain ⟨KA,kc,rfl,hb4,ho4⟩:=hU;have HL2:Hid (cons (L++[(Br.mk ⟨KA,ks.length,kc,ks⟩ f.ag)])=Di s.Ac q.Ac ((cons x.l).take (k+1))):=by show _=_;rw [HST.Ab,show f.Ac.1=f.ks.l from rfl,hp,←eD.Ab];unfold cons;rw [Cf];rfl
    have hps:=HPS1 ks hp;have HKS:=Aa hps.1;have hks:ks.length≤1000000:=by have:=hps.2;have:=HD16.Ab;omega
    replace H:=Aa (H.Co hb4 ho4);(try simp only [LS] at H);clear hp hb4 ho4 eD HST HPS1 hps;have HAG:Hid (∀ w,w=w4→w.rangeAt fz 1 f.ag.cs.toList):=fun w e=>e ▸ (H.blk 4 rfl).part 1 f.ag.cs.toList rfl
    go_upto_region 8 with (first|((with_reducible refine OP 30 ?_);(refine Af rfl kS (.tmp 29) rfl fz (1) rfl f.ag.cs rfl (HAG _ rfl) ?_))|((with_reducible refine OP 31 ?_);refine Ke rfl (.tmp 28) (.tmp 30) rfl (vx:=.slice KA ks.length kc) (vy:=.agg f.ag.cs) (v:=.agg (Br.mk ⟨KA,ks.length,kc,ks⟩ f.ag).cs) rfl rfl (Xk ⟨KA,ks.length,kc,ks⟩ f.ag) ?_)|((with_reducible refine OP 32 ?_);(refine AP rfl EI (.tmp 31) rfl ((Br.mk ⟨KA,ks.length,kc,ks⟩ f.ag).cs) rfl rfl Xl ?_;replace H:=Aa (H.Co ((Ai.refl _).alloc _) (CE _ 97 ((Br.mk ⟨KA,ks.length,kc,ks⟩ f.ag).cs) _ rfl));(try simp only [LS] at H);clear HAG))|((with_reducible refine OP 33 ?_);(refine Az rfl (.tmp 27) (.tmp 32) _ rfl EI 0 (Bj _) _ m _ rfl (H.row 2 rfl) _ 1 1 _ rfl (Rd.BC (H.row 6 rfl)) (JG (Br.mk ⟨KA,ks.length,kc,ks⟩ f.ag)) Za4 Xl ?_;intro vq wq AJ Aq AQ;replace H:=Aa (H.setRow 2 rfl Aq AJ AQ);(try simp only [LS] at H);clear AJ Aq AQ;obtain ⟨A2,c2,rfl,_⟩:=Ao (H.row 2 rfl))));(try simp only [Act.put,LP]);replace H:=Aa (H.turn 5 rfl (iC (Br.mk ⟨KA,ks.length,kc,ks⟩ f.ag)) (iV (f:=(Br.mk ⟨KA,ks.length,kc,ks⟩ f.ag)) (H.get 5 rfl) HKS hks HFAG.Ab) (fun _ h=>h));(try simp only [LS] at H);replace H:=Aa (H.oD 3 5 (a:=(Br.mk ⟨KA,ks.length,kc,ks⟩ f.ag)) Xl rfl rfl);(try simp only [LS] at H);replace H:=Aa (H.Fg [0,1,2,3] Za1 uH);(try simp only [LS] at H);exact Zm9
  ·have hkn:k=n:=by omega
   subst hkn;have HLG:Hid (cons L=Di s.Ac q.Ac (cons x.l)):=by show _=_;rw [eD.Ab,EU (by rw [AR,hrl.Ab];exact Ci _)]
   have hok:=p9 (H.get 2 rfl) (H.get 3 rfl) Xl;have HLM:Hid (L.length=m):=hok.len;have HRS:=Aa (gW ⟨A,m,c',L⟩ wr hok (by show m≤5000;omega));rw [←HLG.Ab] at HFD;clear hok eD;go_wp2_with fail;refine HRS.mono ?_;rintro e w2 ⟨v,gs,rfl,hK,hgs⟩;(try simp only at hgs);have hm5:m≤4000:=by omega
   have hgl:gs.length=m:=by have h:=CW List.length hgs;rw [AR,FD,AR] at h;rw [h];exact HLM.Ab
   obtain ⟨⟨zA,zn,zc,zl⟩,rfl,hzo,hzl,hzn⟩:=hK.row Xl;replace H:=Aa (H.Av hK.Av);(try simp only [LS] at H);have fP:=Aa (ZO _ ⟨zA,zn,zc,zl⟩ hzo (by simp only at hzn ⊢;omega));(try simp only at hzl);rw [hzl,hgs,HFD.Ab] at fP;clear hK hgs hgl hzo hzl hzn;(try simp only [Row.v]);go_wp2_with fail;refine (fP.Ab).mono ?_;rintro e w5 ⟨v,bb,rfl,hF,hb5⟩;replace H:=Aa (H.Av hb5);rcases hF with ⟨h,_⟩|⟨Y,hy,rfl,rfl,TQ,hyn⟩
   ·cases h
   have HY:=Aa (Option.some.inj hy).symm;have HYO:=Aa TQ;clear hy TQ hb5 fP;go_wp2_with fail;go_ret2;exact ⟨Y,rfl,by rw [HY.Ab,HLG.Ab],HYO.Ab,hyn,H.to⟩
theorem rY {k:Row (List UInt8)} {a:Ag} {A:Option Addr} {n c:Nat} {l':List (List UInt8)}:(KY.mk k a).cs.setIfInBounds 0 (.slice A n c)=(KY.mk ⟨A,n,c,l'⟩ a).cs:=by
 simp [KY.cs,Row.v]
theorem yT (a:Ag) (w:World):(Instr.build 136 #[(1,.agg a.cs)]).run prog w=.ok (.agg (KY.mk ⟨none,0,0,[]⟩ a).cs) w:=by kernel_rfl
def Ap7 (o:List (List (List UInt8) × Ag)) (n:Nat) (w:World) (e:Ending) (w':World):Prop:=
 ∃ (A:Option Addr) (c:Nat) (L:List KY),e=.returned (.slice A n c)∧L.map KY.Ac=o∧SL No w w' [Ce 136 11 (.slice A n c) n (L.flatMap AY.cells),Gw Yp L]
theorem Zi8 {p:Prop} (h:p:=by
 refine Aj Ad ⟨by rw [←uK.Ab];exact (H.blk 0 rfl).cell 0,by first|exact MW _ H.to|exact MW _ H.to.drew,by rw [←jS.Ab,HNQ.Ab];exact (H.blk 1 rfl).cell 0,by first|exact QV _ H.to|exact QV _ H.to.drew,by first|exact jW _ H.to|exact jW _ H.to.drew,by rw [←TY.Ab];exact (H.blk 4 rfl).cell 0,by first|exact jV _ H.to|exact jV _ H.to.drew,by first|exact jU _ H.to|exact jU _ H.to.drew⟩ fun hHeld=>?_;clear Ad KK;refine BG gq25 fun KK Ad=>?_;refine AX rfl (.tmp 35) (.tmp 58) _ rfl FB 0 (Bj _) _ ts.length _ rfl (H.row 6 rfl) _ 1 1 [.string ⟨t.toArray⟩] rfl (AV (H.blk 7 rfl) rfl) Za2 Za4 Xl ?_;intro vq wq AJ Aq AQ;replace H:=Aa (H.setRow 6 rfl Aq AJ AQ);(try simp only [LS] at H);clear AJ Aq AQ;obtain ⟨A2,c2,rfl,_⟩:=Ao (H.row 6 rfl);refine Aj Ad ⟨by rw [←uK.Ab];exact (H.blk 0 rfl).cell 0,by first|exact MW _ H.to|exact MW _ H.to.drew,by rw [←jS.Ab,HNQ.Ab];exact (H.blk 1 rfl).cell 0,by first|exact QV _ H.to|exact QV _ H.to.drew,by first|exact jW _ H.to|exact jW _ H.to.drew,by rw [←TY.Ab];exact (H.blk 4 rfl).cell 0,by first|exact jV _ H.to|exact jV _ H.to.drew,by first|exact jU _ H.to|exact jU _ H.to.drew⟩ fun hHeld=>?_;clear Ad KK;refine Bd gq26 ?_;refine BG gq27 fun KK Ad=>?_;have Qt:=(H.blk 5 rfl).cell 0;replace Qt:=Qt.trans (show _=some (Value.slice TA ts.length tc) from rfl);have fr1:=(H.blk 5 rfl).frozen 0;go_simp;replace H:=Aa (H.setCell 5 rfl 0 (.slice A2 (ts.length+1) c2));(try simp only [LS] at H);clear Qt fr1
 refine Aj Ad ⟨by rw [←uK.Ab];exact (H.blk 0 rfl).cell 0,by first|exact MW _ H.to|exact MW _ H.to.drew,by rw [←jS.Ab,HNQ.Ab];exact (H.blk 1 rfl).cell 0,by first|exact QV _ H.to|exact QV _ H.to.drew,by first|exact jW _ H.to|exact jW _ H.to.drew,by rw [←TY.Ab];exact (H.blk 4 rfl).cell 0,by first|exact jV _ H.to|exact jV _ H.to.drew,by first|exact jU _ H.to|exact jU _ H.to.drew⟩ fun hHeld=>?_;clear Ad KK;refine BZ ?_;clear hHeld;rw [rY (l':=ts++[t])] at H;replace H:=Aa (H.Fg [0,1,2,3,4,5,6] Za1 uH);(try simp only [LS] at H);generalize World.setCell _ _ _=wz at H ⊢;have E1:ts.length+1=(ts++[t]).length:=by simp
 have E2:ts.map tx++[Value.string ⟨t.toArray⟩]=(ts++[t]).map tx:=by simp [tx]
 rw [E2] at H;rw [E1] at H;clear E1 E2 MW QV jW jV jU;go_wp2_with fail;rw [←jS.Ab];go_roundg (nq - (i+1));case rel=>exact ⟨i+1,j+1,A2,c2,ts++[t],rfl,Xl,Xl,by rw [Cn];show ts.length+1=_;rw [htj.Ab],by go_num,by go_num,JS,H⟩
 case measure=>rw [Hgi.Ab];omega
):p:=h
theorem wJ (s:El) (q:Qr) (x:Row Br) (w:World) (hs:s.rd w) (hq:q.rd w) (hx:x.ok w) (hn:x.n≤1000000) (hE:BV s.Ac q.Ac=0) (hk:∀ f ∈ cons x.l,Ez s.Ac q.Ac f.1=.ok (Pf s.Ac q.Ac f.1)):
 Calls prog 77 #[.agg s.cs,.agg q.cs,.slice x.A x.n x.c] w (Ap7 (NV s.Ac q.Ac (cons x.l)) x.n w):=by
 obtain ⟨g1,g2,g3⟩:=EB hE;obtain ⟨g4,g5,g6,_⟩:=BH g1;have HX:=Aa hs.dm;have HQ:=Aa hq;have hdl:s.Ac.Dx.length=s.dm.n:=by show (s.dm.l.map Dm.Ac).length=_;rw [CQ];exact hs.dm.len
 have hql:q.Ac.length=q.ps.n:=by show (q.ps.l.map Pk.Ac).length=_;rw [CQ];exact hq.len
 have hqd:q.ps.n=s.dm.n:=by omega
 have hn16:q.ps.n≤16:=by omega
 have zK:Hid (q.ps.n=s.dm.n):=hqd;have HDL:Hid (s.Ac.Dx.length=q.ps.n∧q.Ac.length=q.ps.n):=⟨Xl,hql⟩;have HPE:=Aa (fun (k:Nat) d p (hd:s.Ac.Dx[k]?=some d) (hp:q.Ac[k]?=some p)=>OE g3 g2 k d p hd hp);have HNF:Hid (∀ f ∈ cons x.l,∃ ts,CJ s.Ac.Dx q.Ac f.1 []=.ok ts∧ts=Pf s.Ac q.Ac f.1∧(∀ t ∈ ts,t.length≤16)∧ts.length≤16):=fun f hf=>by
  have h:=hk f hf;have h2:=XO hE h;unfold Ez at h;rw [Ak Zb9] at h;exact ⟨_,h,rfl,h2⟩
 have HRW:=Aa hx;have hrl:Hid (x.l.length=x.n):=hx.len;have H:=Aa (((SL.start No w).alloc s.cs 25).alloc q.cs 29);(try simp only [LS] at H);clear hs hq hx hE hk g1 g2 g3 g4 g5 g6 hdl hql hqd;go_enter func77,ntmps77;go_upto_region 3 with fail;generalize w.heap.size+1=qx at H ⊢;generalize w.heap.size=sx at H ⊢;generalize World.alloc (World.alloc _ _) _=w0 at H ⊢;replace H:=Aa ((H.Dw 136 11).add (Ai.refl _) (Gw Yp []) (Jb _ _) ME);(try simp only [LS] at H);obtain ⟨n,hnn⟩:∃ n,n=x.n:=⟨_,rfl⟩;rw [←hnn] at hn hrl ⊢;have Vh:=Aa hnn;clear hnn;obtain ⟨nq,hnq⟩:∃ nq,nq=q.ps.n:=⟨_,rfl⟩;rw [←hnq] at hn16 zK HDL;have HNQ:=Aa hnq;clear hnq;go_loopg [7,15] n (fun gg s7 s15 wr=>∃ (k:Nat) (A:Option Addr) (c':Nat) (L:List KY),gg=n - k∧k≤n∧s7=.slice A k c'∧s15=.int .i64 k∧Hid (L.map KY.Ac=NV s.Ac q.Ac ((cons x.l).take k))∧Hid (SL No w wr [Aw sx 25 s.cs,Aw qx 29 q.cs,Ce 136 11 (.slice A k c') k (L.flatMap AY.cells),Gw Yp L]));case atStart=>exact ⟨0,none,0,[],rfl,Xl,rfl,rfl,rfl,H⟩
 case round=>
  clear H;obtain ⟨k,A,c',L,BR,hk,rfl,rfl,eD,H⟩:=hrel;have Cs:=Aa BR;clear BR;by_cases hlt:k<n
  ·obtain ⟨b,o,f,hA,hb,lU,hfo,_,hrg,_⟩:=HRW.Z7 (k:=k) Zf3;have hck:(cons x.l)[k]?=some f.Ac:=Jd lU;obtain ⟨TS,hTS,hTE,hTL⟩:=HNF f.Ac (CU hck);have HST:=Aa (aQ (s:=s.Ac) (q:=q.Ac) hck);have HTE:=Aa hTE;have nN:=Aa hTL;have HN:Hid (CJ (s.Ac.Dx.drop 0) (q.Ac.drop 0) (f.ks.l.drop 0) []=.ok TS):=hTS;have HFK:=Aa hfo.ks;have HFAG:=Aa hfo.ag;have fP:Hid (∀ w',Ai w w'→w'.rangeAt b (o+k * 11) f.cs.toList):=fun w' h=>CP hb hrg h
   have vF:=Aa hA;have i0:(0:Int)≤k:=by omega
   have i1:(k:Int)<n:=by omega
   clear hb lU hfo hrg hck hTS hTE hTL;rw [hA];clear hA;go_upto_region 5 with (first|((with_reducible refine OP 18 ?_);(refine Af rfl Bz (.tmp 17) rfl b (o+k * 11) rfl f.cs rfl (fP _ H.to) ?_))|((with_reducible refine OS 9 ?_);(refine DX Bz (f.cs) (EA f) ?_;replace H:=Aa (H.alloc (f.cs) 97);(try simp only [LS] at H))));(try simp only [Act.put,LP]);(try simp only [LS] at H);clear fP;generalize wr.heap.size=fz at H ⊢;generalize World.alloc wr _=w3 at H ⊢;have HAG:Hid (∀ w,w=w3→w.rangeAt fz 1 f.ag.cs.toList):=fun w e=>e ▸ (H.blk 4 rfl).part 1 f.ag.cs.toList rfl
   go_upto_region 6 with (first|((with_reducible refine OP 20 ?_);(refine Af rfl kS (.tmp 19) rfl fz (1) rfl f.ag.cs rfl (HAG _ rfl) ?_))|((with_reducible refine OP 21 ?_);refine Bv (vx:=.agg f.ag.cs) (v:=.agg (KY.mk ⟨none,0,0,[]⟩ f.ag).cs) rfl (.tmp 20) rfl rfl (yT f.ag) ?_)|((with_reducible refine OS 10 ?_);(refine DX Ae6 ((KY.mk ⟨none,0,0,[]⟩ f.ag).cs) (p8 _) ?_;replace H:=Aa (H.alloc ((KY.mk ⟨none,0,0,[]⟩ f.ag).cs) 136);(try simp only [LS] at H))));(try simp only [Act.put,LP]);(try simp only [LS] at H);clear HAG;generalize w3.heap.size=gz at H ⊢;generalize World.alloc w3 _=w4 at H ⊢;replace H:=Aa (H.Dw 9 1);(try simp only [LS] at H);have cq:w4.cell? ⟨qx,0,none⟩=some (.slice q.ps.A nq q.ps.c):=by rw [HNQ.Ab];exact (H.blk 1 rfl).cell 0
   go_upto_region 8 with fail;clear cq;go_loopg [11,25] nq (fun gg s11 s25 wr=>∃ (i j:Nat) (TA:Option Addr) (tc:Nat) (ts:List (List UInt8)),gg=nq - i∧i≤nq∧j≤i∧ts.length=j∧s11=.int .i64 j∧s25=.int .i64 i∧Hid (CJ (s.Ac.Dx.drop i) (q.Ac.drop i) (f.ks.l.drop j) ts=.ok TS)∧Hid (SL No w wr [Aw sx 25 s.cs,Aw qx 29 q.cs,Ce 136 11 (.slice A k c') k (L.flatMap AY.cells),Gw Yp L,Aw fz 97 f.cs,Aw gz 136 (KY.mk ⟨TA,ts.length,tc,ts⟩ f.ag).cs,Ce 9 1 (.slice TA ts.length tc) ts.length (ts.map tx)]));case atStart=>exact ⟨0,0,none,0,[],rfl,Xl,Xl,rfl,rfl,rfl,HN,H⟩
   case round=>
    clear H HN;obtain ⟨i,j,TA,tc,ts,hgi,hi,hji,htj,rfl,rfl,HN,H⟩:=hrel;have Hgi:=Aa hgi;have HTJ:=Aa htj;clear hgi htj;by_cases hit:i<nq
    ·obtain ⟨b1,o1,D,hA1,hb1,Ve,Fj,hrg1⟩:=HX.Sd (k:=i) (by have h:=zK.Ab;omega);obtain ⟨b2,o2,p,hA2,hb2,hpk,hpr,hrg2⟩:=HQ.P7 (k:=i) (by have h:=HNQ.Ab;omega);have EW:s.Ac.Dx[i]?=some D.Ac:=by show (s.dm.l.map Dm.Ac)[i]?=_;rw [Ee,Ve];rfl
     have hpc:q.Ac[i]?=some p.Ac:=by show (q.ps.l.map Pk.Ac)[i]?=_;rw [Ee,hpk];rfl
     have hpe:=HPE i _ _ EW hpc;have QV:Hid (∀ w',Ai w w'→w'.cell? ⟨b2,o2+i * 7+6,none⟩=some (.int .i64 p.Mf)):=fun w' h=>CP hb2 hrg2 h 6 _ rfl
     have HCG:Hid (∀ w',Ai w w'→w'.cell? ⟨b2,o2+i * 7+5,none⟩=some (.bool p.g)):=fun w' h=>CP hb2 hrg2 h 5 _ rfl
     have MW:Hid (∀ w',Ai w w'→w'.cell? ⟨b1,o1+i * 2+1,none⟩=some (.slice D.tr.A D.tr.n D.tr.c)):=fun w' h=>CP hb1 hrg1 h 1 _ rfl
     have jS:=Aa hA2;have uK:=Aa hA1;have i2:(0:Int)≤i:=by omega
     have i3:(i:Int)<nq:=by omega
     have i4:(i:Int)<s.dm.n:=by have h:=zK.Ab;omega
     have cq:wr.cell? ⟨qx,0,none⟩=some (.slice (some ⟨b2,o2,none⟩) nq q.ps.c):=by rw [HNQ.Ab,←hA2];exact (H.blk 1 rfl).cell 0
     have cg:=HCG _ H.to;rw [hA2];clear hA2 hb1 hb2 hrg1 hrg2 hpk Ve hA1;cases hg:p.g with
     |false=>
      have JS:Hid (CJ (s.Ac.Dx.drop (i+1)) (q.Ac.drop (i+1)) (f.ks.l.drop j) ts=.ok TS):=by show _=_;rw [←HN.Ab,RV EW hpc hg]
      rw [hg] at cg;clear HN hg hpe EW hpc MW QV HCG Fj hpr;go_wp2_with fail;rw [←jS.Ab];clear cq cg;go_roundg (nq - (i+1));case rel=>exact ⟨i+1,j,TA,tc,ts,rfl,Xl,Xl,HTJ.Ab,rfl,by go_num,JS,H⟩
      case measure=>rw [Hgi.Ab];omega
     |true=>
      rw [hg] at cg;obtain ⟨By,hBy⟩:∃ By:Nat,p.Mf=By:=by
       rcases (IK hpe).b with ⟨_,b0,b1⟩|⟨hx,_⟩
       ·exact ⟨p.Mf.toNat,by have b0:0≤p.Mf:=b0;omega⟩
       ·have hx:p.g=false:=hx;rw [hg] at hx;cases hx
      have hByl:By<D.tr.n:=by
       rcases (IK hpe).b with ⟨_,b0,b1⟩|⟨hx,_⟩
       ·have h2:D.Ac.Bi.length=D.tr.n:=by rw [←Fj.tr.len];exact CQ ..
        have b1:p.Mf<(D.Ac.Bi.length:Int):=b1;omega
       ·have hx:p.g=false:=hx;rw [hg] at hx;cases hx
      obtain ⟨bt,ot,T,hAt,hbt,xW,hTr,hrgT⟩:=Fj.tr.JO (k:=By) hByl;have htc:D.Ac.Bi[p.Ac.Mf.toNat]?=some T.Ac:=by show (D.tr.l.map Bt.Ac)[p.Mf.toNat]?=_;rw [hBy,Db,Ee,xW];rfl
      have QO:=HN.Ab;rw [RU EW hpc hg htc] at QO;obtain ⟨kk,rest,hkr⟩:∃ kk rest,f.ks.l.drop j=kk::rest:=by
       cases hd:f.ks.l.drop j with
       |nil=>rw [hd] at QO;cases QO
       |cons a l=>exact ⟨a,l,rfl⟩
      rw [hkr] at QO;simp only at QO;have hkj:f.ks.l[j]?=some kk:=by have h:=CW List.head? hkr;rw [List.head?_drop] at h;exact h
      have hrest:rest=f.ks.l.drop (j+1):=by have h:=CW List.tail hkr;rw [List.tail_drop] at h;exact h.symm
      obtain ⟨kn,hkn⟩:∃ kn:Nat,kk=kn:=by
       by_cases h:kk<0
       ·rw [Al h] at QO;cases QO
       ·exact ⟨kk.toNat,Xl⟩
      subst hkn;rw [Ak Xl,Db] at QO;obtain ⟨t,ht⟩:∃ t,T.ts.l[kn]?=some t:=by
       cases hd:T.Ac.ts[kn]? with
       |none=>rw [hd] at QO;cases QO
       |some t=>exact ⟨t,rfl⟩
      rw [show T.Ac.ts[kn]?=some t from ht] at QO;simp only at QO;rw [hrest] at QO;have hknl:kn<T.ts.n:=by have h:=(CB.1 ht).1;rw [hTr.ts.len] at h;exact h
      have hjl:j<f.ks.n:=by have h:=(CB.1 hkj).1;rw [HFK.len] at h;exact h
      obtain ⟨bu,ou,t',hAu,ht',_,lV⟩:=hTr.ts.GR (k:=kn) hknl;obtain rfl:t=t':=by rw [ht] at ht';injection ht'
      obtain ⟨bk,uX,k0,hAk,hk0,_,hck⟩:=HFK.zS.Pv (k:=j) hjl;obtain rfl:(kn:Int)=k0:=by rw [hkj] at hk0;injection hk0
      replace MW:Hid (∀ w',Ai w w'→w'.cell? ⟨b1,o1+i * 2+1,none⟩=some (.slice (some ⟨bt,ot,none⟩) D.tr.n D.tr.c)):=by show ∀ w',_;rw [←hAt];exact MW.Ab
      replace QV:Hid (∀ w',Ai w w'→w'.cell? ⟨b2,o2+i * 7+6,none⟩=some (.int .i64 By)):=by show ∀ w',_;rw [←hBy];exact QV.Ab
      have jW:Hid (∀ w',Ai w w'→w'.cell? ⟨bt,ot+By * 3+1,none⟩=some (.slice (some ⟨bu,ou,none⟩) T.ts.n T.ts.c)):=fun w' h=>by rw [←hAu];exact CP hbt hrgT h 1 _ rfl
      have jV:Hid (∀ w',Ai w w'→w'.cell? ⟨bk,uX+j,none⟩=some (.int .i64 kn)):=fun w' h=>(h.cell (p:=⟨bk,uX+j,none⟩) (JM _ _ hck)).trans hck
      have jU:Hid (∀ w',Ai w w'→w'.cell? ⟨bu,ou+kn,none⟩=some (.string ⟨t.toArray⟩)):=fun w' h=>(h.cell (p:=⟨bu,ou+kn,none⟩) (JM _ _ lV)).trans lV
      have TY:=Aa hAk;have i5:(0:Int)≤By:=by omega
      have i6:(By:Int)<D.tr.n:=by omega
      have i7:(0:Int)≤j:=by omega
      have i8:(j:Int)<f.ks.n:=by omega
      have i9:(0:Int)≤kn:=by omega
      have i10:(kn:Int)<T.ts.n:=by omega
      have htl:ts.length≤16:=by have h:=HTJ.Ab;omega
      have JS:=Aa QO;have htj:ts.length=j:=HTJ.Ab;clear HN hg hpe EW hpc HCG hBy hByl hAt hbt xW hTr hrgT htc QO hkr hkj hrest ht hknl hjl hAu ht' lV hAk hk0 hck Fj hpr;go_upto_region 11 with fail;clear cq cg;replace htj:=Aa htj;refine Ep (S:=fun W=>W.cell? ⟨sx,0,none⟩=some (.slice (some ⟨b1,o1,none⟩) s.dm.n s.dm.c)∧W.cell? ⟨b1,o1+i * 2+1,none⟩=some (.slice (some ⟨bt,ot,none⟩) D.tr.n D.tr.c)∧W.cell? ⟨qx,0,none⟩=some (.slice (some ⟨b2,o2,none⟩) nq q.ps.c)∧W.cell? ⟨b2,o2+i * 7+6,none⟩=some (.int .i64 By)∧W.cell? ⟨bt,ot+By * 3+1,none⟩=some (.slice (some ⟨bu,ou,none⟩) T.ts.n T.ts.c)∧W.cell? ⟨fz,0,none⟩=some (.slice (some ⟨bk,uX,none⟩) f.ks.n f.ks.c)∧W.cell? ⟨bk,uX+j,none⟩=some (.int .i64 kn)∧W.cell? ⟨bu,ou+kn,none⟩=some (.string ⟨t.toArray⟩)) Za0 ⟨by rw [←uK.Ab];exact (H.blk 0 rfl).cell 0,by first|exact MW _ H.to|exact MW _ H.to.drew,by rw [←jS.Ab,HNQ.Ab];exact (H.blk 1 rfl).cell 0,by first|exact QV _ H.to|exact QV _ H.to.drew,by first|exact jW _ H.to|exact jW _ H.to.drew,by rw [←TY.Ab];exact (H.blk 4 rfl).cell 0,by first|exact jV _ H.to|exact jV _ H.to.drew,by first|exact jU _ H.to|exact jU _ H.to.drew⟩ fun hHeld=>?_;replace H:=Aa (H.drew);generalize World.drew _=w8 at *;refine Bd Ml ?_;refine Bd MN ?_;refine Bd Ky ?_;refine Bd LJ ?_;refine Bd KW ?_;refine Bd MI ?_;refine Bd Lj ?_;refine Bd Mk ?_;refine Bd MH ?_;refine Bd FO ?_;refine Bd Ga ?_;refine Bd Hw ?_;refine Bd Jc ?_;refine Bd Jw ?_;refine Bd bV ?_;refine Bd sD ?_;refine Bd yC ?_;refine Bd yB ?_;refine Bd gq19 ?_;refine Bd gq20 ?_;refine Bd gq21 ?_;refine Bd gq22 ?_;refine Bd gq23 ?_;refine Oh KF gq24 (fun KK Ad=>?_) fun KK Ad=>?_
      ·have Qt:=(H.blk 5 rfl).cell 0;replace Qt:=Qt.trans (show _=some (Value.slice TA ts.length tc) from rfl);go_simp;clear Qt;refine Aj Ad ⟨by rw [←uK.Ab];exact (H.blk 0 rfl).cell 0,by first|exact MW _ H.to|exact MW _ H.to.drew,by rw [←jS.Ab,HNQ.Ab];exact (H.blk 1 rfl).cell 0,by first|exact QV _ H.to|exact QV _ H.to.drew,by first|exact jW _ H.to|exact jW _ H.to.drew,by rw [←TY.Ab];exact (H.blk 4 rfl).cell 0,by first|exact jV _ H.to|exact jV _ H.to.drew,by first|exact jU _ H.to|exact jU _ H.to.drew⟩ fun hHeld=>?_;clear Ad KK;refine BG gq24 fun KK Ad=>?_;refine BP rfl FB (.tmp 57) rfl (.string ⟨t.toArray⟩) rfl #[.string ⟨t.toArray⟩] rfl rfl Xl ?_;replace H:=Aa (H.alloc #[.string ⟨t.toArray⟩] 9);(try simp only [LS] at H);exact Zi8
      ·refine BP rfl FB (.tmp 57) rfl (.string ⟨t.toArray⟩) rfl #[.string ⟨t.toArray⟩] rfl rfl Xl ?_;replace H:=Aa (H.alloc #[.string ⟨t.toArray⟩] 9);(try simp only [LS] at H);refine Aj Ad ⟨by rw [←uK.Ab];exact (H.blk 0 rfl).cell 0,by first|exact MW _ H.to|exact MW _ H.to.drew,by rw [←jS.Ab,HNQ.Ab];exact (H.blk 1 rfl).cell 0,by first|exact QV _ H.to|exact QV _ H.to.drew,by first|exact jW _ H.to|exact jW _ H.to.drew,by rw [←TY.Ab];exact (H.blk 4 rfl).cell 0,by first|exact jV _ H.to|exact jV _ H.to.drew,by first|exact jU _ H.to|exact jU _ H.to.drew⟩ fun hHeld=>?_;clear Ad KK;refine BG KF fun KK Ad=>?_;have Qt:=(H.blk 5 rfl).cell 0;replace Qt:=Qt.trans (show _=some (Value.slice TA ts.length tc) from rfl);go_simp;clear Qt;exact Zi8
    ·have hin:i=nq:=by omega
     have hTT:TS=ts:=by
      have h:=HN.Ab;rw [hin,EN (by rw [HDL.1];exact Ci _),EN (by rw [HDL.2];exact Ci _),TM] at h;cases hd:f.ks.l.drop j with
      |nil=>rw [hd] at h;injection h with h;exact h.symm
      |cons a l=>rw [hd] at h;cases h
     subst hTT;subst hin;have htl:TS.length≤1000000:=by have:=nN.2;omega
     clear HN HTJ;go_upto_region 15 with (first|((with_reducible refine OP 65 ?_);(refine Bf Ae6 (H.blk 5 rfl) ?_))|((with_reducible refine OP 66 ?_);(refine AP rfl G6 (.tmp 65) rfl ((KY.mk ⟨TA,TS.length,tc,TS⟩ f.ag).cs) rfl rfl Xl ?_;replace H:=Aa (H.Co ((Ai.refl _).alloc _) (CE _ 136 ((KY.mk ⟨TA,TS.length,tc,TS⟩ f.ag).cs) _ rfl));(try simp only [LS] at H)))|((with_reducible refine OP 67 ?_);(refine Az rfl (.tmp 64) (.tmp 66) _ rfl G6 0 (Bj _) _ k _ rfl (H.row 2 rfl) _ 1 1 _ rfl (Rd.BC (H.row 7 rfl)) (rZ (KY.mk ⟨TA,TS.length,tc,TS⟩ f.ag)) Za4 Xl ?_;intro vq wq AJ Aq AQ;replace H:=Aa (H.setRow 2 rfl Aq AJ AQ);(try simp only [LS] at H);clear AJ Aq AQ;obtain ⟨A2,c2,rfl,_⟩:=Ao (H.row 2 rfl))));(try simp only [Act.put,LP]);replace H:=Aa (H.turn 6 rfl (Yp (KY.mk ⟨TA,TS.length,tc,TS⟩ f.ag)) (iU (g:=(KY.mk ⟨TA,TS.length,tc,TS⟩ f.ag)) (H.get 6 rfl) nN.1 htl HFAG.Ab) (fun _ h=>h));(try simp only [LS] at H);replace H:=Aa (H.oD 3 6 (a:=(KY.mk ⟨TA,TS.length,tc,TS⟩ f.ag)) Xl rfl rfl);(try simp only [LS] at H);replace H:=Aa (H.Fg [0,1,2,3] Za1 uH);(try simp only [LS] at H);have E2:L.flatMap AY.cells++(KY.mk ⟨TA,TS.length,tc,TS⟩ f.ag).cs.toList=(L++[(KY.mk ⟨TA,TS.length,tc,TS⟩ f.ag)]).flatMap AY.cells:=by rw [EM,Df,Gt,EO];rfl
     rw [E2] at H;clear E2;go_wp2_with fail;rw [←vF.Ab];go_roundg (n - (k+1));case rel=>exact ⟨k+1,A2,c2,L++[(KY.mk ⟨TA,TS.length,tc,TS⟩ f.ag)],rfl,Xl,rfl,by go_num,by show _=_;rw [Cf,eD.Ab,HST.Ab,←HTE.Ab];rfl,H⟩
     case measure=>rw [Cs.Ab];omega
  ·have hkn:k=n:=by omega
   subst hkn;have HLG:Hid (L.map KY.Ac=NV s.Ac q.Ac (cons x.l)):=by show _=_;rw [eD.Ab,EU (by rw [AR,hrl.Ab];exact Ci _)]
   replace H:=Aa (H.Fg [2,3] Za1 uH);(try simp only [LS] at H);go_wp2_with fail;go_ret;rw [←Vh.Ab];exact ⟨A,c',L,rfl,HLG.Ab,H.Ab⟩
theorem Ej (e:Int) (w:World):(Instr.build 49 #[(0,.int .i64 e)]).run prog w=.ok (.agg (Et.err e).cs) w:=by kernel_rfl
theorem yX (A:Option Addr) (n c:Nat) (L:List KY) (w:World):(Instr.build 49 #[(1,.slice A n c)]).run prog w=.ok (.agg (Et.mk 0 ⟨A,n,c,L⟩ ⟨none,0,0,[]⟩).cs) w:=by kernel_rfl
theorem UT (w:World):(Instr.build 49 #[]).run prog w=.ok (.agg (Et.err 0).cs) w:=by kernel_rfl
theorem Af0 (T:Nat→Prop) (x:JZ) (b:List UInt8) (w:World) (hT:∀ g,T g→g<w.heap.size) (hx:x.rd w) (hb:b.length≤140737488351232) (hi:MInv x.Ac) (hh:x.has=true):
 Calls prog 44 #[.agg x.cs,.string ⟨b.toArray⟩] w (YR T (LH x.Ac b) w):=by
 have HX:Hid (∀ w',Ai w w'→x.rd w'):=fun w' h=>hx.mono h
 have hsm:=hx.sm;have Tg:=Aa (fun w' (h:Ai w w')=>kV x.ct.sc b w' (HX w' h).ct.sc hb hsm.1 hsm.2.1 hsm.2.2);have Yw:=Aa hT;have HI:=Aa hi;have hrn:x.rows.n≤4000:=by have h1:=hi.len;have h2:=hx.rows.len;have h3:x.Ac.rows.length=x.rows.l.length:=AR _;omega
 have H:=Aa (((SL.start No w).alloc x.cs 65).alloc #[.int .i64 0,.slice none 0 0,.slice none 0 0] 49);(try simp only [LS] at H);clear hT hx hb hi hh hsm;go_enter func44,ntmps44;go_upto_region 1 with fail;generalize w.heap.size+1=y at H ⊢;generalize w.heap.size=q at H ⊢;generalize World.alloc (World.alloc _ _) _=w0 at H ⊢;go_wp2_with ((with_reducible refine OP 12 ?_);(refine Af rfl Bb (.tmp 11) rfl q (0) rfl x.ct.sc.cs rfl ((H.blk 0 rfl).part 0 x.ct.sc.cs.toList rfl) ?_));refine (Tg _ H.to).mono ?_;rintro e w1 ⟨X,rfl,hX,hb1,hN⟩;replace H:=Aa (H.add hb1 _ hN.1 hN.2);(try simp only [LS] at H);have HX0:=Aa hX;clear hb1 hN Tg hX;go_upto_region 2 with ((with_reducible refine OS 5 ?_);(refine DX Ev (X.cs) (wS X) ?_;replace H:=Aa (H.alloc (X.cs) 29);(try simp only [LS] at H)));(try simp only [Act.put,LP]);(try simp only [LS] at H);generalize w1.heap.size=z at H ⊢;generalize World.alloc w1 _=w2 at H ⊢;have hX:=HX0.Ab;clear HX0;obtain ⟨O,hO⟩:∃ O,O=Dv x.ct.sc.Ac b:=⟨_,rfl⟩;rw [←hO] at hX ⊢;have UZ:=Aa hO;clear hO;obtain ⟨QC,K⟩:=O;simp only at hX ⊢;by_cases hK:K=0
 ·subst hK;have hE:BV x.ct.sc.Ac X.Ac=0:=by have h:=(Wd (s:=x.ct.sc.Ac) (b:=b) (by rw [←UZ.Ab])).1;rw [←UZ.Ab] at h;rw [hX];exact h
  have HMM:Hid (LH x.Ac b=dK x.ct.sc.Ac X.Ac (Kr (Di x.ct.sc.Ac X.Ac x.Ac.rows))):=by
   show _=_;unfold LH;rw [show x.Ac.cat=x.ct.Ac from rfl,show x.ct.Ac.sc=x.ct.sc.Ac from rfl,←UZ.Ab];simp only;rw [Ak Za1,←hX]
  have HGP:=Aa (fun w' (h:Ai w w') (hq:X.ps.rd w')=>pI x.ct.sc X x.rows w' (HX w' h).ct.sc hq (HX w' h).rows hrn hE (fun f hf=>(HI.rows f hf).2) HI.fit);have HNMD:Hid (∀ f ∈ Kr (Di x.ct.sc.Ac X.Ac x.Ac.rows),Ez x.ct.sc.Ac X.Ac f.1=.ok (Pf x.ct.sc.Ac X.Ac f.1)):=VQ HI hE;have F6:=Aa hE;clear hX hE HI UZ;have c9:w2.cell? ⟨q,9,none⟩=some (.slice x.rows.A x.rows.n x.rows.c):=(H.blk 0 rfl).cell 9;go_wp2_with (first|((with_reducible refine OP 24 ?_);(refine Af rfl Bb (.tmp 23) rfl q (0) rfl x.ct.sc.cs rfl ((H.blk 0 rfl).part 0 x.ct.sc.cs.toList rfl) ?_))|((with_reducible refine OP 25 ?_);(refine Bf Ev (H.blk 3 rfl) ?_)));refine (HGP _ H.to (H.at_ 2 rfl).1).mono ?_;rintro e w5 ⟨Y,rfl,YK,TQ,hyn,hb5⟩;replace H:=Aa (H.Av hb5);have vD:Hid (cons Y.l=Kr (Di x.ct.sc.Ac X.Ac x.Ac.rows)):=YK;have hyl:Y.n=(Kr (Di x.ct.sc.Ac X.Ac x.Ac.rows)).length:=by rw [←vD.Ab,AR];exact TQ.len.symm
  have HYO:=Aa (fun w' (h:Ai w5 w')=>TQ.mono h);clear YK hb5 HGP c9 TQ;(try simp only [Row.v]);by_cases lX:500<Y.n
  ·have HRE:Hid (LH x.Ac b=⟨6,[],[]⟩):=by show _=_;rw [HMM.Ab];unfold dK;rw [Al Zf4]
   have d1:decide ((500:Int)<(Y.n:Int))=true:=by simp<;>omega
   have d1n:decide (500<Y.n)=true:=by simp<;>omega
   clear hyl lX HMM;go_wp2_with (first|((with_reducible refine OP 34 ?_);refine Bv (vx:=.int .i64 6) (v:=.agg (Et.err 6).cs) rfl (.const _) rfl rfl (Ej 6) ?_)|((with_reducible refine OS 4 ?_);(refine Cj AL H 1 rfl ((Et.err 6).cs) (BJ _) ?_;clear H;intro wq H;(try simp only [LS] at H))));exact Ze7
  ·have HRE:Hid (LH x.Ac b=⟨0,NV x.ct.sc.Ac X.Ac (cons Y.l),[]⟩):=by show _=_;rw [HMM.Ab];unfold dK;rw [Ak Zf4,vD.Ab]
   have d1:decide ((500:Int)<(Y.n:Int))=false:=by simp<;>omega
   have d1n:decide (500<Y.n)=false:=by simp<;>omega
   have HNM:=Aa (wJ x.ct.sc X Y w5 (HX _ H.to).ct.sc (H.at_ 2 rfl).1 (HYO _ (Ai.refl _)) hyn F6 (fun f hf=>HNMD f (by rw [←vD.Ab];exact hf)));have hy5:Y.n≤500:=by omega
   clear hyl lX HMM;go_wp2_with (first|((with_reducible refine OP 37 ?_);(refine Af rfl Bb (.tmp 36) rfl q (0) rfl x.ct.sc.cs rfl ((H.blk 0 rfl).part 0 x.ct.sc.cs.toList rfl) ?_))|((with_reducible refine OP 38 ?_);(refine Bf Ev (H.blk 3 rfl) ?_)));refine HNM.mono ?_;rintro e w6 ⟨A,c',L,rfl,hL,hS⟩;replace H:=Aa (H.join hS);(try simp only [LS] at H);have eD:=Aa hL;clear hL hS HNM d1 d1n;go_wp2_with (first|((with_reducible refine OP 41 ?_);refine Bv (vx:=.slice A Y.n c') (v:=.agg (Et.mk 0 ⟨A,Y.n,c',L⟩ ⟨none,0,0,[]⟩).cs) rfl (.tmp 40) rfl rfl (yX A Y.n c' L) ?_)|((with_reducible refine OS 4 ?_);(refine Cj AL H 1 rfl ((Et.mk 0 ⟨A,Y.n,c',L⟩ ⟨none,0,0,[]⟩).cs) (BJ _) ?_;clear H;intro wq H;(try simp only [LS] at H))));(try simp only [Act.put,LP]);refine Bc (AO rfl AL rfl (H.blk 1 rfl) rfl) rfl ?_;rw [HRE.Ab];exact ⟨(Et.mk 0 ⟨A,Y.n,c',L⟩ ⟨none,0,0,[]⟩),rfl,H.to,CW (fun g=>nS.mk 0 g []) eD.Ab,fun wz kz=>⟨iZ (H.get 4 rfl) (H.get 5 rfl) (H.new 4 rfl) (H.new 5 rfl) Yw kz Xl,Row.MS wz⟩⟩
 ·have HRE:Hid (LH x.Ac b=⟨K,[],[]⟩):=by
   show _=_;unfold LH;exact Ze8
  have dk:(K !=0)=true:=by simpa using hK
  clear hK UZ hX;go_wp2_with (first|((with_reducible refine OP 20 ?_);refine Bv (vx:=.int .i64 K) (v:=.agg (Et.err K).cs) rfl (.tmp 19) rfl rfl (Ej K) ?_)|((with_reducible refine OS 4 ?_);(refine Cj AL H 1 rfl ((Et.err K).cs) (BJ _) ?_;clear H;intro wq H;(try simp only [LS] at H))));exact Ze7
theorem Aa8 (D:El) (w:World):(Instr.build 63 #[(0,.agg D.cs)]).run prog w=.ok (.agg (Ct.mk D 0 0 0 0 0 0 0).cs) w:=by kernel_rfl
theorem wB (x:JZ) (E:Ct):Eb #[.slice x.ct.sc.dm.A x.ct.sc.dm.n x.ct.sc.dm.c,.slice x.ct.sc.ms.A x.ct.sc.ms.n x.ct.sc.ms.c,.int .i64 x.ct.fa,.int .i64 x.ct.p0,.int .i64 x.ct.q0,.int .i64 x.ct.p1,.int .i64 x.ct.q1,.int .i64 x.ct.p2,.int .i64 x.ct.q2,.slice x.rows.A x.rows.n x.rows.c,.bool true,.bool x.closed] 0 E.cs.toList=(JZ.mk E x.rows true x.closed).cs:=by
 simp [Eb]
def Ap4 (T:Nat→Prop) (o:MC × nS) (w:World) (e:Ending) (w':World):Prop:=
 ∃ (y:JZ) (a:Et),e=.returned (.tuple #[.agg y.cs,.agg a.cs])∧Ai w w'∧y.Ac=o.1∧ET T w' (fun w=>y.rd w)∧a.Ac=o.2∧ET T w' fun w=>a.rd w
theorem Zd2 {p:Prop} (h:p:=by rw [hh] at c10;go_upto_region 20 with fail;clear c10 c11 k0 k1;go_wp2_with (first|((with_reducible refine OP 77 ?_);(refine Bf Be (H.blk 0 rfl) ?_))|((with_reducible refine OP 78 ?_);refine Bv (vx:=.int .i64 10) (v:=.agg (Et.err 10).cs) rfl (.const _) rfl rfl (Ej 10) ?_)|((with_reducible refine OS 4 ?_);refine Ae rfl Be (.tmp 4) (.tmp 77) rfl _ rfl (H.blk 2 rfl) rfl (x.cs) rfl rfl (Dt _) ?_;intro wq bq Aq;replace H:=Aa (H.AA 2 rfl Aq bq);(try simp only [LS] at H);have HA:=Aa Aq;clear Aq bq)|((with_reducible refine OS 5 ?_);refine Ae rfl AL (.tmp 5) (.tmp 78) rfl _ rfl (H.blk 3 rfl) rfl ((Et.err 10).cs) rfl rfl (BJ _) ?_;intro wq bq Aq;replace H:=Aa (H.AA 3 rfl Aq bq);(try simp only [LS] at H);have HB:=Aa Aq;clear Aq bq));(try simp only [Act.put,LP]);refine Bc (Ba rfl Be AL rfl rfl (H.blk 2 rfl) (H.blk 3 rfl) rfl rfl) rfl ?_;rw [HO.Ab];exact ⟨x,Et.err 10,rfl,H.to,rfl,Ns _ H.to,rfl,fun wz _=>BL _ wz⟩):p:=h
theorem Zj3 {p:Prop} (h:p:=by
 have HLD:=Aa (gY (TN T w w0) x data w0 HTN E9 HC.data HI Tp.Ab);go_wp2_with ((with_reducible refine OP 85 ?_);(refine Bf Be (H.blk 0 rfl) ?_));refine HLD.mono ?_;rintro e w1 ⟨y',rfl,YK,hb1,hys⟩;replace H:=Aa (H.Av hb1);have vD:=Aa YK;have HYS:=Aa hys;clear c10 c11 k0 k1;clear YK hb1 hys HLD;go_upto_region 25 with ((with_reducible refine OS 8 ?_);(refine DX Be (y'.cs) (Dt _) ?_;replace H:=Aa (H.alloc (y'.cs) 65);(try simp only [LS] at H);skip));(try simp only [Act.put,LP]);have HWA:Hid (Fr (TN T w w0) w1 (World.alloc w1 (.cells y'.cs 65))):=Fr.MR ((Ai.refl w1).alloc _);generalize w1.heap.size=z8 at H ⊢;generalize World.alloc w1 _=w8 at H HWA ⊢;go_wp2_with (first|((with_reducible refine OP 91 ?_);(refine Bf Be (H.blk 4 rfl) ?_))|((with_reducible refine OP 93 ?_);refine Bv (vx:=.int .i64 (DF x.Ac data).2) (v:=.agg (Et.err (DF x.Ac data).2).cs) rfl (.tmp 92) rfl rfl (Ej _) ?_)|((with_reducible refine OS 4 ?_);refine Ae rfl Be (.tmp 4) (.tmp 91) rfl _ rfl (H.blk 2 rfl) rfl (y'.cs) rfl rfl (Dt _) ?_;intro wq bq Aq;replace H:=Aa (H.AA 2 rfl Aq bq);(try simp only [LS] at H);have HA:=Aa Aq;clear Aq bq)|((with_reducible refine OS 5 ?_);refine Ae rfl AL (.tmp 5) (.tmp 93) rfl _ rfl (H.blk 3 rfl) rfl ((Et.err (DF x.Ac data).2).cs) rfl rfl (BJ _) ?_;intro wq bq Aq;replace H:=Aa (H.AA 3 rfl Aq bq);(try simp only [LS] at H);have HB:=Aa Aq;clear Aq bq));(try simp only [Act.put,LP]);refine Bc (Ba rfl Be AL rfl rfl (H.blk 2 rfl) (H.blk 3 rfl) rfl rfl) rfl ?_;rw [HO.Ab]
 exact ⟨y',Et.err (DF x.Ac data).2,rfl,H.to,vD.Ab,HYS.narrow (HWA.trans ((Fr.Gl HA.Ab).mono (fun g (hg:some _=some g)=>by injection hg with hg;subst hg;exact .inr vC.1)|>.trans ((Fr.Gl HB.Ab).mono fun g (hg:some _=some g)=>by injection hg with hg;subst hg;exact .inr vC.2) fun g h=>.inl h:Fr (TN T w w0) _ _) fun g h=>.inl h),rfl,fun wz _=>BL _ wz⟩
):p:=h
theorem Zr6 {p:Prop} (h:p:=by (try simp only [Act.put,LP]);refine Bc (Ba rfl Be AL rfl rfl (H.blk 2 rfl) (H.blk 3 rfl) rfl rfl) rfl ?_;rw [HO.Ab];exact ⟨x,Et.err 2,rfl,H.to,rfl,Ns _ H.to,rfl,fun wz _=>BL _ wz⟩):p:=h
theorem Zg3 {p:Prop} (h:p:=by go_upto_region 15 with fail;clear c10 c11 k0 k1;go_wp2_with (first|((with_reducible refine OP 66 ?_);(refine Bf Be (H.blk 0 rfl) ?_))|((with_reducible refine OP 67 ?_);refine Bv (vx:=.int .i64 2) (v:=.agg (Et.err 2).cs) rfl (.const _) rfl rfl (Ej 2) ?_)|((with_reducible refine OS 4 ?_);refine Ae rfl Be (.tmp 4) (.tmp 66) rfl _ rfl (H.blk 2 rfl) rfl (x.cs) rfl rfl (Dt _) ?_;intro wq bq Aq;replace H:=Aa (H.AA 2 rfl Aq bq);(try simp only [LS] at H);have HA:=Aa Aq;clear Aq bq)|((with_reducible refine OS 5 ?_);refine Ae rfl AL (.tmp 5) (.tmp 67) rfl _ rfl (H.blk 3 rfl) rfl ((Et.err 2).cs) rfl rfl (BJ _) ?_;intro wq bq Aq;replace H:=Aa (H.AA 3 rfl Aq bq);(try simp only [LS] at H);have HB:=Aa Aq;clear Aq bq));exact Zr6):p:=h
theorem Zl2 {p:Prop} (h:p:=by go_wp2_with (first|((with_reducible refine OP 22 ?_);(refine Bf Be (H.blk 0 rfl) ?_))|((with_reducible refine OP 23 ?_);refine Bv (vx:=.int .i64 2) (v:=.agg (Et.err 2).cs) rfl (.const _) rfl rfl (Ej 2) ?_)|((with_reducible refine OS 4 ?_);refine Ae rfl Be (.tmp 4) (.tmp 22) rfl _ rfl (H.blk 2 rfl) rfl (x.cs) rfl rfl (Dt _) ?_;intro wq bq Aq;replace H:=Aa (H.AA 2 rfl Aq bq);(try simp only [LS] at H);have HA:=Aa Aq;clear Aq bq)|((with_reducible refine OS 5 ?_);refine Ae rfl AL (.tmp 5) (.tmp 23) rfl _ rfl (H.blk 3 rfl) rfl ((Et.err 2).cs) rfl rfl (BJ _) ?_;intro wq bq Aq;replace H:=Aa (H.AA 3 rfl Aq bq);(try simp only [LS] at H);have HB:=Aa Aq;clear Aq bq));exact Zr6):p:=h
theorem zT (T:Nat→Prop) (x:JZ) (c:Wt) (w:World) (hT:∀ g,T g→g<w.heap.size) (hx:ET T w fun w=>x.rd w) (hc:c.ok) (hi:MInv x.Ac):Calls prog 21 #[.agg x.cs,.agg c.cs] w (Ap4 T (Dr x.Ac c) w):=by
 have Ns:=Aa (fun w' (h:Ai w w')=>hx.Av h);have HX:Hid (∀ w',Ai w w'→x.rd w'):=fun w' h=>hx w' (Fr.MR h)
 have HXW:=Aa hx;have hx0:=hx.now;have HXI:=Aa hx0.ct.ints.1;have Yw:=Aa hT;have HI:=Aa hi;have HC:=Aa hc;have hrn:x.rows.n≤4000:=by have h1:=hi.len;have h2:=hx0.rows.len;have h3:x.Ac.rows.length=x.rows.l.length:=AR _;omega
 have uQ:=Aa (fun w' (h:Ai w w')=>ZP x w' (HX w' h).rows Xl HI.fit);have H:=Aa (((((SL.start No w).alloc x.cs 65).alloc c.cs 41).alloc #[.slice none 0 0,.slice none 0 0,.int .i64 0,.int .i64 0,.int .i64 0,.int .i64 0,.int .i64 0,.int .i64 0,.int .i64 0,.slice none 0 0,.bool false,.bool false] 65).alloc #[.int .i64 0,.slice none 0 0,.slice none 0 0] 49);(try simp only [LS] at H);have vC:Hid ((w.heap.size≤w.heap.size+2∧w.heap.size+2<(World.alloc (World.alloc (World.alloc (World.alloc w (.cells x.cs 65)) (.cells c.cs 41)) (.cells #[.slice none 0 0,.slice none 0 0,.int .i64 0,.int .i64 0,.int .i64 0,.int .i64 0,.int .i64 0,.int .i64 0,.int .i64 0,.slice none 0 0,.bool false,.bool false] 65)) (.cells #[.int .i64 0,.slice none 0 0,.slice none 0 0] 49)).heap.size)∧(w.heap.size≤w.heap.size+3∧w.heap.size+3<(World.alloc (World.alloc (World.alloc (World.alloc w (.cells x.cs 65)) (.cells c.cs 41)) (.cells #[.slice none 0 0,.slice none 0 0,.int .i64 0,.int .i64 0,.int .i64 0,.int .i64 0,.int .i64 0,.int .i64 0,.int .i64 0,.slice none 0 0,.bool false,.bool false] 65)) (.cells #[.int .i64 0,.slice none 0 0,.slice none 0 0] 49)).heap.size)):=⟨⟨Xl,uH⟩,⟨Xl,uH⟩⟩;clear hT hx hc hi hx0;obtain ⟨kind,data⟩:=c;go_enter func21,ntmps21;go_upto_region 1 with fail;generalize h3:w.heap.size+3=s5 at H vC ⊢;clear h3;generalize h2:w.heap.size+2=s4 at H vC ⊢;clear h2;generalize w.heap.size+1=y at H ⊢;generalize w.heap.size=q at H ⊢;generalize World.alloc (World.alloc (World.alloc (World.alloc _ _) _) _) _=w0 at H vC ⊢;have HTN:Hid (∀ g,TN T w w0 g→g<w0.heap.size):=fun g hg=>hg.elim (fun h=>KI (Yw g h) H.size) (fun h=>h.2)
 have E9:Hid (ET (TN T w w0) w0 fun w=>x.rd w):=HXW.wide (Fr.MR H.to);have HSZ0:=Aa H.to;have c10:w0.cell? ⟨q,10,none⟩=some (.bool x.has):=(H.blk 0 rfl).cell 10;have c11:w0.cell? ⟨q,11,none⟩=some (.bool x.closed):=(H.blk 0 rfl).cell 11;have k0:w0.cell? ⟨y,0,none⟩=some (.int .i64 kind):=(H.blk 1 rfl).cell 0;have k1:w0.cell? ⟨y,1,none⟩=some (.string ⟨data.toArray⟩):=(H.blk 1 rfl).cell 1;cases hcl:x.closed with
 |true=>
  have HO:Hid (Dr x.Ac ⟨kind,data⟩=(x.Ac,⟨17,[],[]⟩)):=by show _=_;unfold Dr;simp [show x.Ac.closed=true from hcl]
  rw [hcl] at c11;go_upto_region 2 with fail;clear c10 c11 k0 k1;go_wp2_with (first|((with_reducible refine OP 12 ?_);(refine Bf Be (H.blk 0 rfl) ?_))|((with_reducible refine OP 13 ?_);refine Bv (vx:=.int .i64 17) (v:=.agg (Et.err 17).cs) rfl (.const _) rfl rfl (Ej 17) ?_)|((with_reducible refine OS 4 ?_);refine Ae rfl Be (.tmp 4) (.tmp 12) rfl _ rfl (H.blk 2 rfl) rfl (x.cs) rfl rfl (Dt _) ?_;intro wq bq Aq;replace H:=Aa (H.AA 2 rfl Aq bq);(try simp only [LS] at H);have HA:=Aa Aq;clear Aq bq)|((with_reducible refine OS 5 ?_);refine Ae rfl AL (.tmp 5) (.tmp 13) rfl _ rfl (H.blk 3 rfl) rfl ((Et.err 17).cs) rfl rfl (BJ _) ?_;intro wq bq Aq;replace H:=Aa (H.AA 3 rfl Aq bq);(try simp only [LS] at H);have HB:=Aa Aq;clear Aq bq));(try simp only [Act.put,LP]);refine Bc (Ba rfl Be AL rfl rfl (H.blk 2 rfl) (H.blk 3 rfl) rfl rfl) rfl ?_;rw [HO.Ab];exact ⟨x,Et.err 17,rfl,H.to,rfl,Ns _ H.to,rfl,fun wz _=>BL _ wz⟩
 |false=>
 have PM:Hid (x.Ac.closed=false):=hcl;rw [hcl] at c11;by_cases hk:kind<1∨7<kind
 ·have HO:Hid (Dr x.Ac ⟨kind,data⟩=(x.Ac,⟨2,[],[]⟩)):=by show _=_;unfold Dr;simp [PM.Ab,hk]
  by_cases hk1:kind<1
  ·have d1:decide (kind<1)=true:=by simpa using hk1
   clear hk hk1;go_upto_region 4 with fail;clear c10 c11 k0 k1;clear d1;exact Zl2
  ·have d1:decide (kind<1)=false:=by simpa using hk1
   have d2:decide (7<kind)=true:=by
    have h:7<kind:=by omega
    simpa using h
   clear hk hk1;go_upto_region 4 with fail;clear c10 c11 k0 k1;clear d1 d2;exact Zl2
 ·have hk7:kind=1∨kind=2∨kind=3∨kind=4∨kind=5∨kind=6∨kind=7:=by omega
  clear hk;rcases hk7 with rfl|rfl|rfl|rfl|rfl|rfl|rfl
  ·cases hh:x.has with
   |true=>
    have HO:Hid (Dr x.Ac ⟨1,data⟩=(x.Ac,⟨11,[],[]⟩)):=by show _=_;unfold Dr;simp [PM.Ab,IP,show x.Ac.has=true from hh]
    rw [hh] at c10;go_upto_region 7 with fail;clear c10 c11 k0 k1;go_wp2_with (first|((with_reducible refine OP 29 ?_);(refine Bf Be (H.blk 0 rfl) ?_))|((with_reducible refine OP 30 ?_);refine Bv (vx:=.int .i64 11) (v:=.agg (Et.err 11).cs) rfl (.const _) rfl rfl (Ej 11) ?_)|((with_reducible refine OS 4 ?_);refine Ae rfl Be (.tmp 4) (.tmp 29) rfl _ rfl (H.blk 2 rfl) rfl (x.cs) rfl rfl (Dt _) ?_;intro wq bq Aq;replace H:=Aa (H.AA 2 rfl Aq bq);(try simp only [LS] at H);have HA:=Aa Aq;clear Aq bq)|((with_reducible refine OS 5 ?_);refine Ae rfl AL (.tmp 5) (.tmp 30) rfl _ rfl (H.blk 3 rfl) rfl ((Et.err 11).cs) rfl rfl (BJ _) ?_;intro wq bq Aq;replace H:=Aa (H.AA 3 rfl Aq bq);(try simp only [LS] at H);have HB:=Aa Aq;clear Aq bq));(try simp only [Act.put,LP]);refine Bc (Ba rfl Be AL rfl rfl (H.blk 2 rfl) (H.blk 3 rfl) rfl rfl) rfl ?_;rw [HO.Ab];exact ⟨x,Et.err 11,rfl,H.to,rfl,Ns _ H.to,rfl,fun wz _=>BL _ wz⟩
   |false=>
    have HHF:Hid (x.Ac.has=false):=hh;rw [hh] at c10;have HSC:=Aa (fun w'=>oQ data w' HC.data);go_wp2_with fail;refine (HSC _).mono ?_;rintro e w1 ⟨D,rfl,hD,hb1,hN1,QO⟩;obtain ⟨K,hK⟩:∃ K,K=(Ey data).2:=⟨_,rfl⟩;rw [←hK] at hN1 QO ⊢;have HK:=Aa hK;clear c10 c11 k0 k1;clear hK HSC;by_cases hz:K=0
    ·subst hz;have hN:=hN1 rfl;replace H:=Aa (H.add hb1 _ hN.1 hN.2);(try simp only [LS] at H);have HD:=Aa hD;have HO:Hid (Dr x.Ac ⟨1,data⟩=(⟨⟨(Ey data).1,0,0,0,0,0,0,0⟩,x.Ac.rows,true,x.Ac.closed⟩,⟨0,[],[]⟩)):=by show _=_;unfold Dr IP;simp [PM.Ab,HHF.Ab,←HK.Ab]
     clear hN1 QO hN hb1 hD HK;go_upto_region 9 with ((with_reducible refine OS 6 ?_);(refine DX Bb (D.cs) (FE D) ?_;replace H:=Aa (H.alloc (D.cs) 25);(try simp only [LS] at H)));(try simp only [Act.put,LP]);(try simp only [LS] at H);generalize w1.heap.size=z6 at H ⊢;generalize World.alloc w1 _=w2 at H ⊢;have c10:w2.cell? ⟨q,10,none⟩=some (.bool x.has):=(H.blk 0 rfl).cell 10;have f10:=(H.blk 0 rfl).frozen 10;go_upto_region 12 with fail;replace H:=Aa (H.setCell 0 rfl 10 (.bool true));(try simp only [LS] at H);clear c10 f10;generalize World.setCell _ _ _=w3 at H ⊢;go_wp2_with (first|((with_reducible refine OP 43 ?_);(refine Bf Bb (H.blk 5 rfl) ?_))|((with_reducible refine OP 44 ?_);refine Bv (vx:=.agg D.cs) (v:=.agg (Ct.mk D 0 0 0 0 0 0 0).cs) rfl (.tmp 43) rfl rfl (Aa8 D) ?_)|((with_reducible refine OS 45 ?_);refine Bq rfl BI (.tmp 45) (.tmp 44) rfl q 0 rfl (H.blk 0 rfl) (Ct.mk D 0 0 0 0 0 0 0).cs rfl uH rfl (Oc _) ?_;intro wq bq Aq;rw [wB] at bq;replace H:=Aa (H.AA 0 rfl Aq bq);(try simp only [LS] at H);clear Aq bq)|((with_reducible refine OP 46 ?_);(refine Bf Be (H.blk 0 rfl) ?_))|((with_reducible refine OP 47 ?_);refine Ij rfl rfl UT ?_)|((with_reducible refine OS 4 ?_);refine Ae rfl Be (.tmp 4) (.tmp 46) rfl _ rfl (H.blk 2 rfl) rfl ((JZ.mk (Ct.mk D 0 0 0 0 0 0 0) x.rows true x.closed).cs) rfl rfl (Dt _) ?_;intro wq bq Aq;replace H:=Aa (H.AA 2 rfl Aq bq);(try simp only [LS] at H);have HA:=Aa Aq;clear Aq bq)|((with_reducible refine OS 5 ?_);refine Ae rfl AL (.tmp 5) (.tmp 47) rfl _ rfl (H.blk 3 rfl) rfl ((Et.err 0).cs) rfl rfl (BJ _) ?_;intro wq bq Aq;replace H:=Aa (H.AA 3 rfl Aq bq);(try simp only [LS] at H);have HB:=Aa Aq;clear Aq bq));(try simp only [Act.put,LP]);refine Bc (Ba rfl Be AL rfl rfl (H.blk 2 rfl) (H.blk 3 rfl) rfl rfl) rfl ?_;rw [HO.Ab]
     have h3:=(ET.LY (T:=T) (r:=Kj D) ⟨H.get 4 rfl,H.new 4 rfl⟩ Yw.Ab);have h4:=Ns _ H.to;refine ⟨JZ.mk (Ct.mk D 0 0 0 0 0 0 0) x.rows true x.closed,Et.err 0,rfl,H.to,?_,fun wz kz=>⟨⟨(h3 wz kz).rd,BN,BN,BN,BN,BN,BN,BN⟩,GH (h3 wz kz),(h4 wz kz).rows⟩,rfl,fun wz _=>BL _ wz⟩;show MC.mk ⟨D.Ac,0,0,0,0,0,0,0⟩ _ true _=_;rw [HD.Ab]
     rfl
    ·have HO:Hid (Dr x.Ac ⟨1,data⟩=(x.Ac,⟨K,[],[]⟩)):=by show _=_;unfold Dr IP;simp [PM.Ab,HHF.Ab,←HK.Ab,hz]
     replace H:=Aa (H.Av hb1);have dk:(K !=0)=true:=by simpa using hz
     have HDN:=Aa (QO hz);clear hN1 QO hb1 hD HK hz;go_upto_region 9 with ((with_reducible refine OS 6 ?_);(refine DX Bb (D.cs) (FE D) ?_;replace H:=Aa (H.alloc (D.cs) 25);(try simp only [LS] at H)));(try simp only [Act.put,LP]);(try simp only [LS] at H);generalize w1.heap.size=z6 at H ⊢;generalize World.alloc w1 _=w2 at H ⊢;go_wp2_with (first|((with_reducible refine OP 39 ?_);(refine Bf Be (H.blk 0 rfl) ?_))|((with_reducible refine OP 41 ?_);refine Bv (vx:=.int .i64 K) (v:=.agg (Et.err K).cs) rfl (.tmp 40) rfl rfl (Ej K) ?_)|((with_reducible refine OS 4 ?_);refine Ae rfl Be (.tmp 4) (.tmp 39) rfl _ rfl (H.blk 2 rfl) rfl (x.cs) rfl rfl (Dt _) ?_;intro wq bq Aq;replace H:=Aa (H.AA 2 rfl Aq bq);(try simp only [LS] at H);have HA:=Aa Aq;clear Aq bq)|((with_reducible refine OS 5 ?_);refine Ae rfl AL (.tmp 5) (.tmp 41) rfl _ rfl (H.blk 3 rfl) rfl ((Et.err K).cs) rfl rfl (BJ _) ?_;intro wq bq Aq;replace H:=Aa (H.AA 3 rfl Aq bq);(try simp only [LS] at H);have HB:=Aa Aq;clear Aq bq));(try simp only [Act.put,LP]);refine Bc (Ba rfl Be AL rfl rfl (H.blk 2 rfl) (H.blk 3 rfl) rfl rfl) rfl ?_;rw [HO.Ab];exact ⟨x,Et.err K,rfl,H.to,rfl,Ns _ H.to,rfl,fun wz _=>BL _ wz⟩
  ·cases hh:x.has with
   |false=>
    have HO:Hid (Dr x.Ac ⟨2,data⟩=(x.Ac,⟨10,[],[]⟩)):=by show _=_;unfold Dr;simp [PM.Ab,show x.Ac.has=false from hh]
    exact Zd2
   |true=>
    have Tp:Hid (x.has=true):=hh;have nG:Hid (x.Ac.has=true):=hh;rw [hh] at c10;clear hh;have HO:Hid (Dr x.Ac ⟨2,data⟩=((DF x.Ac data).1,⟨(DF x.Ac data).2,[],[]⟩)):=by show _=_;unfold Dr;simp [PM.Ab,nG.Ab]
    exact Zj3
  ·cases hh:x.has with
   |false=>
    have HO:Hid (Dr x.Ac ⟨3,data⟩=(x.Ac,⟨10,[],[]⟩)):=by show _=_;unfold Dr;simp [PM.Ab,show x.Ac.has=false from hh]
    exact Zd2
   |true=>
    have Tp:Hid (x.has=true):=hh;have nG:Hid (x.Ac.has=true):=hh;rw [hh] at c10;clear hh;have HO:Hid (Dr x.Ac ⟨3,data⟩=((DF x.Ac data).1,⟨(DF x.Ac data).2,[],[]⟩)):=by show _=_;unfold Dr;simp [PM.Ab,nG.Ab]
    exact Zj3
  ·cases data with
   |cons a l=>
    have HO:Hid (Dr x.Ac ⟨4,a::l⟩=(x.Ac,⟨2,[],[]⟩)):=by show _=_;unfold Dr;simp [PM.Ab]
    exact Zg3
   |nil=>
    cases hh:x.has with
    |false=>
     have HO:Hid (Dr x.Ac ⟨4,[]⟩=(x.Ac,⟨10,[],[]⟩)):=by show _=_;unfold Dr;simp [PM.Ab,show x.Ac.has=false from hh]
     exact Zd2
    |true=>
     have Tp:Hid (x.has=true):=hh;have nG:Hid (x.Ac.has=true):=hh;rw [hh] at c10;clear hh;have HO:Hid (Dr x.Ac ⟨4,[]⟩=(x.Ac,⟨0,[],[]⟩)):=by show _=_;unfold Dr;simp [PM.Ab,nG.Ab]
     go_upto_region 30 with fail;clear c10 c11 k0 k1;go_wp2_with (first|((with_reducible refine OP 112 ?_);(refine Bf Be (H.blk 0 rfl) ?_))|((with_reducible refine OP 113 ?_);refine Ij rfl rfl UT ?_)|((with_reducible refine OS 4 ?_);refine Ae rfl Be (.tmp 4) (.tmp 112) rfl _ rfl (H.blk 2 rfl) rfl (x.cs) rfl rfl (Dt _) ?_;intro wq bq Aq;replace H:=Aa (H.AA 2 rfl Aq bq);(try simp only [LS] at H);have HA:=Aa Aq;clear Aq bq)|((with_reducible refine OS 5 ?_);refine Ae rfl AL (.tmp 5) (.tmp 113) rfl _ rfl (H.blk 3 rfl) rfl ((Et.err 0).cs) rfl rfl (BJ _) ?_;intro wq bq Aq;replace H:=Aa (H.AA 3 rfl Aq bq);(try simp only [LS] at H);have HB:=Aa Aq;clear Aq bq));(try simp only [Act.put,LP]);refine Bc (Ba rfl Be AL rfl rfl (H.blk 2 rfl) (H.blk 3 rfl) rfl rfl) rfl ?_;rw [HO.Ab];exact ⟨x,Et.err 0,rfl,H.to,rfl,Ns _ H.to,rfl,fun wz _=>BL _ wz⟩
  ·cases hh:x.has with
   |false=>
    have HO:Hid (Dr x.Ac ⟨5,data⟩=(x.Ac,⟨10,[],[]⟩)):=by show _=_;unfold Dr;simp [PM.Ab,show x.Ac.has=false from hh]
    exact Zd2
   |true=>
    have Tp:Hid (x.has=true):=hh;have nG:Hid (x.Ac.has=true):=hh;rw [hh] at c10;clear hh;have HO:Hid (Dr x.Ac ⟨5,data⟩=(x.Ac,LH x.Ac data)):=by show _=_;unfold Dr;simp [PM.Ab,nG.Ab]
    have HAS:Hid (∀ w',Ai w0 w'→Calls prog 44 #[.agg x.cs,.string ⟨data.toArray⟩] w' (YR (TN T w w0) (LH x.Ac data) w')):=fun w' h=>Af0 (TN T w w0) x data w' (fun g hg=>KI (HTN g hg) h.size) (HX w' (HSZ0.trans h)) HC.data HI Tp.Ab
    have Nt:Hid (Ai w0 (World.drew w0)):=(Ai.refl w0).drew;go_upto_region 27 with fail;clear c10 c11 k0 k1;refine Ep (S:=fun W=>Bh W q 65 x.cs∧W.cell? ⟨y,1,none⟩=some (.string ⟨data.toArray⟩)) Za0 ⟨H.blk 0 rfl,(H.blk 1 rfl).cell 1⟩ fun hHeld=>?_;replace H:=Aa (H.drew);generalize World.drew _=w8 at *;refine Lx (i:=0) (v:=.agg x.cs) Ml Za0 Za0 Za0 Za7 (DU Be (by rfl) (.tmp 2) rfl q 0 rfl (fun w h=>Bh.part h.1 0 x.cs.toList rfl) rfl) Zb0 ?_;try simp only [Act.put,LP]
    refine Lx (i:=1) (v:=.agg x.cs) KF Za0 Za0 Za0 Za7 (DU Be (by rfl) (.tmp 2) rfl q 0 rfl (fun w h=>Bh.part h.1 0 x.cs.toList rfl) rfl) Zb0 ?_;try simp only [Act.put,LP]
    refine Bd MN ?_;refine Bd Ky ?_;refine BG LJ fun KK Ad=>?_;go_simp;refine (HAS _ Nt.Ab).mono ?_;rintro e' w1 ⟨a,rfl,hb1,hac,has⟩;replace H:=Aa (H.Av hb1);have HAC:=Aa hac;have HAT:=Aa has;clear hb1 hac has;refine Aj Ad ⟨H.blk 0 rfl,(H.blk 1 rfl).cell 1⟩ fun hHeld=>?_;clear Ad KK;refine BG KW fun KK Ad=>?_;refine CK rfl Be (.tmp 4) (.tmp 96) rfl _ rfl (H.blk 2 rfl) rfl (x.cs) rfl rfl (Dt x) ?_;intro wq bq Aq;replace H:=Aa (H.AA 2 rfl Aq bq);(try simp only [LS] at H);have HA:=Aa Aq;clear Aq bq;refine Aj Ad ⟨H.blk 0 rfl,(H.blk 1 rfl).cell 1⟩ fun hHeld=>?_;clear Ad KK;refine BG MI fun KK Ad=>?_;refine CK rfl AL (.tmp 5) (.tmp 100) rfl _ rfl (H.blk 3 rfl) rfl (a.cs) rfl rfl (BJ a) ?_;intro wq bq Aq;replace H:=Aa (H.AA 3 rfl Aq bq);(try simp only [LS] at H);have HB:=Aa Aq;clear Aq bq;refine Aj Ad ⟨H.blk 0 rfl,(H.blk 1 rfl).cell 1⟩ fun hHeld=>?_;clear Ad KK;refine BZ ?_;clear hHeld;clear HAS;go_wp2_with fail;(try simp only [Act.put,LP]);refine Bc (Ba rfl Be AL rfl rfl (H.blk 2 rfl) (H.blk 3 rfl) rfl rfl) rfl ?_;rw [HO.Ab];exact ⟨x,a,rfl,H.to,rfl,Ns _ H.to,HAC.Ab,HAT.narrow ((Fr.Gl HA.Ab).mono (fun g (hg:some _=some g)=>by injection hg with hg;subst hg;exact .inr vC.1)|>.trans ((Fr.Gl HB.Ab).mono fun g (hg:some _=some g)=>by injection hg with hg;subst hg;exact .inr vC.2) fun g h=>.inl h:Fr (TN T w w0) _ _)⟩
  ·cases data with
   |cons a l=>
    have HO:Hid (Dr x.Ac ⟨6,a::l⟩=(x.Ac,⟨2,[],[]⟩)):=by show _=_;unfold Dr;simp [PM.Ab]
    exact Zg3
   |nil=>
    cases hh:x.has with
    |false=>
     have HO:Hid (Dr x.Ac ⟨6,[]⟩=(x.Ac,⟨10,[],[]⟩)):=by show _=_;unfold Dr;simp [PM.Ab,show x.Ac.has=false from hh]
     exact Zd2
    |true=>
     have Tp:Hid (x.has=true):=hh;have nG:Hid (x.Ac.has=true):=hh;rw [hh] at c10;clear hh;have HO:Hid (Dr x.Ac ⟨6,[]⟩=(x.Ac,⟨0,[],[x.Ac.cat.fa,((Kr x.Ac.rows).length:Int)]⟩)):=by show _=_;unfold Dr;simp [PM.Ab,nG.Ab]
     go_upto_region 29 with fail;clear c10 c11 k0 k1;refine Ep (S:=fun W=>Bh W q 65 x.cs∧W.cell? ⟨q,2,none⟩=some (.int .i64 x.ct.fa)) Za0 ⟨H.blk 0 rfl,(H.blk 0 rfl).cell 2⟩ fun hHeld=>?_;replace H:=Aa (H.drew);generalize World.drew _=w8 at *;refine Lx (i:=0) (v:=.agg x.cs) Ml Za0 Za0 Za0 Za7 (DU Be (by rfl) (.tmp 2) rfl q 0 rfl (fun w h=>Bh.part h.1 0 x.cs.toList rfl) rfl) Zb0 ?_;try simp only [Act.put,LP]
     refine Bd KF ?_;refine Bd MN ?_;refine Bd Ky ?_;refine Lx (i:=4) (v:=.agg x.cs) LJ Za0 Za0 Za0 Za7 (DU Be (by rfl) (.tmp 2) rfl q 0 rfl (fun w h=>Bh.part h.1 0 x.cs.toList rfl) rfl) Zb0 ?_;try simp only [Act.put,LP]
     refine BG KW fun KK Ad=>?_;go_simp;refine (uQ _ H.to).mono ?_;rintro e' w6 ⟨F,rfl,hF,hFo,hFn,hb6⟩;replace H:=Aa (H.Av hb6);have zM:=Aa hF;have HFL:=Aa hFo.len;clear hF hFo hb6;(try simp only [Row.v]);refine Aj Ad ⟨H.blk 0 rfl,(H.blk 0 rfl).cell 2⟩ fun hHeld=>?_;clear Ad KK;refine Bd MI ?_;refine Oh Lj MH (fun KK Ad=>?_) fun KK Ad=>?_
     ·refine PZ rfl (.tmp 106) (.tmp 109) rfl x.ct.fa F.n rfl (by go_simp) ?_;replace H:=Aa (H.alloc #[.int .i64 x.ct.fa,.int .i64 F.n] 3);(try simp only [LS] at H);generalize w6.heap.size=g6 at H ⊢;generalize World.alloc w6 _=w7 at H ⊢;refine Aj Ad ⟨H.blk 0 rfl,(H.blk 0 rfl).cell 2⟩ fun hHeld=>?_;clear Ad KK;refine Oh Mk MH (fun KK Ad=>?_) fun KK Ad=>?_
      ·refine Ni rfl (.tmp 110) rfl (vx:=.slice (some ⟨g6,0,none⟩) 2 2) (v:=.agg (Et.mk 0 ⟨none,0,0,[]⟩ ⟨some ⟨g6,0,none⟩,2,2,[x.ct.fa,F.n]⟩).cs) rfl (fun w=>by kernel_rfl) ?_;refine Aj Ad ⟨H.blk 0 rfl,(H.blk 0 rfl).cell 2⟩ fun hHeld=>?_;clear Ad KK;refine BG MH fun KK Ad=>?_;refine CK rfl Be (.tmp 4) (.tmp 103) rfl _ rfl (H.blk 2 rfl) rfl (x.cs) rfl rfl (Dt x) ?_;intro wq bq Aq;replace H:=Aa (H.AA 2 rfl Aq bq);(try simp only [LS] at H);clear Aq bq;refine Aj Ad ⟨H.blk 0 rfl,(H.blk 0 rfl).cell 2⟩ fun hHeld=>?_;clear Ad KK;refine BG FO fun KK Ad=>?_;refine CK rfl AL (.tmp 5) (.tmp 111) rfl _ rfl (H.blk 3 rfl) rfl ((Et.mk 0 ⟨none,0,0,[]⟩ ⟨some ⟨g6,0,none⟩,2,2,[x.ct.fa,F.n]⟩).cs) rfl rfl (BJ _) ?_;intro wq bq Aq;replace H:=Aa (H.AA 3 rfl Aq bq);(try simp only [LS] at H);clear Aq bq;refine Aj Ad ⟨H.blk 0 rfl,(H.blk 0 rfl).cell 2⟩ fun hHeld=>?_;clear Ad KK;refine BZ ?_;clear hHeld;clear uQ;go_wp2_with fail;(try simp only [Act.put,LP]);refine Bc (Ba rfl Be AL rfl rfl (H.blk 2 rfl) (H.blk 3 rfl) rfl rfl) rfl ?_;rw [HO.Ab];refine ⟨x,(Et.mk 0 ⟨none,0,0,[]⟩ ⟨some ⟨g6,0,none⟩,2,2,[x.ct.fa,F.n]⟩),rfl,H.to,rfl,Ns _ H.to,?_,fun wz kz=>⟨Row.MS wz,VM ((ET.LY (T:=T) (r:=Aw g6 3 #[.int .i64 x.ct.fa,.int .i64 F.n]) ⟨H.get 4 rfl,H.new 4 rfl⟩ Yw.Ab) wz kz) HXI Za5⟩⟩;show nS.mk 0 [] [x.ct.fa,(F.n:Int)]=_;rw [←HFL.Ab,←AR,zM.Ab]
       rfl
      ·refine CK rfl Be (.tmp 4) (.tmp 103) rfl _ rfl (H.blk 2 rfl) rfl (x.cs) rfl rfl (Dt x) ?_;intro wq bq Aq;replace H:=Aa (H.AA 2 rfl Aq bq);(try simp only [LS] at H);clear Aq bq;refine Aj Ad ⟨H.blk 0 rfl,(H.blk 0 rfl).cell 2⟩ fun hHeld=>?_;clear Ad KK;refine BG Mk fun KK Ad=>?_;refine Ni rfl (.tmp 110) rfl (vx:=.slice (some ⟨g6,0,none⟩) 2 2) (v:=.agg (Et.mk 0 ⟨none,0,0,[]⟩ ⟨some ⟨g6,0,none⟩,2,2,[x.ct.fa,F.n]⟩).cs) rfl (fun w=>by kernel_rfl) ?_;refine Aj Ad ⟨H.blk 0 rfl,(H.blk 0 rfl).cell 2⟩ fun hHeld=>?_;clear Ad KK;refine BG FO fun KK Ad=>?_;refine CK rfl AL (.tmp 5) (.tmp 111) rfl _ rfl (H.blk 3 rfl) rfl ((Et.mk 0 ⟨none,0,0,[]⟩ ⟨some ⟨g6,0,none⟩,2,2,[x.ct.fa,F.n]⟩).cs) rfl rfl (BJ _) ?_;intro wq bq Aq;replace H:=Aa (H.AA 3 rfl Aq bq);(try simp only [LS] at H);clear Aq bq;refine Aj Ad ⟨H.blk 0 rfl,(H.blk 0 rfl).cell 2⟩ fun hHeld=>?_;clear Ad KK;refine BZ ?_;clear hHeld;clear uQ;go_wp2_with fail;(try simp only [Act.put,LP]);refine Bc (Ba rfl Be AL rfl rfl (H.blk 2 rfl) (H.blk 3 rfl) rfl rfl) rfl ?_;rw [HO.Ab];refine ⟨x,(Et.mk 0 ⟨none,0,0,[]⟩ ⟨some ⟨g6,0,none⟩,2,2,[x.ct.fa,F.n]⟩),rfl,H.to,rfl,Ns _ H.to,?_,fun wz kz=>⟨Row.MS wz,VM ((ET.LY (T:=T) (r:=Aw g6 3 #[.int .i64 x.ct.fa,.int .i64 F.n]) ⟨H.get 4 rfl,H.new 4 rfl⟩ Yw.Ab) wz kz) HXI Za5⟩⟩;show nS.mk 0 [] [x.ct.fa,(F.n:Int)]=_;rw [←HFL.Ab,←AR,zM.Ab]
       rfl
     ·refine CK rfl Be (.tmp 4) (.tmp 103) rfl _ rfl (H.blk 2 rfl) rfl (x.cs) rfl rfl (Dt x) ?_;intro wq bq Aq;replace H:=Aa (H.AA 2 rfl Aq bq);(try simp only [LS] at H);clear Aq bq;refine Aj Ad ⟨H.blk 0 rfl,(H.blk 0 rfl).cell 2⟩ fun hHeld=>?_;clear Ad KK;refine BG Lj fun KK Ad=>?_;refine PZ rfl (.tmp 106) (.tmp 109) rfl x.ct.fa F.n rfl (by go_simp) ?_;replace H:=Aa (H.alloc #[.int .i64 x.ct.fa,.int .i64 F.n] 3);(try simp only [LS] at H);generalize wq.heap.size=g6 at H ⊢;generalize World.alloc wq _=w7 at H ⊢;refine Aj Ad ⟨H.blk 0 rfl,(H.blk 0 rfl).cell 2⟩ fun hHeld=>?_;clear Ad KK;refine BG Mk fun KK Ad=>?_;refine Ni rfl (.tmp 110) rfl (vx:=.slice (some ⟨g6,0,none⟩) 2 2) (v:=.agg (Et.mk 0 ⟨none,0,0,[]⟩ ⟨some ⟨g6,0,none⟩,2,2,[x.ct.fa,F.n]⟩).cs) rfl (fun w=>by kernel_rfl) ?_;refine Aj Ad ⟨H.blk 0 rfl,(H.blk 0 rfl).cell 2⟩ fun hHeld=>?_;clear Ad KK;refine BG FO fun KK Ad=>?_;refine CK rfl AL (.tmp 5) (.tmp 111) rfl _ rfl (H.blk 3 rfl) rfl ((Et.mk 0 ⟨none,0,0,[]⟩ ⟨some ⟨g6,0,none⟩,2,2,[x.ct.fa,F.n]⟩).cs) rfl rfl (BJ _) ?_;intro wq bq Aq;replace H:=Aa (H.AA 3 rfl Aq bq);(try simp only [LS] at H);clear Aq bq;refine Aj Ad ⟨H.blk 0 rfl,(H.blk 0 rfl).cell 2⟩ fun hHeld=>?_;clear Ad KK;refine BZ ?_;clear hHeld;clear uQ;go_wp2_with fail;(try simp only [Act.put,LP]);refine Bc (Ba rfl Be AL rfl rfl (H.blk 2 rfl) (H.blk 3 rfl) rfl rfl) rfl ?_;rw [HO.Ab];refine ⟨x,(Et.mk 0 ⟨none,0,0,[]⟩ ⟨some ⟨g6,0,none⟩,2,2,[x.ct.fa,F.n]⟩),rfl,H.to,rfl,Ns _ H.to,?_,fun wz kz=>⟨Row.MS wz,VM ((ET.LY (T:=T) (r:=Aw g6 3 #[.int .i64 x.ct.fa,.int .i64 F.n]) ⟨H.get 4 rfl,H.new 4 rfl⟩ Yw.Ab) wz kz) HXI Za5⟩⟩;show nS.mk 0 [] [x.ct.fa,(F.n:Int)]=_;rw [←HFL.Ab,←AR,zM.Ab]
      rfl
  ·cases data with
   |cons a l=>
    have HO:Hid (Dr x.Ac ⟨7,a::l⟩=(x.Ac,⟨2,[],[]⟩)):=by show _=_;unfold Dr;simp [PM.Ab]
    exact Zg3
   |nil=>
    have HO:Hid (Dr x.Ac ⟨7,[]⟩=(⟨x.Ac.cat,x.Ac.rows,x.Ac.has,true⟩,⟨0,[],[]⟩)):=by show _=_;unfold Dr;simp [PM.Ab]
    have f11:=(H.blk 0 rfl).frozen 11;go_upto_region 18 with fail;clear c10 c11 k0 k1;clear f11;replace H:=Aa (H.setCell 0 rfl 11 (.bool true));(try simp only [LS] at H);generalize World.setCell _ _ _=w3 at H ⊢;go_wp2_with (first|((with_reducible refine OP 72 ?_);(refine Bf Be (H.blk 0 rfl) ?_))|((with_reducible refine OP 73 ?_);refine Ij rfl rfl UT ?_)|((with_reducible refine OS 4 ?_);refine Ae rfl Be (.tmp 4) (.tmp 72) rfl _ rfl (H.blk 2 rfl) rfl ((JZ.mk x.ct x.rows x.has true).cs) rfl rfl (Dt _) ?_;intro wq bq Aq;replace H:=Aa (H.AA 2 rfl Aq bq);(try simp only [LS] at H);have HA:=Aa Aq;clear Aq bq)|((with_reducible refine OS 5 ?_);refine Ae rfl AL (.tmp 5) (.tmp 73) rfl _ rfl (H.blk 3 rfl) rfl ((Et.err 0).cs) rfl rfl (BJ _) ?_;intro wq bq Aq;replace H:=Aa (H.AA 3 rfl Aq bq);(try simp only [LS] at H);have HB:=Aa Aq;clear Aq bq));(try simp only [Act.put,LP]);refine Bc (Ba rfl Be AL rfl rfl (H.blk 2 rfl) (H.blk 3 rfl) rfl rfl) rfl ?_;rw [HO.Ab];exact ⟨⟨x.ct,x.rows,x.has,true⟩,Et.err 0,rfl,H.to,rfl,(Ns _ H.to).imp (fun _ h=>⟨h.ct,h.sm,h.rows⟩),rfl,fun wz _=>BL _ wz⟩
theorem Zp {ops:Array Oper} {rest:List Oper} {o:Oper} {a:Act} {w:World} {Q:Exit→Act→World→Prop} (hw:Region.wanted o (yielded ops a.tmps)=true) {t:TypeId} (ho:o.op=.build t #[])
 {v:Value} (hr:∀ w,(Instr.build t #[]).run prog w=.ok v w)
 (h:wpList prog ops Q rest (a.put o.dst v) w):wpList prog ops Q (o::rest) a w:=by
 refine wpList_step fun K hK=>?_;rw [Al hw];unfold Oper.wp execOp;simp only [ho,QD,EX,KH,hr,LC,LB];exact hK _ _ h
theorem Aa7 (w:World):(Instr.build 63 #[]).run prog w=.ok (.agg Ct.nil.cs) w:=by kernel_rfl
theorem XI (B:Nat) (x y:JZ) (w:World) (hb:Bh w B 86 x.ms) (hx:x.rd w) (hy:y.rd w) (he:x.Ac=y.Ac) (hi:MInv x.Ac):
 Calls prog 22 #[.pointer (some ⟨B,0,none⟩),.agg y.cs] w fun e w'=>e=.returned (.bool true)∧Ai w w':=by
 have hrn:x.rows.n≤4000:=by have h1:=hi.len;have h2:=hx.rows.len;have h3:x.Ac.rows.length=x.rows.l.length:=AR _;omega
 have hrn2:y.rows.n≤4000:=by have h1:=hi.len;rw [he] at h1;have h2:=hy.rows.len;have h3:y.Ac.rows.length=y.rows.l.length:=AR _;omega
 have Ar1:QW (cons y.rows.l):=by have h:=hi.fit;rw [he] at h;exact h
 have Ws:=Aa (fun w' (h:Ai w w')=>hb.Av h);have HHA:=Aa (fun w' (h:Ai w w')=>VH B x w' (hb.Av h));have uQ:=Aa (fun w' (h:Ai w w')=>aR B x w' (hb.Av h) (hx.rows.mono h) Xl hi.fit);have HSE:=Aa (fun w' (h:Ai w w')=>U0 B x w' (hb.Av h) (hx.ct.mono h) hx.sm hi.err hi.ok);have fP:=Aa (fun w' (h:Ai w w')=>ZP y w' (hy.rows.mono h) Xl Ar1);have HYR:=Aa (fun w' (h:Ai w w')=>hy.ct.mono h);have HHS:Hid (x.has=y.has):=CW MC.has he;have HCC:Hid (x.ct.Ac=y.ct.Ac):=CW MC.cat he;have HRR:Hid (cons x.rows.l=cons y.rows.l):=CW MC.rows he;have H:=Aa ((SL.start No w).alloc y.cs 65);(try simp only [LS] at H);clear hb hx hy he hi Ar1;go_enter func22,ntmps22;go_upto_region 1 with fail;generalize w.heap.size=q at H ⊢;generalize World.alloc w _=w0 at H ⊢;rw [HHS.Ab] at HHA uQ HSE;have c10:w0.cell? ⟨q,10,none⟩=some (.bool y.has):=(H.blk 0 rfl).cell 10;have Aw4:=fun u:Over w0=>Over.cell c10 u
 refine Am ?_;(try simp only [Act.put,LP]);repeat (go_big_quiet_step (((go_at_call 28;rename_i u;exact AB (HHA _ (H.to.trans u.Av))))))
 refine CS ?_;rintro w5 ⟨⟨_,Gd⟩,rfl⟩;(try dsimp only);replace H:=Aa (H.Av Gd);clear Aw4 c10;obtain ⟨w1,hw1⟩:∃ w1,w1=w5:=⟨_,rfl⟩;subst hw1;have c10:w1.cell? ⟨q,10,none⟩=some (.bool y.has):=(H.blk 0 rfl).cell 10;clear Gd HHA;cases hh:y.has with
 |false=>
  rw [hh] at c10;rw [hh,Ak Za1] at uQ HSE;go_wp2_with fail;clear c10;refine (uQ _ H.to).mono ?_;rintro e w2 ⟨F,rfl,hF,hFo,hFn,hb2⟩;replace H:=Aa (H.Av hb2);have hF0:F.n=0:=by have h:=hFo.len;have h2:=CW List.length hF;rw [AR] at h2;simp at h2;rw [h2] at h;simp at h;omega
  have d1:((F.n:Int)==0)=true:=by simp [hF0]
  clear hF hFo hb2 hF0 uQ;simp only [Row.v];go_wp2_with fail;refine (HSE _ H.to).mono ?_;rintro e w3 ⟨D,rfl,hD,Fj,rW,hb3⟩;replace H:=Aa (H.Av hb3);have HSK:=Aa (Ya D Ct.nil w3 Fj (NF w3));rw [show XH D.Ac Ct.nil.Ac=true by rw [hD];exact ZJ _] at HSK;clear hD Fj rW hb3 HSE;go_wp2_with ((with_reducible refine OP 20 ?_);refine Zp (by first|rfl|go_simp) (by rfl) Aa7 ?_);refine HSK.mono ?_;rintro e w4 ⟨rfl,hb4⟩;replace H:=Aa (H.Av hb4);go_wp2_with fail;go_ret;exact ⟨rfl,H.to⟩
 |true=>
  rw [hh] at c10;rw [hh,Al rfl] at uQ HSE;go_upto_region 5 with fail;clear c10;refine Ep (S:=fun W=>Bh W q 65 y.cs) Za0 (H.blk 0 rfl) fun hHeld=>?_;replace H:=Aa (H.drew);generalize World.drew _=w8 at *;refine Bd Ml ?_;refine Bd MN ?_;refine Lx (i:=3) (v:=.agg y.ct.cs) Ky Za0 Za0 Za0 Za7 (DU BI (by rfl) (.tmp 25) rfl q 0 rfl (fun w h=>Bh.part h 0 y.ct.cs.toList rfl) rfl) Zb0 ?_;try simp only [Act.put,LP]
  refine BG KF fun KK Ad=>?_;go_simp;refine (HSE _ H.to).mono ?_;rintro e' w3 ⟨D,rfl,hD,Fj,rW,hb3⟩;replace H:=Aa (H.Av hb3);have HSK:=Aa (Ya D y.ct w3 Fj (HYR _ H.to));rw [show XH D.Ac y.ct.Ac=true by rw [hD,HCC.Ab];exact ZJ _] at HSK;clear hD Fj rW hb3;refine Aj Ad (H.blk 0 rfl) fun hHeld=>?_;clear Ad KK;refine BG LJ fun KK Ad=>?_;go_simp;refine HSK.mono ?_;rintro e' w4 ⟨rfl,hb4⟩;replace H:=Aa (H.Av hb4);clear hb4 HSK;refine Aj Ad (H.blk 0 rfl) fun hHeld=>?_;clear Ad KK;refine Bd KW ?_;refine Bd MI ?_;refine Lx (i:=8) (v:=.agg y.cs) Mk Za0 Za0 Za0 Za7 (DU Be (by rfl) (.tmp 3) rfl q 0 rfl (fun w h=>Bh.part h 0 y.cs.toList rfl) rfl) Zb0 ?_;try simp only [Act.put,LP]
  refine BG Lj fun KK Ad=>?_;go_simp;refine (uQ _ H.to).mono ?_;rintro e' w5 ⟨F,rfl,hF,hFo,hFn,hb5⟩;replace H:=Aa (H.Av hb5);have HF:=Aa hF;have QU:=Aa hFo;clear hF hFo hb5;refine Aj Ad (H.blk 0 rfl) fun hHeld=>?_;clear Ad KK;refine BG MH fun KK Ad=>?_;go_simp;refine (fP _ H.to).mono ?_;rintro e' w6 ⟨G,rfl,hG,hGo,hGn,hb6⟩;replace H:=Aa (H.Av hb6);have nO:=Aa (Ae0 F G w6 (QU.mono hb6) hGo hFn hGn);rw [show QK F.l G.l=true by unfold QK;rw [HF.Ab,hG,HRR.Ab];simp] at nO;clear hG hGo hb6;refine Aj Ad (H.blk 0 rfl) fun hHeld=>?_;clear Ad KK;refine BG FO fun KK Ad=>?_;go_simp;refine nO.mono ?_;rintro e' w7 ⟨rfl,Pz⟩;replace H:=Aa (H.Av Pz);clear Pz nO;refine Aj Ad (H.blk 0 rfl) fun hHeld=>?_;clear Ad KK;refine Bd Ga ?_;refine Bd Hw ?_;refine BZ ?_;clear hHeld;go_wp2_with fail;go_ret;exact ⟨rfl,H.to⟩
theorem Aa9 (k:Int) (b:List UInt8) (w:World):(Instr.build 41 #[(0,.int .i64 k),(1,.string ⟨b.toArray⟩)]).run prog w=.ok (.agg (Wt.mk k b).cs) w:=by kernel_rfl
theorem dJ (k:Int) (w:World):(Instr.build 41 #[(0,.int .i64 k)]).run prog w=.ok (.agg (Wt.mk k []).cs) w:=by kernel_rfl
theorem Ad0 (T:Nat→Prop) (w:World):ET T w fun w=>JZ.nil.rd w:=fun w' _=>Qa w'
theorem U8:Dr MC.nil ⟨5,[]⟩=(MC.nil,⟨10,[],[]⟩):=by unfold Dr;simp [MC.nil]
theorem Ah0 {s:SC} (h:Ay s=0):Dr MC.nil ⟨1,Gh s⟩=(⟨⟨s,0,0,0,0,0,0,0⟩,[],true,false⟩,⟨0,[],[]⟩):=by
 have h1:Ey (Gh s)=(s,0):=by
  unfold Ey;have h2:=pW h [];rw [EO] at h2;rw [h2];simp
 unfold Dr IP;simp [MC.nil,h1]
theorem lJ:JZ.nil.Ac=MC.nil:=rfl
theorem Sk (w:World):Calls prog 10 #[] w fun e w'=>e=.returned (.bool true)∧Ai w w':=by
 have H:=Aa ((SL.start No w).alloc JZ.nil.ms 86);(try simp only [LS] at H);go_enter func10,ntmps10;go_wp2_with fail;refine (qQ w).mono ?_;rintro e w1 ⟨rfl,rfl⟩;obtain ⟨B,hB⟩:∃ B,B=w.heap.size:=⟨_,rfl⟩;rw [←hB] at H ⊢;clear hB;generalize World.alloc w _=w0 at H ⊢;go_wp2_with ((with_reducible refine OP 7 ?_);refine Bv (vx:=.int .i64 5) (v:=.agg (Wt.mk 5 []).cs) rfl (.const _) rfl rfl (dJ 5) ?_);refine (YJ (One B) B JZ.nil ⟨5,[]⟩ w0 (H.blk 0 rfl) (fun g hg=>hg ▸ (H.blk 0 rfl).lt) rfl (Ad0 _ _) ⟨by unfold AZ;simp,uH⟩ (lJ ▸ MInv.nil)).mono ?_;rintro e w2 ⟨x,a,rfl,hfr,hbl,uY,hxs,hac,has⟩;rw [lJ,U8] at uY hac;replace H:=Aa (H.AA 0 rfl hfr.grown hbl);(try simp only [LS] at H);have fO:=Aa uY;have E8:=Aa (fun w' (h:Fr (One B) w2 w')=>hxs.fr h);have hae:a.er=10:=CW nS.er hac;have HAE:=Aa hae;clear hfr hbl uY hxs hac has hae;go_upto_region 3 with ((with_reducible refine OS 2 ?_);(refine DX AL (a.cs) (BJ a) ?_;replace H:=Aa (H.alloc (a.cs) 49);(try simp only [LS] at H)));(try simp only [Act.put,LP]);(try simp only [LS] at H);have HF3:Hid (Ai w2 (World.alloc w2 (.cells a.cs 49))):=(Ai.refl w2).alloc _;generalize w2.heap.size=z2 at H ⊢;generalize World.alloc w2 _=w3 at H HF3 ⊢;replace H:=Aa (((((H.alloc #[.string ⟨#[97]⟩] 9).alloc #[.string ⟨#[116]⟩,.slice (some ⟨w3.heap.size,0,none⟩) 1 1,.slice none 0 0] 75).alloc #[.string ⟨#[100]⟩,.slice (some ⟨w3.heap.size+1,0,none⟩) 1 1] 73).alloc #[.string ⟨#[109]⟩] 9).alloc #[.slice (some ⟨w3.heap.size+1+1,0,none⟩) 1 1,.slice (some ⟨w3.heap.size+1+1+1,0,none⟩) 1 1] 25);(try simp only [LS] at H)
 have HF4:Hid (Ai w3 (World.alloc (World.alloc (World.alloc (World.alloc (World.alloc w3 (.cells #[.string ⟨#[97]⟩] 9)) (.cells #[.string ⟨#[116]⟩,.slice (some ⟨w3.heap.size,0,none⟩) 1 1,.slice none 0 0] 75)) (.cells #[.string ⟨#[100]⟩,.slice (some ⟨w3.heap.size+1,0,none⟩) 1 1] 73)) (.cells #[.string ⟨#[109]⟩] 9)) (.cells #[.slice (some ⟨w3.heap.size+1+1,0,none⟩) 1 1,.slice (some ⟨w3.heap.size+1+1+1,0,none⟩) 1 1] 25))):=(((((Ai.refl w3).alloc _).alloc _).alloc _).alloc _).alloc _;go_upto_region 4 with fail;generalize w3.heap.size+1+1+1+1=y4 at H HF4 ⊢;generalize w3.heap.size+1+1+1=y3 at H HF4 ⊢;generalize w3.heap.size+1+1=y2 at H HF4 ⊢;generalize w3.heap.size+1=y1 at H HF4 ⊢;generalize w3.heap.size=y0 at H HF4 ⊢;generalize World.alloc (World.alloc (World.alloc (World.alloc (World.alloc w3 _) _) _) _) _=w4 at H HF4 ⊢;have hr1:=At7 H.Ab 2 3 4 5 rfl rfl rfl rfl;obtain ⟨D,hD⟩:∃ D:El,D=⟨⟨some ⟨y2,0,none⟩,1,1,[⟨[100],⟨some ⟨y1,0,none⟩,1,1,[⟨[116],⟨some ⟨y0,0,none⟩,1,1,[[97]]⟩,⟨none,0,0,[]⟩⟩]⟩⟩]⟩,⟨some ⟨y3,0,none⟩,1,1,[[109]]⟩⟩:=⟨_,rfl⟩;rw [←hD] at hr1;have rO:D.Ac=exSC:=by rw [hD];rfl
 have hcs:D.cs=#[.slice (some ⟨y2,0,none⟩) 1 1,.slice (some ⟨y3,0,none⟩) 1 1]:=by rw [hD]
 rw [←hcs] at H;have HPU:=Aa (oP D w4 hr1 (by rw [rO];exact Aj7));rw [rO] at HPU;have hpl:=Uh (d:=exSC) Aj7;obtain ⟨bs,hbs⟩:∃ bs,bs=Gh exSC:=⟨_,rfl⟩;rw [←hbs] at HPU hpl;have HBS:=Aa hbs;clear hr1 hD rO hcs hbs;go_wp2_with ((with_reducible refine OP 17 ?_);(refine Bf Bb (H.blk 6 rfl) ?_));refine HPU.mono ?_;rintro e w5 ⟨rfl,hb5⟩;replace H:=Aa (H.Av hb5);have HF5:=Aa hb5;clear hb5 HPU;go_wp2_with ((with_reducible refine OP 19 ?_);refine Ke rfl (.const _) (.tmp 18) rfl (vx:=.int .i64 1) (vy:=.string ⟨bs.toArray⟩) (v:=.agg (Wt.mk 1 bs).cs) rfl rfl (Aa9 1 bs) ?_);refine (YJ (One B) B x ⟨1,bs⟩ w5 (H.blk 0 rfl) (fun g hg=>hg ▸ (H.blk 0 rfl).lt) rfl (E8 _ (Fr.MR ((HF3.trans HF4.Ab).trans HF5.Ab))) ⟨by unfold AZ;simp,by show bs.length≤_;omega⟩ (by rw [fO.Ab];exact MInv.nil)).mono ?_;rintro e w6 ⟨x2,a2,rfl,hfr,hbl,uY,hxs,hac,has⟩;rw [fO.Ab,HBS.Ab,Ah0 Aj7] at uY hac;replace H:=Aa (H.AA 0 rfl hfr.grown hbl);(try simp only [LS] at H);have hae:a2.er=0:=CW nS.er hac;have hxh:x2.has=true:=CW MC.has uY;clear hfr hbl uY hxs hac has;go_upto_region 5 with ((with_reducible refine OS 4 ?_);(refine DX AL (a2.cs) (BJ a2) ?_;replace H:=Aa (H.alloc (a2.cs) 49);(try simp only [LS] at H)));(try simp only [Act.put,LP]);(try simp only [LS] at H);generalize w6.heap.size=z6 at H ⊢;generalize World.alloc w6 _=w7 at H ⊢;have ca:w7.cell? ⟨z2,0,none⟩=some (.int .i64 10):=by rw [←HAE.Ab];exact (H.blk 1 rfl).cell 0
 have cb:w7.cell? ⟨z6,0,none⟩=some (.int .i64 0):=by rw [←hae];exact (H.blk 7 rfl).cell 0
 have HHA:=Aa (VH B x2 w7 (H.blk 0 rfl));rw [hxh] at HHA;clear hae hxh;go_wp2_with fail;refine HHA.mono ?_;rintro e w8 ⟨rfl,iY⟩;replace H:=Aa (H.Av iY);clear iY HHA ca cb;go_wp2_with fail;go_ret;exact ⟨rfl,H.to⟩
theorem uB {a b:Et} {w:World} (ha:a.rd w) (hb:b.rd w) (h:a.Ac=b.Ac):Calls prog 16 #[.agg a.cs,.agg b.cs] w fun e w'=>e=.returned (.bool true)∧Ai w w':=oU a b w ha hb h
theorem MInv.open_ {s:MC} (h:MInv s):MInv ⟨s.cat,s.rows,s.has,false⟩:=⟨h.no,h.err,h.ok,h.fa,h.len,h.p0,h.q0,h.p1,h.q1,h.p2,h.q2,h.rows⟩
theorem MInv.rn {x:JZ} {w:World} (h:MInv x.Ac) (hx:x.rd w):x.rows.n≤1000000:=by
 have h1:=h.len;have h2:=hx.rows.len;have h3:x.Ac.rows.length=x.rows.l.length:=AR _;omega
theorem Yn (w:World) (l:Row Wt) (hl:l.ok w):Calls prog 4 #[l.v] w fun e w'=>e=.returned (.bool true)∧Ai w w':=by
 have HF:=Aa (Z6 l 30 w hl.zS Xl);have HL:=Aa hl.zS;have n63:=hl.zS.n63;obtain ⟨A,n,c,ls⟩:=l;simp only [Row.v] at *;clear hl;have H:=Aa (SL.start No w);go_enter func4,ntmps4;go_wp2_with fail;refine HF.mono ?_;rintro e w1 ⟨b,rfl,_,hb1⟩;replace H:=Aa (H.Av hb1);clear hb1 HF;cases b with
 |false=>
  go_wp2_with fail;refine (Sk w1).mono ?_;rintro e w2 ⟨rfl,hb2⟩;replace H:=Aa (H.Av hb2);go_wp2_with fail;go_ret;exact ⟨rfl,H.to⟩
 |true=>
 go_wp2_with fail;refine (qQ w1).mono ?_;rintro e w2 ⟨rfl,rfl⟩;replace H:=Aa ((H.alloc JZ.nil.ms 86).alloc JZ.nil.cs 65);(try simp only [LS] at H);have hne:w1.heap.size≠w1.heap.size+1:=by omega
 go_upto_region 6 with fail;generalize w1.heap.size+1=rz at H hne ⊢;generalize w1.heap.size=B at H hne ⊢;generalize World.alloc (World.alloc w1 _) _=w3 at H ⊢;obtain ⟨T,hT⟩:∃ T:Nat→Prop,T=fun g=>g=B∨g=rz:=⟨_,rfl⟩
 have HTB:Hid (T B):=by show T B;rw [hT];exact .inl rfl
 have F3:Hid (T rz):=by show T rz;rw [hT];exact .inr rfl
 have HTX:Hid (∀ g,T g→g=B∨g=rz):=by show ∀ g,_;rw [hT];exact fun g h=>h
 have HS0:Hid (ET T w3 fun w=>JZ.nil.rd w∧JZ.nil.rd w):=fun w' _=>⟨Qa w',Qa w'⟩
 clear hT hne;go_loopg [20] n (fun gg s20 wr=>∃ (k:Nat) (x y:JZ),gg=n - k∧k≤n∧s20=.int .i64 k∧Hid (x.Ac=y.Ac∧MInv x.Ac)∧Hid (ET T wr fun w=>x.rd w∧y.rd w)∧Hid (SL No w wr [Aw B 86 x.ms,Aw rz 65 y.cs]));case atStart=>exact ⟨0,JZ.nil,JZ.nil,rfl,Xl,rfl,⟨rfl,lJ ▸ MInv.nil⟩,HS0,H⟩
 case round=>
  clear H HS0;obtain ⟨k,x,y,BR,hk,rfl,vE,Ti,H⟩:=hrel;have Cs:=Aa BR;clear BR;by_cases hlt:k<n
  ·obtain ⟨b,o,t,hA,hb,htk,hto,hrg⟩:=HL.Ar4 (k:=k) hlt;simp only at hA;have HRC:Hid (∀ w',Ai w w'→w'.rangeAt b (o+k * 2) t.cs.toList):=fun w' h=>CP hb hrg h
   have HTO:=Aa hto;have HAL:=Aa hA;have i0:(0:Int)≤k:=by omega
   have i1:(k:Int)<n:=by omega
   clear hb htk hto hrg;rw [hA];clear hA;have HW2:Hid (Ai wr (World.alloc wr (.cells t.cs 41))):=(Ai.refl wr).alloc _;go_upto_region 8 with (first|((with_reducible refine OP 23 ?_);(refine Af rfl Rx (.tmp 22) rfl b (o+k * 2) rfl t.cs rfl (HRC _ H.to) ?_))|((with_reducible refine OS 6 ?_);(refine DX Rx (t.cs) (Ao5 t) ?_;replace H:=Aa (H.alloc (t.cs) 41);(try simp only [LS] at H))));(try simp only [Act.put,LP]);(try simp only [LS] at H);clear HRC;generalize wr.heap.size=cz at H ⊢;generalize World.alloc wr _=w2 at H HW2 ⊢;replace Ti:=Aa (Ti.Av HW2.Ab);clear HW2;go_wp2_with fail;refine (U9 B x w2 (H.blk 0 rfl) Ti.now.1.rows (vE.2.rn Ti.now.1)).mono ?_;rintro e w3 ⟨yr,rfl,YK,hS⟩;replace H:=Aa (H.join hS);(try simp only [LS] at H);replace Ti:=Aa (Ti.Av hS.to);have HYR:=Aa YK;clear YK hS;generalize w2.heap.size=gc at H ⊢;go_wp2_with (first|((with_reducible refine OP 27 ?_);(refine Bf Be (H.blk 1 rfl) ?_))|((with_reducible refine OP 28 ?_);(refine Bf Rx (H.blk 2 rfl) ?_)));refine (zT T y t _ (fun g hg=>(HTX g hg).elim (fun e=>e ▸ (H.blk 0 rfl).lt) (fun e=>e ▸ (H.blk 1 rfl).lt)) (Ti.imp fun _ h=>h.2) HTO (by rw [←vE.1];exact vE.2)).mono ?_;rintro e w4 ⟨ny,want,rfl,hb4,hnc,hns,hwc,hws⟩;replace H:=Aa (H.Av hb4);have HNC:=Aa hnc;have HWC:=Aa hwc;have nC:=Aa hns;have HWS:=Aa hws;replace Ti:=Aa (Ti.Av hb4);clear hb4 hnc hns hwc hws;have HO:=H;replace H:=Aa (((SL.start No w4).alloc #[.slice none 0 0,.slice none 0 0,.int .i64 0,.int .i64 0,.int .i64 0,.int .i64 0,.int .i64 0,.int .i64 0,.int .i64 0,.slice none 0 0,.bool false,.bool false] 65).alloc #[.int .i64 0,.slice none 0 0,.slice none 0 0] 49);(try simp only [LS] at H)
   go_upto_region 10 with (first|((with_reducible refine OS 8 ?_);(refine Cj Be H 0 rfl (ny.cs) (Dt ny) ?_;clear H;intro wq H;(try simp only [LS] at H)))|((with_reducible refine OS 9 ?_);(refine Cj AL H 1 rfl (want.cs) (BJ want) ?_;clear H;intro wq H;(try simp only [LS] at H))));(try simp only [Act.put,LP]);have HBB:=Aa H.to;replace H:=Aa (HO.join H.Ab);(try simp only [LS] at H);clear HO;generalize w4.heap.size+1=z9 at H ⊢;generalize w4.heap.size=z8 at H ⊢;replace Ti:=Aa (Ti.Av HBB.Ab);replace nC:=Aa (nC.Av HBB.Ab);replace HWS:=Aa (HWS.Av HBB.Ab);clear HBB;go_wp2_with ((with_reducible refine OP 33 ?_);(refine Bf Rx (H.blk 2 rfl) ?_));refine (YJ T B x t _ (H.blk 0 rfl) (fun g hg=>(HTX g hg).elim (fun e=>e ▸ (H.blk 0 rfl).lt) (fun e=>e ▸ (H.blk 1 rfl).lt)) HTB (Ti.imp fun _ h=>h.1) HTO vE.2).mono ?_;rintro e w8 ⟨nx,a,rfl,hfr,hbl,uY,hxs,hac,has⟩;replace H:=Aa (H.AA 0 rfl hfr.grown hbl);(try simp only [LS] at H);have HFR:=Aa (hfr.mono fun g (hg:g=B)=>hg ▸ HTB.Ab);replace Ti:=Aa (Ti.fr HFR.Ab);replace nC:=Aa (nC.fr HFR.Ab);replace HWS:=Aa (HWS.fr HFR.Ab);have fO:=Aa uY;have E8:=Aa hxs;have HAC:=Aa hac;have HAS:=Aa has;clear hfr hbl uY hxs hac has HFR;have HW9:Hid (Ai w8 (World.alloc w8 (.cells a.cs 49))):=(Ai.refl w8).alloc _;go_upto_region 11 with ((with_reducible refine OS 10 ?_);(refine DX AL (a.cs) (BJ a) ?_;replace H:=Aa (H.alloc (a.cs) 49);(try simp only [LS] at H)));(try simp only [Act.put,LP]);(try simp only [LS] at H);generalize w8.heap.size=Og at H ⊢;generalize World.alloc w8 _=w9 at H HW9 ⊢;replace Ti:=Aa (Ti.Av HW9.Ab);replace nC:=Aa (nC.Av HW9.Ab);replace HWS:=Aa (HWS.Av HW9.Ab);replace E8:=Aa (E8.Av HW9.Ab);replace HAS:=Aa (HAS.Av HW9.Ab);clear HW9;have Vh:Hid (nx.Ac=ny.Ac∧MInv nx.Ac):=⟨by rw [fO.Ab,HNC.Ab,vE.1],by rw [fO.Ab];exact vE.2.step t⟩
   go_wp2_with (first|((with_reducible refine OP 35 ?_);(refine Bf AL (H.blk 7 rfl) ?_))|((with_reducible refine OP 36 ?_);(refine Bf AL (H.blk 6 rfl) ?_)));refine (uB HAS.now HWS.now (by rw [HAC.Ab,HWC.Ab,vE.1])).mono ?_;rintro e gB ⟨rfl,rQ⟩;replace H:=Aa (H.Av rQ);replace Ti:=Aa (Ti.Av rQ);replace nC:=Aa (nC.Av rQ);replace E8:=Aa (E8.Av rQ);clear rQ HAS HWS HAC HWC fO HNC;go_wp2_with ((with_reducible refine OP 41 ?_);refine Ca (by first|rfl|go_simp) Be (.tmp 8) (by rfl) _ (by rfl) (H.blk 5 rfl) rfl ?_);refine (XI B nx ny gB (H.blk 0 rfl) E8.now nC.now Vh.1 Vh.2).mono ?_;rintro e w11 ⟨rfl,xS⟩;replace H:=Aa (H.Av xS);replace Ti:=Aa (Ti.Av xS);replace nC:=Aa (nC.Av xS);replace E8:=Aa (E8.Av xS);clear xS;go_wp2_with ((with_reducible refine OP 47 ?_);refine Ca (by first|rfl|go_simp) Be (.tmp 4) (by rfl) _ (by rfl) (H.blk 1 rfl) rfl ?_);have hcp:(JZ.mk x.ct yr x.has x.closed).Ac=x.Ac:=by show MC.mk _ (cons yr.l) _ _=MC.mk _ (cons x.rows.l) _ _;rw [HYR.Ab]
   refine (XI gc ⟨x.ct,yr,x.has,x.closed⟩ y w11 (H.blk 3 rfl) ⟨Ti.now.1.ct,Ti.now.1.sm,H.at_ 4 rfl⟩ Ti.now.2 (by rw [hcp];exact vE.1) (by rw [hcp];exact vE.2)).mono ?_;rintro e w12 ⟨rfl,hb12⟩;replace H:=Aa (H.Av hb12);replace nC:=Aa (nC.Av hb12);replace E8:=Aa (E8.Av hb12);clear hb12 hcp Ti;go_upto_region 14 with (first|((with_reducible refine OP 51 ?_);(refine Bf Be (H.blk 5 rfl) ?_))|((with_reducible refine OS 4 ?_);refine Ae rfl Be (.tmp 4) (.tmp 51) rfl _ rfl (H.blk 1 rfl) rfl (ny.cs) rfl rfl (Dt ny) ?_;intro wq bq Aq;replace H:=Aa (H.AA 1 rfl Aq bq);(try simp only [LS] at H);have HG:=Aa ((Fr.Gl Aq).mono fun g (hg:some _=some g)=>(by injection hg with hg;subst hg;exact F3.Ab:T g));clear Aq bq));(try simp only [Act.put,LP]);replace nC:=Aa (nC.fr HG.Ab);replace E8:=Aa (E8.fr HG.Ab);clear HG;replace H:=Aa (H.Fg [0,1] Za1 uH);(try simp only [LS] at H);go_wp2_with fail;rw [←HAL.Ab];go_roundg (n - (k+1));case rel=>exact ⟨k+1,nx,ny,rfl,Xl,by go_num,Vh,Aa (E8.and nC.Ab),H⟩
   case measure=>rw [Cs.Ab];omega
  ·have c11:wr.cell? ⟨rz,11,none⟩=some (.bool y.closed):=(H.blk 1 rfl).cell 11;cases hcl:y.closed with
   |false=>
    rw [hcl] at c11;go_wp2_with fail;clear c11;refine (Sk _).mono ?_;rintro e w4 ⟨rfl,hb4⟩;replace H:=Aa (H.Av hb4);go_wp2_with fail;go_ret;exact ⟨rfl,H.to⟩
   |true=>
    rw [hcl] at c11;go_wp2_with fail;clear c11;refine (U1 B x wr (H.blk 0 rfl)).mono ?_;rintro e w4 ⟨rfl,hfr,hbl⟩;replace H:=Aa (H.AA 0 rfl hfr.grown hbl);(try simp only [LS] at H);replace Ti:=Aa (Ti.fr (hfr.mono fun g (hg:g=B)=>hg ▸ HTB.Ab));clear hfr hbl;have c11:w4.cell? ⟨rz,11,none⟩=some (.bool y.closed):=(H.blk 1 rfl).cell 11;have f11:=(H.blk 1 rfl).frozen 11;go_upto_region 18 with fail;have HG:Hid (Fr T w4 (World.setCell w4 ⟨rz,11,none⟩ (.bool false))):=(Fr.Gl (grownBy_setCell w4 rz 11 (.bool false))).mono fun g (hg:some _=some g)=>by injection hg with hg;subst hg;exact F3.Ab
    replace H:=Aa (H.setCell 1 rfl 11 (.bool false));(try simp only [LS] at H);clear c11 f11;generalize World.setCell w4 _ _=w5 at H HG ⊢;obtain ⟨x2,hx2⟩:∃ x2:JZ,x2=⟨x.ct,x.rows,x.has,false⟩:=⟨_,rfl⟩;obtain ⟨y2,hy2⟩:∃ y2:JZ,y2=⟨y.ct,y.rows,y.has,false⟩:=⟨_,rfl⟩;have HXY2:Hid (x2.Ac=y2.Ac∧MInv x2.Ac):=by
     refine ⟨?_,?_⟩
     ·rw [hx2,hy2];have h:=vE.1;show MC.mk x.Ac.cat x.Ac.rows x.Ac.has false=MC.mk y.Ac.cat y.Ac.rows y.Ac.has false;rw [h]
     ·rw [hx2];exact vE.2.open_
    have HSS2:Hid (ET T w5 fun w=>x2.rd w∧y2.rd w):=by
     show ET T w5 _;rw [hx2,hy2];exact (Ti.fr HG.Ab).imp fun _ h=>⟨⟨h.1.ct,h.1.sm,h.1.rows⟩,⟨h.2.ct,h.2.sm,h.2.rows⟩⟩
    replace H:Hid (SL No w w5 [Aw B 86 x2.ms,Aw rz 65 y2.cs]):=by rw [hx2,hy2];exact H
    replace Ti:=HSS2;replace vE:=HXY2;clear HSS2 HXY2 hx2 hy2 HG;have HC6:Hid ((Wt.mk 6 []).ok):=⟨by unfold AZ;simp,uH⟩;go_wp2_with (first|((with_reducible refine OP 59 ?_);(refine Bf Be (H.blk 1 rfl) ?_))|((with_reducible refine OP 60 ?_);refine Bv (vx:=.int .i64 6) (v:=.agg (Wt.mk 6 []).cs) rfl (.const _) rfl rfl (dJ 6) ?_));refine (zT T y2 ⟨6,[]⟩ _ (fun g hg=>(HTX g hg).elim (fun e=>e ▸ (H.blk 0 rfl).lt) (fun e=>e ▸ (H.blk 1 rfl).lt)) (Ti.imp fun _ h=>h.2) HC6 (by rw [←vE.1];exact vE.2)).mono ?_;rintro e w4 ⟨ny,want,rfl,hb4,hnc,hns,hwc,hws⟩;replace H:=Aa (H.Av hb4);have HNC:=Aa hnc;have HWC:=Aa hwc;have nC:=Aa hns;have HWS:=Aa hws;replace Ti:=Aa (Ti.Av hb4);clear hb4 hnc hns hwc hws;have HO:=H;replace H:=Aa (((SL.start No w4).alloc #[.slice none 0 0,.slice none 0 0,.int .i64 0,.int .i64 0,.int .i64 0,.int .i64 0,.int .i64 0,.int .i64 0,.int .i64 0,.slice none 0 0,.bool false,.bool false] 65).alloc #[.int .i64 0,.slice none 0 0,.slice none 0 0] 49);(try simp only [LS] at H);go_upto_region 19 with (first|((with_reducible refine OS 11 ?_);(refine Cj Be H 0 rfl (ny.cs) (Dt ny) ?_;clear H;intro wq H;(try simp only [LS] at H)))|((with_reducible refine OS 12 ?_);(refine Cj AL H 1 rfl (want.cs) (BJ want) ?_;clear H;intro wq H;(try simp only [LS] at H))));(try simp only [Act.put,LP]);have HBB:=Aa H.to;replace H:=Aa (HO.join H.Ab);(try simp only [LS] at H);clear HO;generalize w4.heap.size+1=z9 at H ⊢;generalize w4.heap.size=z8 at H ⊢;replace Ti:=Aa (Ti.Av HBB.Ab);replace nC:=Aa (nC.Av HBB.Ab);replace HWS:=Aa (HWS.Av HBB.Ab);clear HBB;refine Ep (S:=fun W=>Bh W z9 49 want.cs) Za0 (H.blk 3 rfl) fun hHeld=>?_;replace H:=Aa (H.drew);have HSS8:=Aa (Ti.Av (Ai.refl _).drew);have HWS8:=Aa (HWS.Av (Ai.refl _).drew);generalize World.drew _=w8 at *;refine Bd Ml ?_;refine Bd KF ?_
    refine Lx (i:=3) (v:=.agg want.cs) Ky Za0 Za0 Za0 Za7 (DU AL (by rfl) (.tmp 12) rfl z9 0 rfl (fun w h=>Bh.part h 0 want.cs.toList rfl) rfl) Zb0 ?_;try simp only [Act.put,LP]
    refine BG MN fun KK Ad=>?_;go_simp;refine (YJ T B x2 ⟨6,[]⟩ _ (H.blk 0 rfl) (fun g hg=>(HTX g hg).elim (fun e=>e ▸ (H.blk 0 rfl).lt) (fun e=>e ▸ (H.blk 1 rfl).lt)) HTB (HSS8.imp fun _ h=>h.1) HC6 vE.2).mono ?_;rintro e' w9 ⟨nx,a,rfl,hfr,hbl,uY,hxs,hac,has⟩;replace H:=Aa (H.AA 0 rfl hfr.grown hbl);(try simp only [LS] at H);replace HWS8:=Aa (HWS8.fr (hfr.mono fun g (hg:g=B)=>hg ▸ HTB.Ab));have HAC:=Aa hac;have HAS:=Aa has;clear hfr hbl uY hxs hac has;refine Aj Ad (H.blk 3 rfl) fun hHeld=>?_;clear Ad KK;refine BG LJ fun KK Ad=>?_;go_simp;refine (uB HAS.now HWS8.now (by rw [HAC.Ab,HWC.Ab,vE.1])).mono ?_;rintro e' gB ⟨rfl,rQ⟩;replace H:=Aa (H.Av rQ);clear rQ;refine Aj Ad (H.blk 3 rfl) fun hHeld=>?_;clear Ad KK;refine Bd KW ?_;refine BZ ?_;clear hHeld;go_wp2_with fail;refine (Sk _).mono ?_;rintro e w11 ⟨rfl,xS⟩;replace H:=Aa (H.Av xS);go_wp2_with fail;go_ret;exact ⟨rfl,H.to⟩
end Go.Proofs.YtijplolmkcdflaaGreat
