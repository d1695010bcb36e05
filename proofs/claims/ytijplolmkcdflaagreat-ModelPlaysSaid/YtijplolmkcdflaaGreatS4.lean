/- What follows was written short by a program: the walks that lead to YtijplolmkcdflaaGreatModelPlays. -/
import Derived.Handy
import Derived.RangeFuncNested
import Derived.RangeFuncBound
import Derived.RangeFuncCalls
import Derived.RangeFuncLeaves
import Derived.Shelf.Abstract
import Derived.Shelf.RegionOpen
import Derived.OwnWalkIn
import Derived.TacticsInMore
import Derived.LoopNIn
import Derived.LoopIn
import Derived.RangeFuncBox
import Derived.Sort.QuietIn
import Derived.Maps.AppendAt
import Derived.Test.YtijplolmkcdflaaGreatS3
set_option maxHeartbeats 8000000
set_option maxRecDepth 100000
set_option linter.unusedVariables false
set_option linter.unusedSimpArgs false
namespace Go.Proofs.YtijplolmkcdflaaGreat
open Tryz
open Go.RowKit
theorem Ul (s:String) (g:Nat) (w:World):(receiverAt 264 (.val (.pointer (some ⟨g,0,none⟩))) false (some s)).run prog w=(loadVar 266 ⟨g,0,none⟩).run prog w:=by kernel_rfl
theorem Uy (g:Nat) {v:Value} {w:World} (h:w.cell? ⟨g,0,none⟩=some v):(loadVar 266 ⟨g,0,none⟩).run prog w=.ok v w:=by
 simp [loadVar,go_sem,h]
theorem U6 (n:Nat) (v:Value) (w:World):(Go.method (n+1) 264 v "Len").run prog w=((receiverAt 264 (.val v) false (some ((("Len":String).splitOn ".").getLastD "Len"))) >>=fun r=>pure (184,r)).run prog w:=by kernel_rfl
theorem aS (n g:Nat) {v:Value} {w:World} (h:w.cell? ⟨g,0,none⟩=some v):(Go.method (n+1) 264 (.pointer (some ⟨g,0,none⟩)) "Len").run prog w=.ok (184,v) w:=by
 rw [U6,KH,Ul,Uy g h]
 rfl
theorem xJ (n:Nat) (v:Value) (w:World):(Go.method (n+1) 264 v "Less").run prog w=((receiverAt 264 (.val v) false (some ((("Less":String).splitOn ".").getLastD "Less"))) >>=fun r=>pure (222,r)).run prog w:=by kernel_rfl
theorem Pt (n g:Nat) {v:Value} {w:World} (h:w.cell? ⟨g,0,none⟩=some v):(Go.method (n+1) 264 (.pointer (some ⟨g,0,none⟩)) "Less").run prog w=.ok (222,v) w:=by
 rw [xJ,KH,Ul,Uy g h]
 rfl
theorem xI (n:Nat) (v:Value) (w:World):(Go.method (n+1) 264 v "Swap").run prog w=((receiverAt 264 (.val v) false (some ((("Swap":String).splitOn ".").getLastD "Swap"))) >>=fun r=>pure (225,r)).run prog w:=by kernel_rfl
theorem Ps (n g:Nat) {v:Value} {w:World} (h:w.cell? ⟨g,0,none⟩=some v):(Go.method (n+1) 264 (.pointer (some ⟨g,0,none⟩)) "Swap").run prog w=.ok (225,v) w:=by
 rw [xI,KH,Ul,Uy g h]
 rfl
theorem U5 (n:Nat) (v:Value) (w:World):(Go.method (n+1) 264 v "Push").run prog w=.ok (224,v) w:=by kernel_rfl
theorem Ag9 (n:Nat) (v:Value) (w:World):(Go.method (n+1) 264 v "Pop").run prog w=.ok (223,v) w:=by kernel_rfl
structure EJ where
 left:Row Br
 no:Nat
abbrev EJ.cs (h:EJ):Array Value:=#[.slice h.left.A h.left.n h.left.c,.int .i64 h.no]
structure EJ.ok (w:World) (h:EJ):Prop where
 left:h.left.ok w
 n1:1≤h.left.n
 no:h.no≤1000000
theorem EJ.ok.mono {w w':World} {h:EJ} (k:h.ok w) (hb:Ai w w'):h.ok w':=⟨k.left.mono hb,k.n1,k.no⟩
theorem Np (h:EJ):h.cs.all (·.oneCell')=true:=by simp [Value.oneCell']
instance At3:AY EJ where
 size:=2
 bytes:=32
 cells h:=h.cs.toList
 ok w h:=h.ok w
 len _:=rfl
 pos:=by omega
 mono hb h:=h.mono hb
abbrev EJ.Ac (h:EJ):Hd:=(cons h.left.l,h.no)
theorem Le:Es prog 269 2:=⟨⟨_,underlying269,rfl⟩,by kernel_rfl⟩
theorem jX:Cy prog 266 269 2 32:=Cy.mk' (z:=.agg #[.slice none 0 0,.int .i64 0]) underlying266 Za0 rfl Xl
abbrev Js (g:Nat) (A:Option Addr) (n c:Nat) (L:List EJ) (rest:List FM):List FM:=Aw g 266 #[.slice A n c]::Ce 269 2 (.slice A n c) n (L.flatMap AY.cells)::rest
theorem SL.tl {S:Nat→Prop} {w0 w:World} {r:FM} {l:List FM} (h:SL S w0 w (r::l)):SL S w0 w l:=h.pick l (·+1) (fun i q hq=>by simpa using hq) (fun i j _ _ e=>by omega)
theorem Zv3 {p:Prop} (h:p:=by
 rcases h.2 with ⟨h0,h1⟩|⟨g',cap,cur,hv,_⟩
 ·omega
 ·injection hv with hv1 _ _;exact ⟨g',hv1⟩
):p:=h
theorem qG {w:World} {e:TypeId} {size n c:Nat} {A:Option Addr} {xs:List Value} (h:w.ownsRow 0 e size (.slice A n c) n xs) (hn:0<n):∃ g,A=some ⟨g,0,none⟩:=by
 exact Zv3
theorem Py {w:World} {A:Option Addr} {n c k:Nat} {L:List EJ} (h:w.ownsRow 0 269 2 (.slice A n c) n (L.flatMap AY.cells)) (hk:k<n):
 ∃ b a,A=some ⟨b,0,none⟩∧b<w.heap.size∧L[k]?=some a∧w.rangeAt b (k * 2) a.cs.toList∧w.cell? ⟨b,k * 2,none⟩=some (.slice a.left.A a.left.n a.left.c)∧w.cell? ⟨b,k * 2+1,none⟩=some (.int .i64 a.no):=by
 obtain ⟨g,rfl⟩:=qG h Xl;have hl:L.length=n:=Il (Rd.BC h);have ha:=Fp (show k<L.length by omega);obtain ⟨h1,h2⟩:=Gy h ha;exact ⟨g,_,rfl,h2,ha,h1,h1 0 _ rfl,h1 1 _ rfl⟩
theorem cons_cons {l:List Br} {f:Br} (h:l[0]?=some f):∃ t,cons l=f.Ac::t:=by
 cases l with
 |nil=>simp at h
 |cons a l=>injection h with h;subst h;exact ⟨_,rfl⟩
theorem Ah2 {a b:EJ} {f g:Br} (hf:a.left.l[0]?=some f) (hg:b.left.l[0]?=some g):Fb a.Ac b.Ac=(decide (Dn f.ks.l g.ks.l=-1)||(decide (Dn f.ks.l g.ks.l=0) && decide (a.no<b.no))):=by
 obtain ⟨s,hs⟩:=cons_cons hf;obtain ⟨t,ht⟩:=cons_cons hg;simp only [Fb,EJ.Ac,hs,ht]
 rfl
theorem VP (A:Option Addr) (n c:Nat) (w:World):Calls prog 184 #[.slice A n c] w fun e w'=>e=.returned (.int .i64 n)∧w=w':=by
 go_enter func184,ntmps184;go_wp2;go_ret;exact ⟨rfl,rfl⟩
theorem iX (A:Option Addr) (n c i k:Nat) (L:List EJ) (a b:EJ) (w:World) (h:w.ownsRow 0 269 2 (.slice A n c) n (L.flatMap AY.cells)) (hn:n≤1000000) (ha:L[i]?=some a) (hb:L[k]?=some b) (oa:a.ok w) (ob:b.ok w):
 Calls prog 222 #[.slice A n c,.int .i64 i,.int .i64 k] w fun e w'=>e=.returned (.bool (Fb a.Ac b.Ac))∧Ai w w':=by
 have hl:L.length=n:=Il (Rd.BC h);have hi:=(CB.1 ha).1;have hk:=(CB.1 hb).1;obtain ⟨g,a',rfl,hg,ha',_,tQ,ca1⟩:=Py h (k:=i) Xl;rw [ha] at ha';injection ha' with ha';subst ha';obtain ⟨g',b',e,_,hb',_,cb0,cb1⟩:=Py h (k:=k) Xl;rw [hb] at hb';injection hb' with hb';subst hb';injection e with e;injection e with e;subst e;obtain ⟨ba,oo,f,hA,hba,hf0,hf,_,hrf,_⟩:=oa.left.Z7 oa.n1;obtain ⟨bb,pp,f2,hB,hbb,hf2,hf2k,_,hrf2,_⟩:=ob.left.Z7 ob.n1;have HL:Hid (Fb a.Ac b.Ac=(decide (Dn f.ks.l f2.ks.l=-1)||(decide (Dn f.ks.l f2.ks.l=0) && decide (a.no<b.no)))):=Ah2 hf0 hf2;have HC:=Aa (fun w' (hb:Ai w w')=>Qq f f2 w' ⟨hf.ks.mono hb,hf.ag⟩ ⟨hf2k.ks.mono hb,hf2k.ag⟩);have HR1:=Aa hrf;have HR2:=Aa hrf2;have H:=Aa (SL.start No w);have HCR:=Aa (Ia f.ks.l f2.ks.l);have n1a:=oa.n1;have n1b:=ob.n1;have ga:=oa.no;have gb:=ob.no;obtain ⟨⟨LA,ln,lc,ll⟩,no⟩:=a;obtain ⟨⟨MA,mn,mc,ml⟩,no2⟩:=b;simp only at *;subst hA hB;clear hf0 hf hrf hf2 hf2k hrf2 h ha hb oa ob;have i0:(0:Int)≤i:=by omega
 have i1:(i:Int)<n:=by omega
 have k0:(0:Int)≤k:=by omega
 have k1:(k:Int)<n:=by omega
 have l1:(0:Int)<ln:=by omega
 have m1:(0:Int)<mn:=by omega
 go_enter func222,ntmps222;generalize Dn f.ks.l f2.ks.l=C at *;go_upto_region 1 with fail;have Aw3:=fun u:Over w=>Over.cell tQ u
 have Aw2:=fun u:Over w=>Over.cell cb0 u
 refine Am ?_;(try simp only [Act.put,LP]);repeat (first
  |((with_reducible show wpQuiet _ _ _ _ (⟨some 14,_,_,_,_,_⟩::_) _);refine Ah (by first|rfl|go_simp) Bz (.tmp 13) rfl ba (oo) rfl _ rfl hba HR1.Ab ?_;simp only [Act.put,LP])
  |((with_reducible show wpQuiet _ _ _ _ (⟨some 21,_,_,_,_,_⟩::_) _);refine Ah (by first|rfl|go_simp) Bz (.tmp 20) rfl bb (pp) rfl _ rfl hbb HR2.Ab ?_;simp only [Act.put,LP])
  |go_big_quiet_step (((go_at_call 108;rename_i u;exact AB (HC _ u.Av)))))
 refine CS ?_;rintro w5 ⟨⟨_,Gd⟩,rfl⟩;(try dsimp only);replace H:=Aa (H.Av Gd);clear Aw3 Aw2 tQ cb0;have da1:w5.cell? ⟨g,i * 2+1,none⟩=some (.int .i64 no):=by rw [Vl (Gd.block g hg)];exact ca1
 have db1:w5.cell? ⟨g,k * 2+1,none⟩=some (.int .i64 no2):=by rw [Vl (Gd.block g hg)];exact cb1
 clear ca1 cb1 Gd;rcases HCR.Ab with rfl|rfl|rfl
 ·replace HL:Hid (_=true):=HL;go_upto_region 2 with fail;have cO:=fun u:Over w5=>Over.cell da1 u
  have cK:=fun u:Over w5=>Over.cell db1 u
  refine Am ?_;(try simp only [Act.put,LP]);repeat (go_big_quiet_step (fail))
  refine CS ?_;rintro w5 ⟨⟨_,Gd⟩,rfl⟩;(try dsimp only);replace H:=Aa (H.Av Gd);clear cO cK da1 db1;go_wp2;go_ret;rw [HL.Ab];exact ⟨by first|rfl|(simp;done),H.to⟩
 ·by_cases hq:no<no2
  ·replace HL:=Aa (HL.trans (show _=true by simp [hq]));have q1:(no:Int)<no2:=by omega
   go_upto_region 2 with fail;have cO:=fun u:Over w5=>Over.cell da1 u
   have cK:=fun u:Over w5=>Over.cell db1 u
   refine Am ?_;(try simp only [Act.put,LP]);repeat (go_big_quiet_step (fail))
   refine CS ?_;rintro w5 ⟨⟨_,Gd⟩,rfl⟩;(try dsimp only);replace H:=Aa (H.Av Gd);clear cO cK da1 db1;go_wp2;go_ret;rw [HL.Ab];exact ⟨by first|rfl|(simp;done),H.to⟩
  ·replace HL:=Aa (HL.trans (show _=false by simp [hq]));have q1:¬ (no:Int)<no2:=by omega
   go_upto_region 2 with fail;have cO:=fun u:Over w5=>Over.cell da1 u
   have cK:=fun u:Over w5=>Over.cell db1 u
   refine Am ?_;(try simp only [Act.put,LP]);repeat (go_big_quiet_step (fail))
   refine CS ?_;rintro w5 ⟨⟨_,Gd⟩,rfl⟩;(try dsimp only);replace H:=Aa (H.Av Gd);clear cO cK da1 db1;go_wp2;go_ret;rw [HL.Ab];exact ⟨by first|rfl|(simp;done),H.to⟩
 ·replace HL:Hid (_=false):=HL;go_upto_region 2 with fail;have cO:=fun u:Over w5=>Over.cell da1 u
  have cK:=fun u:Over w5=>Over.cell db1 u
  refine Am ?_;(try simp only [Act.put,LP]);repeat (go_big_quiet_step (fail))
  refine CS ?_;rintro w5 ⟨⟨_,Gd⟩,rfl⟩;(try dsimp only);replace H:=Aa (H.Av Gd);clear cO cK da1 db1;go_wp2;go_ret;rw [HL.Ab];exact ⟨by first|rfl|(simp;done),H.to⟩
section
variable {P : Program} {w : World}
theorem Cw {ops:Array Oper} {o:Oper} {a:Act} {K:Act→World→Prop} {Q:Exit→Act→World→Prop} {X:Prop} (hgd:o.guard=none) {ty:TypeId} {n:Nat} (R:Es P ty n) (x:Operand) (ho:o.op=.load ty x)
 (b off:Nat) (hx:a.eval x=.pointer (some ⟨b,off,none⟩)) (cs:Array Value) (hr:w.rangeAt b off cs.toList) (hn:cs.size=n)
 (h:K (a.put o.dst (.agg cs)) w):if Region.wanted o (yielded ops a.tmps)=true then Oper.wp P o a w K Q else X:=by
 have hw:Region.wanted o (yielded ops a.tmps)=true:=by simp [Region.wanted,hgd]
 rw [Al hw];obtain ⟨d,hu,hd⟩:=R.hu;exact wp_load_mid ty x ho b off hx cs.toList d hr hu hd Zb6 Zb3
theorem Lc {α:Type} [AY α] {base:Nat} {e:TypeId} {g n c:Nat} {l:List α} {ops:Array Oper} {o:Oper} {a:Act} {K:Act→World→Prop} {Q:Exit→Act→World→Prop} {X:Prop} (hgd:o.guard=none) {ty:TypeId} {size:Nat} (R:Es P ty size) (x y:Operand) (ho:o.op=.store ty x y) (hsz:size=AY.size α)
 (k:Nat) (hx:a.eval x=.pointer (some ⟨g,k * AY.size α,none⟩)) (h:w.ownsRow base e (AY.size α) (.slice (some ⟨g,0,none⟩) n c) n (l.flatMap AY.cells)) (hk:k<n) (f:α) (cs:Array Value) (hcs:cs.toList=AY.cells f) (hy:a.eval y=.agg cs) (h1:cs.all (·.oneCell')=true)
 (hn:∀ w',w'.ownsRow base e (AY.size α) (.slice (some ⟨g,0,none⟩) n c) n ((l.set k f).flatMap AY.cells)→w.grownBy w' (some g)→K (a.put o.dst undef) w'):if Region.wanted o (yielded ops a.tmps)=true then Oper.wp P o a w K Q else X:=by
 have hw:Region.wanted o (yielded ops a.tmps)=true:=by simp [Region.wanted,hgd]
 have hss:cs.size=AY.size α:=by have:=CW List.length hcs;rw [Array.length_toList,AY.len] at this;exact this
 rw [Al hw];refine Uc ty x y ho g (k * AY.size α) cs hx hy (by rw [hss];exact SF h hk) (by rw [R.hi,hss,hsz]) h1 ?_;rw [hcs];exact hn _ (Uu h hk f) (Dy w g _ _)
end
theorem Zl1 {p:Prop} (h:p:=by refine Aj Ad trivial fun hHeld=>?_;clear Ad KK;refine BG Hw fun KK Ad=>?_;go_simp;refine Aj Ad trivial fun hHeld=>?_;clear Ad KK;refine BG Jc fun KK Ad=>?_;refine Lc rfl Le (.tmp 18) (.tmp 13) rfl rfl i (by first|rfl|go_simp) (H.row 1 rfl) Xl y y.cs rfl (by first|rfl|go_simp) (Np _) ?_;intro wq AJ Aq;replace H:=Aa (H.setRow 1 rfl Aq AJ (.inl rfl));(try simp only [LS] at H);clear AJ Aq;refine Aj Ad trivial fun hHeld=>?_;clear Ad KK;refine BG Jw fun KK Ad=>?_;go_simp;refine Aj Ad trivial fun hHeld=>?_;clear Ad KK;refine BG bV fun KK Ad=>?_;refine Lc rfl Le (.tmp 19) (.tmp 17) rfl rfl k (by first|rfl|go_simp) (H.row 1 rfl) Xl x x.cs rfl (by first|rfl|go_simp) (Np _) ?_;intro wq AJ Aq;replace H:=Aa (H.setRow 1 rfl Aq AJ (.inl rfl));(try simp only [LS] at H);clear AJ Aq;refine Aj Ad trivial fun hHeld=>?_;clear Ad KK;refine BZ ?_;clear hHeld;go_wp2;go_returns;exact ⟨rfl,H.Ab⟩):p:=h
theorem Zb0 {p:Prop} (h:p:=by assumption):p:=h
theorem Px (w0 w:World) (g:Nat) (A:Option Addr) (n c i k:Nat) (L:List EJ) (rest:List FM) (x y:EJ) (h:SL No w0 w (Js g A n c L rest)) (hn:n≤1000000) (ha:L[i]?=some x) (hb:L[k]?=some y):
 Calls prog 225 #[.slice A n c,.int .i64 i,.int .i64 k] w fun e w'=>e=.returned (.tuple #[])∧SL No w0 w' (Js g A n c ((L.set i y).set k x) rest):=by
 have hl:L.length=n:=Il (Rd.BC (h.row 1 rfl));have hi:=(CB.1 ha).1;have hk:=(CB.1 hb).1;obtain ⟨b,rfl⟩:=qG (h.row 1 rfl) Xl;have H:=Aa h;clear h;have i0:(0:Int)≤i:=by omega
 have i1:(i:Int)<n:=by omega
 have k0:(0:Int)≤k:=by omega
 have k1:(k:Int)<n:=by omega
 go_enter func225,ntmps225;go_upto_region 0 with fail;refine Ep (S:=fun _=>True) Za0 trivial fun hHeld=>?_;replace H:=Aa (H.drew);refine Bd Ml ?_;refine Bd KF ?_;refine Bd MN ?_;refine Bd Ky ?_;refine Bd LJ ?_;refine Bd KW ?_;refine Bd MI ?_;refine Bd Mk ?_;refine Bd MH ?_;refine Bd FO ?_;refine Oh Lj Ga (fun KK Ad=>?_) fun KK Ad=>?_
 ·refine Cw rfl Le (.tmp 12) (by first|rfl|go_simp) b (k * 2) (by first|rfl|go_simp) y.cs (Gy (H.row 1 rfl) Zb0).1 rfl ?_;refine Aj Ad trivial fun hHeld=>?_;clear Ad KK;refine BG Ga fun KK Ad=>?_;refine Cw rfl Le (.tmp 16) (by first|rfl|go_simp) b (i * 2) (by first|rfl|go_simp) x.cs (Gy (H.row 1 rfl) Zb0).1 rfl ?_;exact Zl1
 ·refine Cw rfl Le (.tmp 16) (by first|rfl|go_simp) b (i * 2) (by first|rfl|go_simp) x.cs (Gy (H.row 1 rfl) Zb0).1 rfl ?_;refine Aj Ad trivial fun hHeld=>?_;clear Ad KK;refine BG Lj fun KK Ad=>?_;refine Cw rfl Le (.tmp 12) (by first|rfl|go_simp) b (k * 2) (by first|rfl|go_simp) y.cs (Gy (H.row 1 rfl) Zb0).1 rfl ?_;exact Zl1
theorem tY (v:Value) (w:World):(Instr.typeAssert (.iface 269 v) 20 269 true).run prog w=.ok (.tuple #[v,.bool true]) w:=by kernel_rfl
theorem Zj1 {p:Prop} (h:p:=by
 refine Aj Ad trivial fun hHeld=>?_;clear Ad KK;refine BG MI fun KK Ad=>?_;refine AX rfl (.tmp 14) (.tmp 16) _ rfl jX 0 (Bj _) _ n _ rfl (H.row 3 rfl) _ 1 1 h.cs.toList rfl (AV (H.blk 0 rfl) rfl) (fun u hu=>Nb.1 (Np h) u Zc2) Za4 Xl ?_;intro vq wq AJ Aq AQ;replace H:=Aa (H.setRow 3 rfl Aq AJ AQ);(try simp only [LS] at H);clear AJ Aq AQ;obtain ⟨A2,c2,rfl,_⟩:=Ao (H.row 3 rfl);refine Aj Ad trivial fun hHeld=>?_;clear Ad KK;refine BG Lj fun KK Ad=>?_;go_simp;refine Aj Ad trivial fun hHeld=>?_;clear Ad KK;refine BG Mk fun KK Ad=>?_;have c8:=(H.blk 2 rfl).Ap 0;have f8:=(H.blk 2 rfl).frozen 0;go_simp;replace H:=Aa (H.setCell 2 rfl 0 (.slice A2 (n+1) c2));(try simp only [LS] at H);clear c8 f8;refine Aj Ad trivial fun hHeld=>?_;clear Ad KK;refine BZ ?_;clear hHeld;go_wp2;go_returns;refine ⟨rfl,A2,c2,?_⟩;have hf:L.flatMap AY.cells++h.cs.toList=(L++[h]).flatMap AY.cells:=by simp [AY.cells]
 have H2:=H.tl.tl;rw [hf] at H2;exact H2
):p:=h
theorem Zp1 {p:Prop} (h:p:=by refine Aj Ad trivial fun hHeld=>?_;clear Ad KK;refine BG KW fun KK Ad=>?_;refine BU rfl jX (.tmp 15) rfl (h.cs) (by first|rfl|go_simp) rfl Xl ?_;replace H:=Aa ((H.alloc (h.cs) 269).rot);(try simp only [LS] at H);generalize World.alloc _ _=w2 at *;exact Zj1):p:=h
theorem X5 (w0 w:World) (g:Nat) (A:Option Addr) (n c:Nat) (L:List EJ) (rest:List FM) (h:EJ) (hh:SL No w0 w (Js g A n c L rest)) (hn:n≤1000000):
 Calls prog 224 #[.pointer (some ⟨g,0,none⟩),.iface 269 (.agg h.cs)] w fun e w'=>e=.returned (.tuple #[])∧∃ (A':Option Addr) (c':Nat),SL No w0 w' (Js g A' (n+1) c' (L++[h]) rest):=by
 have H:=Aa hh;clear hh;go_enter func224,ntmps224;have hta:∀ w,(Instr.typeAssert (.iface 269 (.agg h.cs)) 20 269 true).run prog w=.ok (.tuple #[.agg h.cs,.bool true]) w:=fun w=>tY _ w
 go_upto_region 1 with ((with_reducible refine OS 4 ?_);refine DX Le h.cs (Np _) ?_;replace H:=Aa ((H.alloc h.cs 269).rot);(try simp only [LS] at H));(try simp only [Act.put,LP]);generalize w.heap.size=x at *;generalize World.alloc _ _=w1 at *;refine Ep (S:=fun _=>True) Za0 trivial fun hHeld=>?_;replace H:=Aa (H.drew);refine Bd Ml ?_;refine Bd KF ?_;refine Bd MN ?_;refine Oh Ky LJ (fun KK Ad=>?_) fun KK Ad=>?_
 ·have c3:=(H.blk 1 rfl).Ap 0;go_simp;clear c3;refine Aj Ad trivial fun hHeld=>?_;clear Ad KK;refine BG LJ fun KK Ad=>?_;refine Cw rfl Le (.tmp 4) (by first|rfl|go_simp) _ 0 (by first|rfl|go_simp) h.cs (H.blk 0 rfl).range rfl ?_;exact Zp1
 ·refine Cw rfl Le (.tmp 4) (by first|rfl|go_simp) _ 0 (by first|rfl|go_simp) h.cs (H.blk 0 rfl).range rfl ?_;refine Aj Ad trivial fun hHeld=>?_;clear Ad KK;refine Oh Ky KW (fun KK Ad=>?_) fun KK Ad=>?_
  ·have c3:=(H.blk 1 rfl).Ap 0;go_simp;clear c3;exact Zp1
  ·refine BU rfl jX (.tmp 15) rfl (h.cs) (by first|rfl|go_simp) rfl Xl ?_;replace H:=Aa ((H.alloc (h.cs) 269).rot);(try simp only [LS] at H);generalize World.alloc _ _=w2 at *;refine Aj Ad trivial fun hHeld=>?_;clear Ad KK;refine BG Ky fun KK Ad=>?_;have c3:=(H.blk 2 rfl).Ap 0;go_simp;clear c3;exact Zj1
theorem Ag0 {w:World} {base:Nat} {e:TypeId} {size n c k:Nat} {A:Option Addr} {xs:List Value} (h:w.ownsRow base e size (.slice A n c) n xs) (hk:k≤n):w.ownsRow base e size (.slice A k c) k (xs.take (k * size)):=by
 have hm:k * size≤n * size:=QF _ hk;refine ⟨by rw [FK,h.1];omega,?_⟩;rcases h.2 with ⟨h0,h1⟩|⟨g,cap,cur,hv,hb,hh,hn,hx,hs,ht⟩
 ·have hk0:k=0:=by omega
  subst hk0;injection h0 with h2 _ h3;subst h2 h3;exact .inl ⟨rfl,rfl⟩
 ·injection hv with h2 _ h3;subst h2 h3;refine .inr ⟨g,c,cur,rfl,hb,hh,Xl,hx,hs,?_⟩;rw [←ht,List.take_take,Vi hm]
theorem yD (L:List EJ) (k:Nat):(L.take k).flatMap AY.cells=(L.flatMap AY.cells).take (k * 2):=by
 induction L generalizing k with
 |nil=>simp
 |cons a L ih=>
  cases k with
  |zero=>simp
  |succ k=>
   have ha:(AY.cells a).length=2:=rfl;rw [Pn,Df,Df,ih,show (k+1) * 2=(AY.cells a).length+k * 2 by rw [ha];omega,List.take_length_add_append]
theorem Ai2 (w0 w:World) (g:Nat) (A:Option Addr) (m c:Nat) (L:List EJ) (rest:List FM) (h:SL No w0 w (Js g A (m+1) c L rest)) (hn:m≤1000000):
 Calls prog 223 #[.pointer (some ⟨g,0,none⟩)] w fun e w'=>(∃ v,e=.returned v)∧SL No w0 w' (Js g A m c (L.take m) rest):=by
 have hc:m+1≤c:=by
  rcases (h.row 1 rfl).2 with ⟨_,h1⟩|⟨_,cap,_,hv,_,_,h2,_⟩
  ·omega
  ·injection hv with _ _ h3;omega
 obtain ⟨b,a,rfl,hb,ha,hrg,_,_⟩:=Py (h.row 1 rfl) (k:=m) Xl;have HR:=Aa hrg;have H:=Aa h;clear h hrg ha;have cg:=(H.blk 0 rfl).Ap 0;have fg:=(H.blk 0 rfl).frozen 0;have i0:(0:Int)≤m:=by omega
 have i1:(m:Int)<(m+1:Nat):=by omega
 have e1:((m+1:Nat):Int) - 1=m:=by omega
 go_enter func223,ntmps223;go_upto_region 3 with (first|((with_reducible refine OP 13 ?_);(refine Af rfl Le (.tmp 12) rfl b (m * 2) rfl a.cs rfl HR.Ab ?_))|((with_reducible refine OS 4 ?_);refine DX Le a.cs (Np _) ?_;replace H:=Aa ((H.alloc a.cs 269).rot);(try simp only [LS] at H)));(try simp only [Act.put,LP]);clear cg fg;generalize w.heap.size=x at *;generalize World.alloc _ _=w1 at *;have cg:=(H.blk 1 rfl).Ap 0;have fg:=(H.blk 1 rfl).frozen 0;go_upto_region 4 with fail;replace H:=Aa (H.setCell 1 rfl 0 (.slice (some ⟨b,0,none⟩) m c));(try simp only [LS] at H);clear cg fg;generalize World.setCell _ _ _=w2 at *;have H2:=Aa (H.setRow (w':=w2) 2 rfl (e':=269) (size':=2) (n':=m) (v':=.slice (some ⟨b,0,none⟩) m c) (xs':=((L.take m).flatMap AY.cells)) (Fr.grown (Fr.refl _ _)) (by rw [yD];exact Ag0 (H.row 2 rfl) Xl) (.inl rfl));clear H;go_wp2_with ((with_reducible refine OP 21 ?_);refine CY rfl Le (.tmp 4) rfl _ rfl (H2.blk 0 rfl) rfl ?_);go_returns;exact ⟨⟨_,rfl⟩,H2.tl⟩
theorem VI {L:List EJ} {i j:Nat} {a b:EJ}:((L.set i a).set j b).map EJ.Ac=TG (L.map EJ.Ac) i j b.Ac a.Ac:=by rw [List.map_set,List.map_set];(try rfl)
theorem Qk {L:List EJ} {i:Nat} {a:EJ} (h:L[i]?=some a):(L.map EJ.Ac)[i]?=some a.Ac:=by rw [Ee,h];(try rfl)
theorem dC {L:List EJ} {w:World} (h:∀ x ∈ L,x.ok w):∀ x ∈ L.map EJ.Ac,x.1≠[]:=fun x hx e=>by
 obtain ⟨y,hy,rfl⟩:=Kc.1 hx;have h1:=(h y hy).n1;have h2:=(h y hy).left.len;have h3:(cons y.left.l).length=0:=by rw [show cons y.left.l=[] from e];(try rfl)
 rw [AR] at h3;omega
theorem Zf7 {p:Prop} (h:p:=by rw [HLn.Ab];omega):p:=h
theorem Ac4 (w0 w:World) (g:Nat) (A:Option Addr) (n c j0:Nat) (L0:List EJ) (rest:List FM) (h:SL No w0 w (Js g A n c L0 rest)) (hn:n≤1000000) (hok:∀ x ∈ L0,x.ok w0) (hj:j0<n) (hu:fK (L0.map EJ.Ac) j0):
 Calls prog 199 #[.iface 264 (.pointer (some ⟨g,0,none⟩)),.int .i64 j0] w fun e w'=>e=.returned (.tuple #[])∧∃ L,L.Perm L0∧Heap (L.map EJ.Ac) n∧SL No w0 w' (Js g A n c L rest):=by
 have H:=Aa h;have KC:=Aa hok;have hl0:L0.length=n:=Il (Rd.BC (h.row 1 rfl));have HU:=Aa hu;have HP:Hid (L0.Perm L0):=List.Perm.refl _;have HL0:=Aa hl0;clear h hok hu hl0;go_enter func199,ntmps199;go_wp2_with fail;go_loopg [1,4] j0 (fun gg s1 s4 wr=>∃ (j:Nat) (L:List EJ),gg=j∧j<n∧s1=.int .i64 j∧Hid (L.Perm L0)∧Hid (fK (L.map EJ.Ac) j)∧Hid (SL No w0 wr (Js g A n c L rest)));case atStart=>exact ⟨j0,L0,rfl,hj,rfl,HP,HU,H⟩
 case round=>
  clear H HU HP hj;obtain ⟨j,L,BR,hj,rfl,HP,HU,H⟩:=hrel;have Cs:=Aa BR;clear BR;have HLn:Hid (L.length=n):=Il (Rd.BC (H.row 1 rfl));by_cases hj0:j=0
  ·subst hj0;have HH:Hid (Heap (L.map EJ.Ac) n):=by have h:=Ac3 HU.Ab;rw [CQ,HLn.Ab] at h;exact h
   go_wp2_with fail;go_returns;exact ⟨rfl,L,HP.Ab,HH.Ab,H.Ab⟩
  ·obtain ⟨k,rfl⟩:∃ k,j=k+1:=⟨j - 1,Xl⟩;have e1:((k+1:Nat):Int) - 1=k:=by omega
   have e2:(k:Int).tdiv 2=((k / 2:Nat):Int):=rfl;have e3:¬ ((k / 2:Nat):Int)=((k+1:Nat):Int):=by omega
   have e4:((((k / 2:Nat):Int))==((k+1:Nat):Int))=false:=by simp<;>omega
   obtain ⟨x,hx⟩:∃ x,L[k+1]?=some x:=⟨_,Fp (by rw [HLn.Ab];exact hj)⟩;obtain ⟨y,hy⟩:∃ y,L[k / 2]?=some y:=⟨_,Fp Zf7⟩;have HX:=Aa hx;have HY:=Aa hy;have HLs:=Aa (fun w' (hb:Ai w0 w') (ho:w'.ownsRow 0 269 2 (.slice A n c) n (L.flatMap AY.cells))=>iX A n c (k+1) (k / 2) L x y w' ho hn hx hy ((KC x (HP.mem_iff.1 (CU hx))).mono hb) ((KC y (HP.mem_iff.1 (CU hy))).mono hb));clear hx hy;have cm:=(H.blk 0 rfl).Ap 0;have mm:=fun k=>Pt k g cm
   clear cm;go_wp2_with fail;clear mm;refine (HLs _ H.to (H.row 1 rfl)).mono ?_;rintro e w2 ⟨rfl,hb2⟩;replace H:=Aa (H.Av hb2);clear hb2 HLs;cases hL:Fb x.Ac y.Ac with
   |false=>
    have HH:Hid (Heap (L.map EJ.Ac) n):=by have h:=Al9 HU (Qk HX.Ab) (Qk HY.Ab) hL;rw [CQ,HLn.Ab] at h;exact h
    clear hL;go_wp2_with fail;go_returns;exact ⟨rfl,L,HP.Ab,HH.Ab,H.Ab⟩
   |true=>
    have HU2:Hid (fK (((L.set (k / 2) x).set (k+1) y).map EJ.Ac) (k / 2)):=by show fK _ _;rw [VI];exact Am0 (j:=k+1) Xl HU (dC (w:=w0) fun z hz=>KC z (HP.mem_iff.1 hz)) (Qk HX.Ab) (Qk HY.Ab) hL
    have Xq:Hid (((L.set (k / 2) x).set (k+1) y).Perm L0):=(swap_perm Xl HY HX.Ab).trans HP.Ab;clear hL HU HP;have cm:=(H.blk 0 rfl).Ap 0;have mm:=fun k=>Ps k g cm
    clear cm;go_wp2_with fail;clear mm;refine (Px w0 _ g A n c (k / 2) (k+1) L rest y x H hn HY HX.Ab).mono ?_;rintro e w3 ⟨rfl,hh3⟩;replace H:=Aa hh3;clear hh3;go_wp2_with fail;go_roundg (k / 2);case rel=>exact ⟨k / 2,_,rfl,Xl,by go_num,Xq,HU2,H⟩
    case measure=>rw [Cs.Ab];omega
theorem Vn {L:List EJ} {m k:Nat} {x:EJ} (h:L[k]?=some x) (hk:k<m):((L.take m).map EJ.Ac)[k]?=some x.Ac:=Qk (by rw [Jk hk];exact h)
theorem tmem {L:List EJ} {m k:Nat} {x:EJ} (h:L[k]?=some x) (hk:k<m):x ∈ L.take m:=CU (by rw [Jk hk];exact h)
theorem tne {L:List EJ} {w:World} {m k:Nat} {x:EJ} (h:∀ z ∈ L.take m,z.ok w) (hx:L[k]?=some x) (hk:k<m):x.Ac.1≠[]:=dC h _ (List.mem_map_of_mem (tmem hx hk))
theorem UA (a:Hd):Fb a a=false:=by
 cases hq:Fb a a with
 |false=>rfl
 |true=>have:=MF hq;rw [this] at hq;cases hq
theorem Zk7 {p:Prop} (h:p:=by
 have HT:Hid ((((L.set i x).set j1 y).take m).map EJ.Ac=TG ((L.take m).map EJ.Ac) i j1 y.Ac x.Ac):=by show _=_;rw [LQ,LQ,VI]
 have HU2:Hid (Lv ((((L.set i x).set j1 y).take m).map EJ.Ac) m j1):=by
  show Lv _ _ _;rw [HT.Ab];exact Xf (by rw [CQ,FK,HLn.Ab];omega) Xl Xl HPj1 HU (dC (w:=w0) KC.Ab) (Vn Wn Xl) (Vn HY Xl) hL HM.Ab
 have Xq:Hid ((((L.set i x).set j1 y).take m).Perm (L0.take m)):=by
  show List.Perm _ _;rw [LQ,LQ];exact (swap_perm Xl (by rw [Jk Xl];exact HY.Ab) (by rw [Jk Xl];exact Wn.Ab)).trans HP.Ab
 have HD2:Hid (((L.set i x).set j1 y).drop m=L0.drop m):=by show _=_;rw [Wx Xl,Wx Xl,HD.Ab]
 have Xr:Hid (∀ z ∈ ((L.set i x).set j1 y).take m,z.ok w0):=fun z hz=>KC z ((HP.mem_iff).2 (Xq.mem_iff.1 hz))
 clear hL HT;have cm:=(H.blk 0 rfl).Ap 0;have mm:=fun k=>Ps k g cm
 clear cm;go_wp2_with fail;clear mm;refine (Px w0 _ g A n c i j1 L rest y x H hn HY Wn.Ab).mono ?_;rintro e w3 ⟨rfl,hh3⟩;replace H:=Aa hh3;clear hh3;go_wp2_with fail;go_roundg (m - j1);case rel=>exact ⟨j1,_,rfl,Xl,by go_num,Xq,HD2,Xr,HU2,H⟩
 case measure=>rw [Cs.Ab];omega
):p:=h
theorem Zo5 {p:Prop} (h:p:=by
 have HH:Hid (Heap ((L.take m).map EJ.Ac) m):=SY HU (fun k a b h0 hk hp ha hb=>by
  rw [Vn HY Xl] at hb;injection hb with hb;subst hb;exact JE (tne KC Wn Xl) hL (HM k a h0 hk hp ha))
 clear hL;go_wp2_with fail;go_returns;exact ⟨⟨_,rfl⟩,L,HP.Ab,HD.Ab,HH.Ab,H.Ab⟩
):p:=h
theorem sV (w0 w:World) (g:Nat) (A:Option Addr) (n m c i0:Nat) (L0:List EJ) (rest:List FM) (h:SL No w0 w (Js g A n c L0 rest)) (hn:n≤1000000) (hm:m≤n) (hok:∀ x ∈ L0.take m,x.ok w0) (hi:i0≤m) (hu:Lv ((L0.take m).map EJ.Ac) m i0):
 Calls prog 200 #[.iface 264 (.pointer (some ⟨g,0,none⟩)),.int .i64 i0,.int .i64 m] w fun e w'=>(∃ b,e=.returned (.bool b))∧∃ L,(L.take m).Perm (L0.take m)∧L.drop m=L0.drop m∧Heap ((L.take m).map EJ.Ac) m∧SL No w0 w' (Js g A n c L rest):=by
 have H:=Aa h;have KC:=Aa hok;have HU:=Aa hu;have HP:Hid ((L0.take m).Perm (L0.take m)):=List.Perm.refl _;clear h hok hu;go_enter func200,ntmps200;go_wp2_with fail;go_loopg [7,8,9,10] (m - i0) (fun gg s7 s8 s9 s10 wr=>∃ (i:Nat) (L:List EJ),gg=m - i∧i≤m∧s7=.int .i64 i∧Hid ((L.take m).Perm (L0.take m))∧Hid (L.drop m=L0.drop m)∧Hid (∀ x ∈ L.take m,x.ok w0)∧Hid (Lv ((L.take m).map EJ.Ac) m i)∧Hid (SL No w0 wr (Js g A n c L rest)));case atStart=>exact ⟨i0,L0,rfl,hi,rfl,HP,Aa rfl,KC,HU,H⟩
 case round=>
  clear H HU HP KC hi;obtain ⟨i,L,BR,hi,rfl,HP,HD,KC,HU,H⟩:=hrel;have Cs:=Aa BR;clear BR;have HLn:Hid (L.length=n):=Il (Rd.BC (H.row 1 rfl));obtain ⟨j1,hj1⟩:∃ j1,j1=2 * i+1:=⟨_,rfl⟩;have e1:2 * (i:Int)+1=(j1:Int):=by omega
  have b1:j1≤2000001:=by omega
  have l1:i<j1:=by omega
  have HJ1:=Aa hj1;have HPj1:Hid ((j1 - 1) / 2=i):=by show _=_;omega
  clear hj1;have e1p:(0:Int)≤j1:=by omega
  by_cases hb1:m≤j1
  ·have HH:Hid (Heap ((L.take m).map EJ.Ac) m):=SY HU (fun k a b h0 hk hp ha hb=>by have:=HJ1.Ab;omega);go_wp2_with fail;go_returns;exact ⟨⟨_,rfl⟩,L,HP.Ab,HD.Ab,HH.Ab,H.Ab⟩
  ·obtain ⟨y,hy⟩:∃ y,L[i]?=some y:=⟨_,Fp Zf7⟩;obtain ⟨x,hx⟩:∃ x,L[j1]?=some x:=⟨_,Fp Zf7⟩;have HY:=Aa hy;have Wn:=Aa hx;have HLs:=Aa (fun (p q:Nat) (a b:EJ) (ha:L[p]?=some a) (hb:L[q]?=some b) (hp:p<m) (hq:q<m) w' (hb2:Ai w0 w') (ho:w'.ownsRow 0 269 2 (.slice A n c) n (L.flatMap AY.cells))=>iX A n c p q L a b w' ho hn ha hb ((KC a (tmem ha hp)).mono hb2) ((KC b (tmem hb hq)).mono hb2));clear hx hy;obtain ⟨j2,hj2⟩:∃ j2,j2=j1+1:=⟨_,rfl⟩;have e2:(j1:Int)+1=(j2:Int):=by omega
   have l2:j1<j2:=by omega
   have b2:j2≤2000002:=by omega
   have HJ2:=Aa hj2;have HPj2:Hid ((j2 - 1) / 2=i):=by show _=_;have:=HJ1.Ab;omega
   clear hj2;by_cases hb2:j2<m
   ·obtain ⟨x2,hx2⟩:∃ x,L[j2]?=some x:=⟨_,Fp Zf7⟩;have uJ:=Aa hx2;clear hx2;have cm:=(H.blk 0 rfl).Ap 0;have mm:=fun k=>Pt k g cm
    clear cm;go_wp2_with fail;clear mm;refine (HLs j2 j1 x2 x uJ Wn Xl Xl _ H.to (H.row 1 rfl)).mono ?_;rintro e w2 ⟨rfl,hb2⟩;replace H:=Aa (H.Av hb2);clear hb2;cases hq:Fb x2.Ac x.Ac with
    |true=>
     have HM:Hid (∀ k c,0<k→k<m→(k - 1) / 2=i→((L.take m).map EJ.Ac)[k]?=some c→Fb c x2.Ac=false):=fun k c h0 hk hp hc=>by
      rcases (show k=j1∨k=j2 by have:=HJ1.Ab;have:=HJ2.Ab;omega) with rfl|rfl
      ·rw [Vn Wn Xl] at hc;injection hc with hc;subst hc;exact MF hq
      ·rw [Vn uJ Xl] at hc;injection hc with hc;subst hc;exact UA _
     clear hq;have cm:=(H.blk 0 rfl).Ap 0;have mm:=fun k=>Pt k g cm
     clear cm;go_wp2_with fail;clear mm;refine (HLs j2 i x2 y uJ HY Xl Xl _ H.to (H.row 1 rfl)).mono ?_;rintro e w2 ⟨rfl,hb2⟩;replace H:=Aa (H.Av hb2);clear hb2;cases hL:Fb x2.Ac y.Ac with
     |false=>
      have HH:Hid (Heap ((L.take m).map EJ.Ac) m):=SY HU (fun k a b h0 hk hp ha hb=>by
       rw [Vn HY Xl] at hb;injection hb with hb;subst hb;exact JE (tne KC uJ Xl) hL (HM k a h0 hk hp ha))
      clear hL;go_wp2_with fail;go_returns;exact ⟨⟨_,rfl⟩,L,HP.Ab,HD.Ab,HH.Ab,H.Ab⟩
     |true=>
      have HT:Hid ((((L.set i x2).set j2 y).take m).map EJ.Ac=TG ((L.take m).map EJ.Ac) i j2 y.Ac x2.Ac):=by show _=_;rw [LQ,LQ,VI]
      have HU2:Hid (Lv ((((L.set i x2).set j2 y).take m).map EJ.Ac) m j2):=by
       show Lv _ _ _;rw [HT.Ab];exact Xf (by rw [CQ,FK,HLn.Ab];omega) Xl Xl HPj2 HU (dC (w:=w0) KC.Ab) (Vn uJ Xl) (Vn HY Xl) hL HM.Ab
      have Xq:Hid ((((L.set i x2).set j2 y).take m).Perm (L0.take m)):=by
       show List.Perm _ _;rw [LQ,LQ];exact (swap_perm Xl (by rw [Jk Xl];exact HY.Ab) (by rw [Jk Xl];exact uJ.Ab)).trans HP.Ab
      have HD2:Hid (((L.set i x2).set j2 y).drop m=L0.drop m):=by show _=_;rw [Wx Xl,Wx Xl,HD.Ab]
      have Xr:Hid (∀ z ∈ ((L.set i x2).set j2 y).take m,z.ok w0):=fun z hz=>KC z ((HP.mem_iff).2 (Xq.mem_iff.1 hz))
      clear hL HT;have cm:=(H.blk 0 rfl).Ap 0;have mm:=fun k=>Ps k g cm
      clear cm;go_wp2_with fail;clear mm;refine (Px w0 _ g A n c i j2 L rest y x2 H hn HY uJ.Ab).mono ?_;rintro e w3 ⟨rfl,hh3⟩;replace H:=Aa hh3;clear hh3;go_wp2_with fail;go_roundg (m - j2);case rel=>exact ⟨j2,_,rfl,Xl,by go_num,Xq,HD2,Xr,HU2,H⟩
      case measure=>rw [Cs.Ab];omega
    |false=>
     have HM:Hid (∀ k c,0<k→k<m→(k - 1) / 2=i→((L.take m).map EJ.Ac)[k]?=some c→Fb c x.Ac=false):=fun k c h0 hk hp hc=>by
      rcases (show k=j1∨k=j2 by have:=HJ1.Ab;have:=HJ2.Ab;omega) with rfl|rfl
      ·rw [Vn Wn Xl] at hc;injection hc with hc;subst hc;exact UA _
      ·rw [Vn uJ Xl] at hc;injection hc with hc;subst hc;exact hq
     clear hq;have cm:=(H.blk 0 rfl).Ap 0;have mm:=fun k=>Pt k g cm
     clear cm;go_wp2_with fail;clear mm;refine (HLs j1 i x y Wn HY Xl Xl _ H.to (H.row 1 rfl)).mono ?_;rintro e w2 ⟨rfl,hb2⟩;replace H:=Aa (H.Av hb2);clear hb2;cases hL:Fb x.Ac y.Ac with
     |false=>
      exact Zo5
     |true=>
      exact Zk7
   ·have HM:Hid (∀ k c,0<k→k<m→(k - 1) / 2=i→((L.take m).map EJ.Ac)[k]?=some c→Fb c x.Ac=false):=fun k c h0 hk hp hc=>by
     obtain rfl:k=j1:=by have:=HJ1.Ab;have:=HJ2.Ab;omega
     rw [Vn Wn Xl] at hc;injection hc with hc;subst hc;exact UA _
    have cm:=(H.blk 0 rfl).Ap 0;have mm:=fun k=>Pt k g cm
    clear cm;go_wp2_with fail;clear mm;refine (HLs j1 i x y Wn HY Xl Xl _ H.to (H.row 1 rfl)).mono ?_;rintro e w2 ⟨rfl,hb2⟩;replace H:=Aa (H.Av hb2);clear hb2;cases hL:Fb x.Ac y.Ac with
    |false=>
     exact Zo5
    |true=>
     exact Zk7
theorem xO (w0 w:World) (g:Nat) (A:Option Addr) (n c:Nat) (L:List EJ) (rest:List FM) (a:EJ) (h:SL No w0 w (Js g A n c L rest)) (hn:n≤999999) (hok:∀ x ∈ L,x.ok w0) (ha:a.ok w0) (hh:Heap (L.map EJ.Ac) n):
 Calls prog 183 #[.iface 264 (.pointer (some ⟨g,0,none⟩)),.iface 269 (.agg a.cs)] w fun e w'=>e=.returned (.tuple #[])∧∃ (A':Option Addr) (c':Nat) (L':List EJ),L'.Perm (L++[a])∧Heap (L'.map EJ.Ac) (n+1)∧SL No w0 w' (Js g A' (n+1) c' L' rest):=by
 have hl:L.length=n:=Il (Rd.BC (h.row 1 rfl));have KC:Hid (∀ x ∈ L++[a],x.ok w0):=fun x hx=>(Ec.1 hx).elim (hok x) (fun h=>by rw [Ef] at h;subst h;exact ha)
 have HU:Hid (fK ((L++[a]).map EJ.Ac) n):=by
  constructor
  ·intro k x y h0 hk hP hx hy;rw [CQ,Cn,List.length_singleton] at hk;rw [Cf,QH (by rw [CQ];omega)] at hx hy;exact hh k x y h0 Xl (fun h=>h) hx hy
  ·intro k x y h0 h1 hk hx hy;have:=(CB.1 hx).1;rw [CQ,Cn,List.length_singleton] at this;omega
 have HP:=Aa (X5 w0 w g A n c L rest a h Xl);clear h hok ha hh hl;go_enter func183,ntmps183;have mm:=fun k w=>U5 k (.pointer (some ⟨g,0,none⟩)) w
 go_wp2_with fail;clear mm;refine HP.mono ?_;rintro e w2 ⟨rfl,A2,c2,h2⟩;have H:=Aa h2;clear h2 HP;have cm:=(H.blk 0 rfl).Ap 0;have mm:=fun k=>aS k g cm
 clear cm;go_wp2_with fail;clear mm;refine (VP _ _ _ _).mono ?_;rintro e w3 ⟨rfl,rfl⟩;have e1:((n+1:Nat):Int) - 1=n:=by omega
 go_wp2_with fail;refine (Ac4 w0 _ g A2 (n+1) c2 n (L++[a]) rest H Xl KC Xl HU.Ab).mono ?_;rintro e w4 ⟨rfl,L',hp,hh,hs⟩;have HR:Hid (∃ (A':Option Addr) (c':Nat) (L':List EJ),L'.Perm (L++[a])∧Heap (L'.map EJ.Ac) (n+1)∧SL No w0 w4 (Js g A' (n+1) c' L' rest)):=⟨A2,c2,L',hp,hh,hs⟩;clear hp hh hs;go_wp2;go_returns;exact ⟨rfl,HR.Ab⟩
theorem X7 (w0 w:World) (g:Nat) (A:Option Addr) (n c:Nat) (L:List EJ) (rest:List FM) (h:SL No w0 w (Js g A n c L rest)) (hn:n≤1000000) (h1:1≤n) (hok:∀ x ∈ L,x.ok w0) (hu:Lv (L.map EJ.Ac) n 0):
 Calls prog 186 #[.iface 264 (.pointer (some ⟨g,0,none⟩)),.int .i64 0] w fun e w'=>e=.returned (.tuple #[])∧∃ (L':List EJ),L'.Perm L∧Heap (L'.map EJ.Ac) n∧SL No w0 w' (Js g A n c L' rest):=by
 have hl:L.length=n:=Il (Rd.BC (h.row 1 rfl));have ht:L.take n=L:=EU Xl;have HDn:=Aa (sV w0 w g A n n c 0 L rest h hn (Ci _) (by rw [ht];exact hok) (Bj _) (by rw [ht];exact hu));have KC:=Aa hok;have HT:=Aa ht;have H:=Aa h;clear h hok hu hl ht;go_enter func186,ntmps186;have cm:=(H.blk 0 rfl).Ap 0;have mm:=fun k=>aS k g cm
 clear cm;go_wp2_with fail;clear mm;refine (VP _ _ _ _).mono ?_;rintro e w3 ⟨rfl,rfl⟩;go_wp2_with fail;refine HDn.mono ?_;rintro e w4 ⟨⟨b,rfl⟩,L',hp,hd,hh,hs⟩;have hl2:L'.length=n:=Il (Rd.BC (hs.row 1 rfl));have ht2:L'.take n=L':=EU Xl;rw [ht2,HT.Ab] at hp;rw [ht2] at hh;have HP:=Aa hp;have HH:=Aa hh;have HU:Hid (fK (L'.map EJ.Ac) 0):=⟨fun k x y h0 hk hP hx hy=>by
  rw [CQ,hl2] at hk;exact hh k x y h0 hk (fun h=>h) hx hy,fun k x y h0=>by omega⟩
 have Xr:Hid (∀ x ∈ L',x.ok w0):=fun x hx=>KC x (hp.mem_iff.1 hx)
 clear H HDn hp hd hh hl2 ht2;have H:=Aa hs;clear hs;cases b with
 |true=>
  go_wp2;go_returns;exact ⟨rfl,L',HP.Ab,HH.Ab,H.Ab⟩
 |false=>
  go_wp2_with fail;refine (Ac4 w0 _ g A n c 0 L' rest H hn Xr Xl HU.Ab).mono ?_;rintro e w5 ⟨rfl,L2,hp2,hh2,hs2⟩;have HR:Hid (∃ (L2:List EJ),L2.Perm L∧Heap (L2.map EJ.Ac) n∧SL No w0 w5 (Js g A n c L2 rest)):=⟨L2,hp2.trans HP.Ab,hh2,hs2⟩;clear hp2 hh2 hs2;go_wp2;go_returns;exact ⟨rfl,HR.Ab⟩
theorem X6 (w0 w:World) (g:Nat) (A:Option Addr) (m c:Nat) (L:List EJ) (rest:List FM) (r:EJ) (h:SL No w0 w (Js g A (m+1) c L rest)) (hn:m≤999999) (hr:L[0]?=some r) (hok:∀ k x,0<k→L[k]?=some x→x.ok w0) (hh:Heap (L.map EJ.Ac) (m+1)):
 Calls prog 185 #[.iface 264 (.pointer (some ⟨g,0,none⟩))] w fun e w'=>(∃ v,e=.returned v)∧∃ (L':List EJ),(L'++[r]).Perm L∧Heap (L'.map EJ.Ac) m∧SL No w0 w' (Js g A m c L' rest):=by
 have hl:L.length=m+1:=Il (Rd.BC (h.row 1 rfl));obtain ⟨z,hz⟩:∃ z,L[m]?=some z:=⟨_,Fp Xl⟩;obtain ⟨L1,hL1⟩:∃ L1,L1=(L.set 0 z).set m r:=⟨_,rfl⟩;have get1:∀ k,L1[k]?=if k=m then some r else if k=0 then some z else L[k]?:=fun k=>by
  rw [hL1];by_cases e1:k=m
  ·rw [Al e1,e1,NK Za3]
  ·rw [Ak e1,Ou (fun h=>e1 h.symm)];by_cases e2:k=0
   ·rw [Al e2,e2,NK Xl]
   ·rw [Ak e2,Ou (fun h=>e2 h.symm)]
 have hl1:L1.length=m+1:=by rw [hL1];simp [hl]
 have hp1:L1.Perm L:=by
  rw [hL1];by_cases e:m=0
  ·subst e;rw [hr] at hz;injection hz with hz;subst hz;rw [List.set_set];rw [show L.set 0 r=L from YZ fun k=>by
    by_cases e:k=0
    ·rw [e,NK Xl,hr]
    ·rw [Ou (fun h=>e h.symm)]]
  ·exact swap_perm Xl hr hz
 have KC:Hid (∀ x ∈ L1.take m,x.ok w0):=fun x hx=>by
  obtain ⟨k,hk⟩:=MZ.1 hx;rw [WE] at hk;split at hk
  ·rename_i hkm;rw [get1,Ak Xl] at hk;split at hk
   ·injection hk with hk;subst hk;exact hok m z Xl hz
   ·exact hok k x Xl hk
  ·cases hk
 have HU:Hid (Lv ((L1.take m).map EJ.Ac) m 0):=by
  constructor
  ·intro k x y h0 hk hP hx hy;rw [Ee,Jk hk,get1,Ak Xl,Ak Xl,←Ee] at hx;rw [Ee,Jk Xl,get1,Ak Xl,Ak hP,←Ee] at hy;exact hh k x y h0 Xl (fun h=>h) hx hy
  ·intro k x y h0;omega
 have HSw:=Aa (Px w0 w g A (m+1) c 0 m L rest r z h Xl hr hz);rw [←hL1] at HSw;have HG:Hid (L1=L1.take m++[r]):=by
  show _=_;have:=Na m L1
  conv=>lhs;rw [←this]
  congr 1
  rw [Eh Xl,EN Xl];have hg:=get1 m;rw [Al rfl,Fp Xl] at hg;injection hg with hg;rw [hg]
 have HP1:=Aa hp1;have H:=Aa h;clear h hok hh hl hr hz hL1 get1 hl1 hp1;go_enter func185,ntmps185;have cm:=(H.blk 0 rfl).Ap 0;have mm:=fun k=>aS k g cm
 clear cm;go_wp2_with fail;clear mm;refine (VP _ _ _ _).mono ?_;rintro e w3 ⟨rfl,rfl⟩;have e1:((m+1:Nat):Int) - 1=m:=by omega
 have cm:=(H.blk 0 rfl).Ap 0;have mm:=fun k=>Ps k g cm
 clear cm;go_wp2_with fail;clear mm;refine HSw.mono ?_;rintro e w4 ⟨rfl,h4⟩;replace H:=Aa h4;clear h4 HSw;go_wp2_with fail;refine (sV w0 _ g A (m+1) m c 0 L1 rest H Xl Xl KC (Bj _) HU.Ab).mono ?_;rintro e w5 ⟨⟨b,rfl⟩,L2,hp,hd,hh,hs⟩;have Xq:=Aa hp;have HH:=Aa hh;clear H HU KC hp hd hh;have H:=Aa hs;clear hs;have mm:=fun k w=>Ag9 k (.pointer (some ⟨g,0,none⟩)) w
 go_wp2_with fail;clear mm;refine (Ai2 w0 _ g A m c L2 rest H Xl).mono ?_;rintro e w6 ⟨⟨v,rfl⟩,h6⟩;have HR:Hid (∃ (L':List EJ),(L'++[r]).Perm L∧Heap (L'.map EJ.Ac) m∧SL No w0 w6 (Js g A m c L' rest)):=⟨L2.take m,((Xq.append_right [r]).trans (by rw [←HG.Ab])).trans HP1.Ab,HH.Ab,h6⟩;clear h6 Xq HH H;go_wp2;go_returns;exact ⟨⟨_,rfl⟩,HR.Ab⟩
section
variable {P : Program}
theorem Ro {ops:Array Oper} {rest:List Oper} {o:Oper} {a:Act} {w:World} {Q:Exit→Act→World→Prop} (hgd:o.guard=none) {t:TypeId} (x y:Operand) {i j:Nat} (ho:o.op=.build t #[(i,x),(j,y)])
 {vx vy v:Value} (hx:a.eval x=vx) (hy:a.eval y=vy) (hr:∀ w,(Instr.build t #[(i,vx),(j,vy)]).run P w=.ok v w)
 (h:wpList P ops Q rest (a.put o.dst v) w):wpList P ops Q (o::rest) a w:=by
 exact Zv6
end
theorem SG {α:Type} [AY α] {w:World} {base:Nat} {e:TypeId} {x:Row α} (h:w.ownsRow base e (AY.size α) (.slice x.A x.n x.c) x.n (x.l.flatMap AY.cells)) (ha:∀ a ∈ x.l,AY.ok w a) (hz:x.n * AY.bytes α≤140737488351232):x.ok w:=by
 exact Zo1
theorem JG (f:Br):∀ u ∈ f.cs.toList,u.oneCell'=true:=fun u hu=>Nb.1 (EA f) u Zc2
abbrev rRun (x:Row Br):FM:=⟨fun g=>(0<x.n∧x.v.ownBlock=some g)∨∃ f ∈ x.l,0<f.ks.n∧f.ks.v.ownBlock=some g,fun w=>x.ok w⟩
theorem oW {α:Type} [AY α] {w w':World} {x:Row α} (h:x.ok w) (hs:w.heap.size≤w'.heap.size) (ha:∀ a ∈ x.l,AY.ok w' a) (hk:∀ g,0<x.n→x.v.ownBlock=some g→w'.heap[g]?=w.heap[g]?):x.ok w':=by
 refine ⟨⟨h.rd.1,fun hn=>?_⟩,ha,h.le,h.cap,h.reach⟩;obtain ⟨ad,e,hb,hc⟩:=h.rd.2 hn;refine ⟨ad,e,Xl,fun j u hu=>?_⟩;rw [←hc j u hu];refine Vl ?_;rw [IV];exact hk _ hn (by show Value.ownBlock (.slice x.A x.n x.c)=_;rw [e];(try rfl))
theorem Ae3 {α:Type} [AY α] {w:World} {x:Row α} (h:x.ok w) {g:Nat} (hn:0<x.n) (hg:x.v.ownBlock=some g):g<w.heap.size:=by
 obtain ⟨ad,e,hb,_⟩:=h.rd.2 hn;have hg:Value.ownBlock (.slice x.A x.n x.c)=some g:=hg;rw [e] at hg;injection hg with hg;omega
theorem X8 {x:Row Br} {w:World} (h:x.ok w):(rRun x).holds w:=by
 refine ⟨?_,fun w' hs hk=>oW h hs (fun f hf=>⟨oW (h.all f hf).ks hs (h.all f hf).ks.all fun g hn hg=>hk g (.inr ⟨f,hf,hn,hg⟩),(h.all f hf).ag⟩) fun g hn hg=>hk g (.inl ⟨hn,hg⟩)⟩;rintro g (⟨hn,hg⟩|⟨f,hf,hn,hg⟩)
 ·exact Ae3 h hn hg
 ·exact Ae3 (h.all f hf).ks hn hg
theorem Kw.run {w0 w:World} {v:Value} {fs:List Br} (h:Kw w0 w v fs) (hn:fs.length≤1000000):∃ X:Row Br,v=X.v∧X.l=fs∧X.n=fs.length∧X.ok w∧UY w0 w (rRun X):=by
 obtain ⟨A,n,c,rfl,hnl⟩:∃ A n c,v=.slice A n c∧n=fs.length:=by
  rcases h.own.2 with ⟨hv,h0⟩|⟨g,cap,cur,hv,_⟩
  ·exact ⟨_,_,_,hv,h0.symm⟩
  ·exact ⟨_,_,_,hv,rfl⟩
 subst hnl;have hok:Row.ok w (⟨A,fs.length,c,fs⟩:Row Br):=SG (x:=⟨A,fs.length,c,fs⟩) h.own h.ok (by show fs.length * 104≤_;omega);refine ⟨⟨A,fs.length,c,fs⟩,rfl,rfl,rfl,hok,X8 hok,?_⟩;rintro g (⟨hn,hg⟩|⟨f,hf,hn,hg⟩)
 ·exact Jh h.own hg
 ·obtain ⟨ad,e,_⟩:=(hok.all f hf).ks.rd.2 hn;have hg:Value.ownBlock (.slice f.ks.A f.ks.n f.ks.c)=some g:=hg;rw [e] at hg;injection hg with hg;have:=h.new f hf hn ad e;omega
def Nq (x:Row Br):Row Br:=⟨if x.c=1 then x.A else x.A.map (·.add 11),x.n - 1,x.c - 1,x.l.drop 1⟩
theorem Am2 {w:World} {x:Row Br} (h:x.ok w) (h1:1≤x.n):(Nq x).ok w:=by
 have hl:=h.len;have hle:=h.le;have hcap:=h.cap;have hre:=h.reach;refine ⟨⟨?_,fun hn=>?_⟩,fun f hf=>h.all f (Tx hf),by show x.n - 1≤x.c - 1;omega,by show x.c - 1≤_;omega,by show (x.n - 1) * 104≤_;have:x.n * 104≤140737488351232:=hre;omega⟩
 ·rw [Fu];show (x.l.drop 1).length * 11=(x.n - 1) * 11;rw [Ih,hl]
 ·have hn:0<x.n - 1:=hn;obtain ⟨ad,e,hb,hc⟩:=h.rd.2 Xl;refine ⟨ad.add 11,by show (if x.c=1 then x.A else x.A.map (·.add 11))=_;rw [Ak Xl,e];(try rfl),by rw [IV];exact hb,fun j u hu=>?_⟩;have hu':(x.l.flatMap AY.cells)[11+j]?=some u:=by
   have hx:x.l=x.l.take 1++x.l.drop 1:=(Na 1 x.l).symm;have ht:((x.l.take 1).flatMap AY.cells).length=11:=by rw [Fu,FK,hl];show min 1 x.n * 11=11;rw [Vi h1]
   rw [hx,EM,Rf (by rw [ht];omega),ht,Nat.add_sub_cancel_left];exact hu
  have:=hc (11+j) u hu';rw [←this]
  congr 1
  unfold Addr.add;by_cases h0:j=0
  ·subst h0;simp
  ·simp [h0,QZ]
theorem Ac5:prog.underlying 54=some (.slice (prog.elem 54)):=by kernel_rfl
theorem vX (x:Row Br) (h1:1≤x.n) (w:World):(Instr.sliceAt 54 (.slice x.A x.n x.c) (some (.int .i64 1)) none none).run prog w=.ok (.slice (Nq x).A (Nq x).n (Nq x).c) w:=by
 have hz:∀ w,(sizeOf (prog.elem 54)).run prog w=.ok 11 w:=fun _=>by kernel_rfl
 rw [run_sliceAt_slice (h:=Ac5),run_slice_l (ht:=Ac5) (h0:=by omega) (h1:=by omega),hz];simp [sliced,Nq]
theorem Aa2 {l:List Br} {f:Br} (h:l[0]?=some f):cons l=f.Ac::cons (l.drop 1):=by
 cases l with
 |nil=>simp at h
 |cons a l=>injection h with h;subst h;rfl
theorem lF {w:World} {base:Nat} {e:TypeId} {size g n c o:Nat} {xs:List Value} (h:w.ownsRow base e size (.slice (some ⟨g,0,none⟩) n c) n xs) (ho:o<n * size) (u:Value):(w.setCell ⟨g,o,none⟩ u).ownsRow base e size (.slice (some ⟨g,0,none⟩) n c) n (xs.set o u):=by
 refine ⟨by rw [Rn];exact h.1,?_⟩;rcases h.2 with ⟨h0,h1⟩|⟨g',cap,cur,hv,hb,hh,hn,hm,hs,hx⟩
 ·cases h0
 ·injection hv with hv1 _ hv2;injection hv1 with hv1;injection hv1 with hv1 _ _;subst hv1 hv2;refine .inr ⟨g,c,cur.setIfInBounds o u,rfl,hb,Bh.Iy (t:=e) (cs:=cur) hh o u,hn,hm,by simpa using hs,?_⟩;rw [←hx,Array.toList_setIfInBounds,LQ]
theorem Ag1 {w:World} {base:Nat} {e:TypeId} {size g n c o:Nat} {xs:List Value} (h:w.ownsRow base e size (.slice (some ⟨g,0,none⟩) n c) n xs) (ho:o<n * size):w.frozen? ⟨g,o,none⟩=false:=by
 rcases h.2 with ⟨h0,h1⟩|⟨g',cap,cur,hv,hb,hh,hn,hm,hs,hx⟩
 ·cases h0
 ·injection hv with hv1 _ hv2;injection hv1 with hv1;injection hv1 with hv1 _ _;subst hv1 hv2;have hb2:Bh w g e cur:=hh;exact hb2.frozen o
theorem Y1 {L:List EJ} {r r':EJ} {m:Nat} (h0:L[0]?=some r) (hh:Heap (L.map EJ.Ac) m):Lv ((L.set 0 r').map EJ.Ac) m 0∧(r'.Ac.1=[]→Heap ((L.set 0 r').map EJ.Ac) m):=by
 have g:∀ k,0<k→((L.set 0 r').map EJ.Ac)[k]?=(L.map EJ.Ac)[k]?:=fun k hk=>by rw [Ee,Ee,Ou Xl]
 refine ⟨⟨fun k a b h0 hk hP ha hb=>?_,fun k a b h=>by omega⟩,fun he k a b hk0 hk _ ha hb=>?_⟩
 ·rw [g _ h0] at ha;rw [g _ Xl] at hb;exact hh k a b h0 hk (fun h=>h) ha hb
 ·by_cases hp:(k - 1) / 2=0
  ·rw [hp,Ee,NK (CB.1 h0).1] at hb;injection hb with hb;subst hb;show Fb a r'.Ac=false;unfold Fb;rw [he];cases a.1<;>rfl
  ·rw [g _ hk0] at ha;rw [g _ Xl] at hb;exact hh k a b hk0 hk (fun h=>h) ha hb
theorem bJ {R:List (List CZ)} {k:Nat} {l:List CZ} (h:R[k]?=some l):Ei 0 (R.take (k+1))=Ei 0 (R.take k)++(if l=[] then [] else [(l,k)]):=by
 have hk:=(CB.1 h).1;rw [Ra,h,Option.toList_some,UB,FK,Vi Xl,FI]
 rfl
theorem Q7 (w:World) (e:TypeId) (size:Nat):(w.alloc (.cells #[] e)).ownsRow w.heap.size e size (.slice (some ⟨w.heap.size,0,none⟩) 0 0) 0 []:=
 ⟨uH,.inr ⟨w.heap.size,0,#[],rfl,Ci _,Bh.new w e #[],Ci _,by unfold maxLen;omega,uH,uH⟩⟩
theorem Nz (w:World) (t:TypeId) (cs:Array Value) (size:Nat) (hs:cs.size=size):(w.alloc (.cells cs t)).ownsRow w.heap.size t size (.slice (some ⟨w.heap.size,0,none⟩) 1 1) 1 cs.toList:=
 ⟨by simp [hs],.inr ⟨w.heap.size,1,cs,rfl,Ci _,PW w _,Ci _,by unfold maxLen;omega,Xl,by rw [EU (by simp [hs])]⟩⟩
theorem eF {P:Program} {ops:Array Oper} {rest:List Oper} {o:Oper} {a:Act} {w:World} {Q:Exit→Act→World→Prop} (hgd:o.guard=none) {t:TypeId} (x:Operand) (lo hi:Option Operand) (ho:o.op=.slice t x lo hi none) {v:Value}
 (hr:∀ w,(Instr.sliceAt t (a.eval x) (lo.map a.eval) (hi.map a.eval) none).run P w=.ok v w) (h:wpList P ops Q rest (a.put o.dst v) w):wpList P ops Q (o::rest) a w:=by
 refine Rk hgd fun K hK=>?_;unfold Oper.wp execOp;simp only [ho,Option.map_none,KH,hr,LC,LB];exact hK _ _ h
theorem Ad6 {L:List EJ} {A A':Option Addr} {n c n' c' no:Nat} {l l':List Br} (h:L[0]?=some ⟨⟨A,n,c,l⟩,no⟩):(L.flatMap AY.cells).set 0 (.slice A' n' c')=(L.set 0 ⟨⟨A',n',c',l'⟩,no⟩).flatMap AY.cells:=by
 cases L with
 |nil=>simp at h
 |cons a L=>injection h with h;subst h;rfl
def D6 (l:List CZ) (w:World) (e:Ending) (w':World):Prop:=∃ v fs,e=.returned v∧Kw w w' v fs∧cons fs=l
theorem Q8 {w:World} {base base':Nat} {e:TypeId} {size n:Nat} {v:Value} {xs:List Value} (h:w.ownsRow base e size v n xs) (hb:base'≤base):w.ownsRow base' e size v n xs:=by
 refine ⟨h.1,?_⟩;rcases h.2 with h0|⟨g,cap,cur,hv,hg,hr⟩
 ·exact .inl h0
 ·exact .inr ⟨g,cap,cur,hv,IA hb hg,hr⟩
theorem Kw.from_ {w w1 w2:World} {v:Value} {fs:List Br} (hb:Ai w w1) (h:Kw w1 w2 v fs):Kw w w2 v fs:=⟨hb.trans h.Av,Q8 h.own hb.size,h.ok,h.away,fun f hf hn ad e=>IA hb.size (h.new f hf hn ad e)⟩
abbrev Gi (x:List (Row Br)):List (List CZ):=x.map fun r=>cons r.l
theorem WU (w:World) (x:Row (Row Br)) (hx:x.ok w) (hn:x.n≤5000) (ht:(Gi x.l).flatten.length≤100000) (hs:∀ r ∈ Gi x.l,Yi r):
 Calls prog 152 #[.slice x.A x.n x.c] w (D6 (BK (Gi x.l).flatten) w):=by
 have HX:=Aa hx;have hlen:Hid (x.l.length=x.n):=hx.len;obtain ⟨A0,N,c0,X⟩:=x;simp only at *;obtain ⟨R,hR⟩:∃ R,R=Gi X:=⟨_,rfl⟩;have HRl:Hid (R.length=N):=by show _=_;rw [hR,CQ];exact hlen.Ab
 have nP:Hid (∀ (k:Nat) (y:Row Br),X[k]?=some y→R[k]?=some (cons y.l)):=fun k y h=>by rw [hR,Ee,h];(try rfl)
 rw [←hR] at ht hs ⊢;have HS0:=Aa hs;have HT:=Aa ht;clear hR hx ht hs;go_enter func152,ntmps152;go_upto_region 2 with fail;have H:=Aa ((((SL.start No w).Co ((Ai.refl _).alloc _) (Q7 w 269 2)).alloc #[.slice (some ⟨w.heap.size,0,none⟩) 0 0] 266).rot);(try simp only [LS] at H);generalize w.heap.size+1=g at *;generalize World.alloc (World.alloc _ _) _=w1 at *;generalize (some (⟨w.heap.size,0,none⟩:Addr))=A at *;have HP:Hid ((List.map EJ.Ac ([]:List EJ)).Perm (Ei 0 (R.take 0))):=by rw [Pm];exact List.Perm.nil
 have HH:Hid (Heap (List.map EJ.Ac ([]:List EJ)) 0):=fun k a b h0 hk=>by omega
 have KC:Hid (∀ h ∈ ([]:List EJ),h.ok w):=fun h hh=>by cases hh
 replace H:Hid (SL No w w1 (Js g A 0 0 [] [])):=H;go_wp2_with fail;go_loopg [12,4,5] N (fun gg s12 s4 s5 wr=>∃ (k m c:Nat) (A:Option Addr) (L:List EJ),gg=N - k∧k≤N∧m≤k∧s12=.int .i64 k∧Hid ((L.map EJ.Ac).Perm (Ei 0 (R.take k)))∧Hid (Heap (L.map EJ.Ac) m)∧Hid (∀ h ∈ L,h.ok w)∧Hid (SL No w wr (Js g A m c L [])));case atStart=>exact ⟨0,0,0,A,[],rfl,Xl,Xl,rfl,HP,HH,KC,H⟩
 case round=>
  clear H HP HH KC;obtain ⟨k,m,c,A,L,BR,hk,hmk,rfl,HP,HH,KC,H⟩:=hrel;have Cs:=Aa BR;clear BR;by_cases hlt:k<N
  ·obtain ⟨bb,oo,y,hA,hyk,q1⟩:=Oz rfl (HX.mono H.to).rd (k:=k) hlt;simp only at hA;subst hA;have q1:=q1 _ rfl;have Pw:y.ok w:=HX.all y (CU hyk);have HRk:=Aa (nP k y hyk);have hyl:(cons y.l).length=y.n:=by rw [AR];exact Pw.len
   have i0:(0:Int)≤k:=by omega
   have i1:(k:Int)<N:=by omega
   clear hyk;obtain ⟨YA,yn,yc,yl⟩:=y;simp only [Row.v] at *;by_cases hy0:0<yn
   ·have d1:decide ((0:Int)<yn)=true:=by simp;omega
    have HYok:=Aa Pw;have HPn:Hid (Ei 0 (R.take (k+1))=Ei 0 (R.take k)++[(cons yl,k)]):=by show _=_;rw [bJ HRk.Ab,Ak (fun e=>by rw [e] at hyl;simp at hyl;omega)]
    have hbd:∀ w:World,(Instr.build 269 #[(0,.slice YA yn yc),(1,.int .i64 k)]).run prog w=.ok (.agg #[.slice YA yn yc,.int .i64 k]) w:=fun _=>by kernel_rfl
    clear hyl Pw;go_wp2_with ((with_reducible refine OP 24 ?_);refine Ro rfl (.tmp 22) (.tmp 23) rfl rfl rfl hbd ?_);refine (xO w _ g A m c L [] ⟨⟨YA,yn,yc,yl⟩,k⟩ H Xl KC ⟨HYok.Ab,hy0,by show k≤_;omega⟩ HH.Ab).mono ?_;rintro e w3 ⟨rfl,A2,c2,L2,hp,hh,hs3⟩;have Xq:Hid ((L2.map EJ.Ac).Perm (Ei 0 (R.take (k+1)))):=by
     show List.Perm _ _;rw [HPn.Ab];refine (hp.map EJ.Ac).trans ?_;rw [Cf];exact HP.append_right _
    have Xr:Hid (∀ h ∈ L2,h.ok w):=fun h hm=>by
     rcases Ec.1 (hp.mem_iff.1 hm) with h1|h1
     ·exact KC h h1
     ·rw [Ef] at h1;subst h1;exact ⟨HYok.Ab,hy0,by show k≤_;omega⟩
    have HH2:=Aa hh;clear HP HH KC HPn hp hh H;have H:=Aa hs3;clear hs3 hbd d1 q1;go_wp2_with fail;go_roundg (N - (k+1));case rel=>exact ⟨k+1,m+1,c2,A2,L2,rfl,Xl,Xl,by go_num,Xq,HH2,Xr,H⟩
    case measure=>rw [Cs.Ab];omega
   ·have d1:decide ((0:Int)<yn)=false:=by simp;omega
    have Xq:Hid ((L.map EJ.Ac).Perm (Ei 0 (R.take (k+1)))):=by
     show List.Perm _ _;rw [bJ HRk.Ab,Al (LD (by rw [hyl];omega)),EO];exact HP.Ab
    clear HP hyl Pw;go_wp2_with fail;clear q1 d1;go_roundg (N - (k+1));case rel=>exact ⟨k+1,m,c,A,L,rfl,Xl,Xl,by go_num,Xq,HH,KC,H⟩
    case measure=>rw [Cs.Ab];omega
  ·obtain rfl:k=N:=by omega
   have HP0:Hid ((L.map EJ.Ac).Perm (Ei 0 R)):=by have h:=HP.Ab;rw [EU (by rw [HRl.Ab];exact Ci _)] at h;exact h
   replace H:Hid (SL No w wr [Aw g 266 #[.slice A m c],Ce 269 2 (.slice A m c) m (L.flatMap AY.cells),Ce 97 11 (.slice none 0 0) 0 []]):=Aa (H.Dw 97 11);have HCO:Hid (cons []++BK R.flatten=BK R.flatten):=rfl;have QU:Hid (∀ f ∈ ([]:List Br),f.ok w):=fun f hf=>by cases hf
   clear HP;go_wp2_with fail;clear hlt;go_loopg [6,7] R.flatten.length (fun gg s6 s7 wr=>∃ (m c:Nat) (A:Option Addr) (L:List EJ) (Rm:List (List CZ)) (B:Option Addr) (q d:Nat) (out:List Br),gg=Rm.flatten.length∧s6=.slice B q d∧m≤k∧Hid (out.length=q)∧Hid (q+Rm.flatten.length=R.flatten.length)∧Hid ((L.map EJ.Ac).Perm (Ei 0 Rm))∧Hid (Heap (L.map EJ.Ac) m)∧Hid (∀ h ∈ L,h.ok w)∧Hid (∀ l ∈ Rm,Yi l)∧Hid (cons out++BK Rm.flatten=BK R.flatten)∧Hid (∀ f ∈ out,f.ok w)∧Hid (SL No w wr [Aw g 266 #[.slice A m c],Ce 269 2 (.slice A m c) m (L.flatMap AY.cells),Ce 97 11 (.slice B q d) q (out.flatMap AY.cells)]));case atStart=>exact ⟨m,c,A,L,R,none,0,0,[],rfl,rfl,hmk,Aa rfl,Aa (FI _),HP0,HH,KC,HS0,HCO,QU,H⟩
   case round=>
    clear H HP0 HH KC HS0 HCO QU;obtain ⟨m,c,A,L,Rm,B,q,d,out,BR,rfl,hmk,hq,hqT,HP,HH,KC,HSr,HCO,QU,H⟩:=hrel;have Hgk2:=Aa BR;have HQ:=Aa hq.Ab;clear BR hq;have ch:=(H.blk 0 rfl).Ap 0;go_wp2_with fail;clear ch;refine (VP _ _ _ _).mono ?_;rintro e w3 ⟨rfl,rfl⟩;by_cases hm0:0<m
    ·obtain ⟨m,rfl⟩:∃ m',m=m'+1:=⟨m - 1,Xl⟩;have d1:decide ((0:Int)<((m+1:Nat):Int))=true:=by simp<;>omega
     obtain ⟨b,a,rfl,hb,ha0,hrg,tQ,ca1⟩:=Py (H.row 1 rfl) (k:=0) Xl;have xV:a.ok w:=KC a (CU ha0);obtain ⟨fb,fo,f,hLA,hfb,hf0,hfok,_,hfr,_⟩:=(xV.left.mono H.to).Z7 xV.n1;have QA:Hid (f.ok w):=xV.left.all f (CU hf0);have HR:=Aa hfr;have hch:=Aa2 hf0;have HCH:=Aa hch;have h0:(L.map EJ.Ac)[0]?=some (f.Ac::cons (a.left.l.drop 1),a.no):=by rw [Qk ha0];show some (cons a.left.l,a.no)=_;rw [hch]
     have hlm:(L.map EJ.Ac).length=m+1:=by rw [CQ];exact Il (Rd.BC (H.row 1 rfl))
     have hst:=xK HP (by rw [hlm];exact HH.Ab) h0 HSr.Ab;have HJ:=Aa hst.1;have HST:=Aa hst.2;have nQ:=Aa (xL HP h0 hst.1);have HA0:=Aa ha0;have HSR2:=Aa (Am4 HSr hst.1);clear hst hfr hch h0 hlm hrg ca1 hf0 hfok hfb ha0 hb;have hq1:q≤100000:=by have:=hqT.Ab;have:=HT.Ab;omega
     have hsl:=vX a.left xV.n1;have HAOK:=Aa xV;have tQ:wr.cell? ⟨b,0,none⟩=some (.slice a.left.A a.left.n a.left.c):=by simpa using tQ
     have n1:=xV.n1;clear xV;obtain ⟨⟨LA,ln,lc,ll⟩,no⟩:=a;simp only at *;subst hLA;have n1i:(0:Int)<ln:=by omega
     have ch:=(H.blk 0 rfl).Ap 0;go_upto_region 12 with (first|((with_reducible refine OP 43 ?_);(refine Af rfl Bz (.tmp 42) rfl fb (fo) rfl f.cs rfl HR.Ab ?_))|((with_reducible refine OP 44 ?_);(refine AP rfl EI (.tmp 43) rfl (f.cs) rfl (FL f) Xl ?_;replace H:=Aa (H.Co ((Ai.refl _).alloc _) (Nz _ 97 (f.cs) 11 (FL f)));(try simp only [LS] at H)))|((with_reducible refine OP 45 ?_);(refine Az rfl (.tmp 37) (.tmp 44) _ rfl EI 0 (Bj _) _ q _ rfl (H.row 2 rfl) _ 1 1 f.cs.toList rfl (Rd.BC (H.row 3 rfl)) (JG f) Za4 Xl ?_;intro vq wq AJ Aq AQ;replace H:=Aa (H.setRow 2 rfl Aq AJ AQ);(try simp only [LS] at H);clear AJ Aq AQ;obtain ⟨B2,d2,rfl,_⟩:=Ao (H.row 2 rfl))));(try simp only [Act.put,LP]);replace H:=Aa (H.Fg [0,1,2] Za1 uH);(try simp only [LS] at H);clear ch n1i tQ;(try simp only [LS] at H);have HCO2:Hid (cons (out++[f])++BK (Rm.set no (cons (ll.drop 1))).flatten=BK R.flatten):=by
      show _=_;rw [←HCO.Ab,HST.Ab,show cons (out++[f])=cons out++[f.Ac] by simp [cons]];simp
     have Tq:Hid (∀ z ∈ out++[f],z.ok w):=fun z hz=>(Ec.1 hz).elim (QU z) (fun h=>by rw [Ef] at h;subst h;exact QA.Ab)
     have vG:Hid ((out++[f]).length=q+1):=by show _=_;rw [Cn,HQ.Ab];(try rfl)
     have MG:out.flatMap AY.cells++f.cs.toList=(out++[f]).flatMap AY.cells:=by simp [AY.cells]
     rw [MG] at H;have OI:(Rm.set no (cons (ll.drop 1))).flatten.length+1=Rm.flatten.length:=by
      have h:=CW List.length HST.Ab;rw [FD,Eo,FD] at h;omega
     have HL2:=Aa OI;have HQT2:Hid (q+1+(Rm.set no (cons (ll.drop 1))).flatten.length=R.flatten.length):=by show _=_;have:=hqT.Ab;omega
     clear MG OI HCO QU HQ hqT HST HSr;have tQ:=(Py (H.row 1 rfl) (k:=0) Xl);obtain ⟨b',a',hb',_,ha',_,tQ,_⟩:=tQ;injection hb' with hb';injection hb' with hb';subst hb';rw [HA0.Ab] at ha';injection ha' with ha';subst ha';rw [Ww] at tQ;have fa0:=Ag1 (H.row 1 rfl) (o:=0) Xl;generalize hTA:(Nq ⟨some ⟨fb,fo,none⟩,ln,lc,ll⟩).A=TA at *;generalize hTN:(Nq ⟨some ⟨fb,fo,none⟩,ln,lc,ll⟩).n=TN at *;generalize hTC:(Nq ⟨some ⟨fb,fo,none⟩,ln,lc,ll⟩).c=TC at *;have HTA:=Aa hTA;have HTN:=Aa hTN;have HTC:=Aa hTC;clear hTA hTN hTC;go_upto_region 13 with ((with_reducible refine OP 51 ?_);refine eF rfl (.tmp 50) (some (.const (.int .i64 1))) none rfl hsl ?_);(try simp only [Act.put,LP]);replace H:=Aa (H.setRow 1 rfl (grownBy_setCell _ b 0 (.slice TA TN TC)) (lF (H.row 1 rfl) Xl (.slice TA TN TC)) (.inl rfl));(try simp only [LS] at H);generalize World.setCell _ _ _=wz at *;rw [Ad6 (l':=ll.drop 1) HA0.Ab] at H;obtain ⟨a2,ha2⟩:∃ a2:EJ,a2=⟨⟨TA,TN,TC,ll.drop 1⟩,no⟩:=⟨_,rfl⟩;have nN:Hid ((⟨TA,TN,TC,ll.drop 1⟩:Row Br)=Nq ⟨some ⟨fb,fo,none⟩,ln,lc,ll⟩):=by show _=_;rw [←HTA.Ab,←HTN.Ab,←HTC.Ab];(try rfl)
     have HTok:Hid (Row.ok w (⟨TA,TN,TC,ll.drop 1⟩:Row Br)):=by show Row.ok _ _;rw [nN.Ab];exact Am2 HAOK.left HAOK.n1
     have HLT:Hid ((cons (ll.drop 1)).length=TN):=by show _=_;rw [AR];exact HTok.len
     have zL:=HAOK.no;have zL:no≤1000000:=zL;obtain ⟨L2,hL2⟩:∃ L2,L2=L.set 0 a2:=⟨_,rfl⟩;rw [←ha2,←hL2] at H;have HG0:Hid (L2[0]?=some a2):=by show _=_;rw [hL2,NK (CB.1 HA0.Ab).1]
     have HGk:Hid (∀ k,0<k→L2[k]?=L[k]?):=fun k hk=>by rw [hL2,Ou Xl]
     have HRT:=Aa (Y1 (r':=a2) HA0 HH.Ab);rw [←hL2] at HRT;have HMP:Hid (L2.map EJ.Ac=(L.map EJ.Ac).set 0 (cons (ll.drop 1),no)):=by show _=_;rw [hL2,List.map_set,ha2]
     have HA2:=Aa ha2;have HL2':Hid (L.map EJ.Ac=(f.Ac::cons (ll.drop 1),no)::(L.map EJ.Ac).tail∧L2.map EJ.Ac=(cons (ll.drop 1),no)::(L.map EJ.Ac).tail):=by
      have h1:=Qk HA0.Ab;show _∧_;rw [HMP.Ab];cases hq:L.map EJ.Ac with
      |nil=>rw [hq] at h1;simp at h1
      |cons z zs=>
       have hz:L[0]?=some _:=HA0.Ab;have hj:=(CB.1 HJ.Ab).1;refine ⟨?_,rfl⟩;rw [hq] at h1;injection h1 with h1;rw [List.tail_cons,h1]
       congr 1
       show (cons ll,no)=_;rw [HCH.Ab]
     clear hL2 ha2 tQ fa0 hsl HMP;have tQ:=(Py (H.row 1 rfl) (k:=0) Xl);obtain ⟨b',a',hb',_,ha',_,tQ,_⟩:=tQ;injection hb' with hb';injection hb' with hb';subst hb';rw [HG0.Ab] at ha';injection ha' with ha';subst ha';rw [Ww,HA2.Ab] at tQ;by_cases hz:TN=0
     ·have dz:decide (TN=0)=true:=by simp [hz]
      have HT0:Hid (cons (ll.drop 1)=[]):=LD (by rw [HLT.Ab];exact hz);subst hz;go_wp2_with fail;refine (X6 w _ g (some ⟨b,0,none⟩) m c L2 [Ce 97 11 (.slice B2 (q+1) d2) (q+1) ((out++[f]).flatMap AY.cells)] a2 H Xl HG0 (fun k x h0 hx=>by rw [HGk k h0] at hx;exact KC x (CU hx)) (HRT.2 (by rw [HA2.Ab];exact HT0.Ab))).mono ?_;rintro e w9 ⟨⟨v,rfl⟩,L',hp,hh,hs9⟩;have Xq:Hid ((L'.map EJ.Ac).Perm (Ei 0 (Rm.set no (cons (ll.drop 1))))):=by
       refine nQ.2 HT0 _ ?_;have h1:=hp.map EJ.Ac;rw [Cf,HL2'.2,List.map_singleton,HA2.Ab] at h1;rw [HL2'.1];have h2:((cons (ll.drop 1),no)::L'.map EJ.Ac).Perm ((cons (ll.drop 1),no)::(L.map EJ.Ac).tail):=(List.perm_append_singleton _ _).symm.trans h1;exact (h2.cons_inv.symm.cons _).trans (List.perm_append_singleton _ _).symm
      have Xr:Hid (∀ h ∈ L',h.ok w):=fun h hm=>by
       have hc:L2=a2::L2.tail:=by
        have hg:=HG0.Ab;cases hq:L2 with
        |nil=>rw [hq] at hg;simp at hg
        |cons z zs=>rw [hq] at hg;injection hg with hg;subst hg;rfl
       have h2:(a2::L').Perm (a2::L2.tail):=by rw [←hc];exact (List.perm_append_singleton _ _).symm.trans hp
       obtain ⟨k,hk⟩:=MZ.1 (h2.cons_inv.mem_iff.1 hm);have hk2:L2[k+1]?=some h:=by rw [hc,FR];exact hk
       rw [HGk (k+1) Xl] at hk2;exact KC h (CU hk2)
      have HH2:=Aa hh;clear H hp hh tQ;have H:=Aa hs9;clear hs9;go_wp2_with fail;go_roundg ((Rm.set no (cons (ll.drop 1))).flatten.length);case rel=>exact ⟨m,c,some ⟨b,0,none⟩,L',_,B2,q+1,d2,out++[f],rfl,rfl,Xl,vG,HQT2,Xq,HH2,Xr,HSR2,HCO2,Tq,H⟩
      case measure=>rw [Hgk2.Ab];have:=HL2.Ab;omega
     ·have dz:decide (TN=0)=false:=by simp [hz]
      have HT0:Hid (cons (ll.drop 1)≠[]):=fun e=>by have:=HLT.Ab;rw [e] at this;simp at this;omega
      go_wp2_with fail;have HOK1:Hid (∀ h ∈ L2,h.ok w):=fun h hm=>by
       obtain ⟨k,hk⟩:=MZ.1 hm;by_cases h0:k=0
       ·subst h0;rw [HG0.Ab] at hk;injection hk with hk;subst hk;rw [HA2.Ab];exact ⟨HTok.Ab,by show 1≤TN;omega,zL⟩
       ·rw [HGk k Xl] at hk;exact KC h (CU hk)
      refine (X7 w _ g (some ⟨b,0,none⟩) (m+1) c L2 [Ce 97 11 (.slice B2 (q+1) d2) (q+1) ((out++[f]).flatMap AY.cells)] H Xl Xl HOK1 HRT.1).mono ?_;rintro e w9 ⟨rfl,L',hp,hh,hs9⟩;have Xq:Hid ((L'.map EJ.Ac).Perm (Ei 0 (Rm.set no (cons (ll.drop 1))))):=by
       refine (hp.map EJ.Ac).trans ?_;rw [HL2'.2];have h1:=nQ.1 HT0.Ab;rw [HL2'.1] at h1;exact h1
      have Xr:Hid (∀ h ∈ L',h.ok w):=fun h hm=>HOK1 h (hp.mem_iff.1 hm)
      have HH2:=Aa hh;clear H hp hh tQ;have H:=Aa hs9;clear hs9;go_wp2_with fail;go_roundg ((Rm.set no (cons (ll.drop 1))).flatten.length);case rel=>exact ⟨m+1,c,some ⟨b,0,none⟩,L',_,B2,q+1,d2,out++[f],rfl,rfl,Xl,vG,HQT2,Xq,HH2,Xr,HSR2,HCO2,Tq,H⟩
      case measure=>rw [Hgk2.Ab];have:=HL2.Ab;omega
    ·obtain rfl:m=0:=by omega
     have hL0:L=[]:=LD (Il (Rd.BC (H.row 1 rfl)));have hfl:Rm.flatten=[]:=flatten_nil (by have h:=HP.Ab;rw [hL0] at h;exact h);have HCO2:Hid (cons out=BK R.flatten):=by have h:=HCO.Ab;rw [hfl,show BK []=[] from rfl,EO] at h;exact h
     have hq1:q≤100000:=by have:=hqT.Ab;have:=HT.Ab;omega
     have HX0:=Aa (KV ⟨B,q,d,out⟩ wr (SG (x:=⟨B,q,d,out⟩) (H.row 2 rfl) (fun f hf=>⟨(QU f hf).ks.mono H.to,(QU f hf).ag⟩) (by show q * 104≤_;omega)) (by show q≤_;omega));clear hL0 hfl HP HCO;go_wp2_with fail;refine HX0.mono ?_;rintro e w9 ⟨v,fs,rfl,hG,hc⟩;have HRS:Hid (D6 (BK R.flatten) w (.returned v) w9):=⟨v,fs,rfl,hG.from_ H.to,by rw [hc];exact HCO2.Ab⟩;clear hG hc HX0;go_wp2;go_ret;exact HRS.Ab
def ET (T:Nat→Prop) (w:World) (P:World→Prop):Prop:=∀ w',Fr T w w'→P w'
section
variable {T : Nat → Prop} {w w' : World} {P Q : World → Prop}
theorem ET.now (h:ET T w P):P w:=h w (Fr.refl _ _)
theorem ET.fr (h:ET T w P) (k:Fr T w w'):ET T w' P:=fun w2 k2=>h w2 (k.trans k2 fun _ h=>.inl h)
theorem ET.Av (h:ET T w P) (k:Ai w w'):ET T w' P:=h.fr (Fr.MR k)
theorem ET.imp (h:ET T w P) (k:∀ w',P w'→Q w'):ET T w Q:=fun w2 k2=>k w2 (h w2 k2)
theorem ET.and (h:ET T w P) (k:ET T w Q):ET T w fun w'=>P w'∧Q w':=fun w2 k2=>⟨h w2 k2,k w2 k2⟩
theorem ET.const {p:Prop} (h:p):ET T w fun _=>p:=fun _ _=>h
theorem Fr.mono {S:Nat→Prop} (h:Fr S w w') (hS:∀ g,S g→T g):Fr T w w':=⟨h.os,h.tape,h.output,h.size,fun g hg hn=>h.block g hg fun hs=>hn (hS g hs)⟩
theorem ET.As6 {r:FM} (h:r.holds w) (hT:∀ g,T g→¬ r.D g):ET T w r.p:=fun w2 k=>h.2 w2 k.size fun g hg=>k.block g (h.1 g hg) fun ht=>hT g ht hg
theorem ET.LY {w0:World} {r:FM} (h:UY w0 w r) (hT:∀ g,T g→g<w0.heap.size):ET T w r.p:=ET.As6 h.1 fun g ht hd=>by have:=hT g ht;have:=h.2 g hd;omega
end
section
variable {P : Program} {w : World}
theorem CK {ops:Array Oper} {o:Oper} {a:Act} {K:Act→World→Prop} {Q:Exit→Act→World→Prop} {X:Prop} (hgd:o.guard=none) {ty:TypeId} {n:Nat} (R:Es P ty n) (x y:Operand) (ho:o.op=.store ty x y)
 (g:Nat) (hx:a.eval x=.pointer (some ⟨g,0,none⟩)) {t:TypeId} {cs:Array Value} (hb:Bh w g t cs) (hn:cs.size=n) (cs':Array Value) (hn':cs'.size=n) (hy:a.eval y=.agg cs') (h1:cs'.all (·.oneCell')=true)
 (h:∀ w',Bh w' g t cs'→w.grownBy w' (some g)→K (a.put o.dst undef) w'):if Region.wanted o (yielded ops a.tmps)=true then Oper.wp P o a w K Q else X:=by
 exact Zg8
theorem Zv {ops:Array Oper} {o:Oper} {a:Act} {K:Act→World→Prop} {Q:Exit→Act→World→Prop} {X:Prop} (hgd:o.guard=none) {ty:TypeId} {n:Nat} (R:Es P ty n) (x y:Operand) (ho:o.op=.store ty x y)
 (g off:Nat) (hx:a.eval x=.pointer (some ⟨g,off,none⟩)) {t:TypeId} {cs:Array Value} (hb:Bh w g t cs) (cs':Array Value) (hn':cs'.size=n) (hfit:off+n≤cs.size) (hy:a.eval y=.agg cs') (h1:cs'.all (·.oneCell')=true)
 (h:∀ w',Bh w' g t (Eb cs off cs'.toList)→w.grownBy w' (some g)→K (a.put o.dst undef) w'):if Region.wanted o (yielded ops a.tmps)=true then Oper.wp P o a w K Q else X:=by
 have hw:Region.wanted o (yielded ops a.tmps)=true:=by simp [Region.wanted,hgd]
 rw [Al hw];refine Uc ty x y ho g off cs' hx hy (fun j hj=>?_) Ze2 h1 (h _ (Bh.Eb cs'.toList off hb) (Dy w g _ _));rw [hb.cell,hb.frozen];exact ⟨by rw [Zh Xl];rfl,rfl⟩
end
theorem DU {P:Program} {ops:Array Oper} {S:World→Prop} {op:Oper} {a:Act} {ty:TypeId} {n:Nat} (R:Es P ty n) (hw:Region.wanted op (yielded ops a.tmps)=true) (x:Operand) (ho:op.op=.load ty x)
 (g off:Nat) (hx:a.eval x=.pointer (some ⟨g,off,none⟩)) {cs:Array Value} (hS:∀ w,S w→w.rangeAt g off cs.toList) (hn:cs.size=n):YieldsIf P ops S op (.agg cs) a:=by
 obtain ⟨d,hu,hd⟩:=R.hu;have:=yieldsIf_load_mid (P:=P) (ops:=ops) (S:=S) (op:=op) (a:=a) hw ty x ho g off hx cs.toList d (fun w h=>hS w h) hu hd Zb6;simpa using this
theorem Ac1 {α β:Type} {P:α→β→Prop} {G:α→β→Prop} {Q:Prop} (h1:(∀ a b,P a b→G a b)→Q) (h2:∀ a b,P a b→G a b):Q:=h1 h2
theorem I1 {α β γ:Type} {P G:α→β→γ→Prop} {Q:Prop} (h1:(∀ a b c,P a b c→G a b c)→Q) (h2:∀ a b c,P a b c→G a b c):Q:=h1 h2
theorem G9 {α β γ δ ε:Type} {P G:α→β→γ→δ→ε→Prop} {Q:Prop} (h1:(∀ a b c d e,P a b c d e→G a b c d e)→Q) (h2:∀ a b c d e,P a b c d e→G a b c d e):Q:=h1 h2
theorem SL.blk1 {b:Nat} {t:TypeId} {cs:Array Value} (w:World) (h:Bh w b t cs):SL (One b) w w [Aw b t cs]:=by
 refine ⟨Fr.refl _ _,fun i r hi=>?_,fun i j r q hij hi hj=>?_,fun i r hi g hg=>?_⟩
 ·match i,hi with
  |0,hi=>injection hi with hi;subst hi;exact Mc h
 ·match i,j,hi,hj with
  |0,0,_,_=>exact absurd rfl hij
 ·match i,hi with
  |0,hi=>injection hi with hi;subst hi;exact .inr hg
structure JZ where
 ct:Ct
 rows:Row Br
 has:Bool
 closed:Bool
abbrev JZ.nil:JZ:=⟨Ct.nil,⟨none,0,0,[]⟩,false,false⟩
abbrev JZ.cs (x:JZ):Array Value:=#[.slice x.ct.sc.dm.A x.ct.sc.dm.n x.ct.sc.dm.c,.slice x.ct.sc.ms.A x.ct.sc.ms.n x.ct.sc.ms.c,.int .i64 x.ct.fa,.int .i64 x.ct.p0,.int .i64 x.ct.q0,.int .i64 x.ct.p1,.int .i64 x.ct.q1,.int .i64 x.ct.p2,.int .i64 x.ct.q2,.slice x.rows.A x.rows.n x.rows.c,.bool x.has,.bool x.closed]
abbrev JZ.ms (x:JZ):Array Value:=#[.slice x.ct.sc.dm.A x.ct.sc.dm.n x.ct.sc.dm.c,.slice x.ct.sc.ms.A x.ct.sc.ms.n x.ct.sc.ms.c,.int .i64 x.ct.fa,.int .i64 x.ct.p0,.int .i64 x.ct.q0,.int .i64 x.ct.p1,.int .i64 x.ct.q1,.int .i64 x.ct.p2,.int .i64 x.ct.q2,.slice x.rows.A x.rows.n x.rows.c,.bool x.has,.bool x.closed,.bool true]
theorem Dt (x:JZ):x.cs.all (·.oneCell')=true:=by simp [Value.oneCell']
theorem Am3 (x:JZ):x.ms.all (·.oneCell')=true:=by simp [Value.oneCell']
structure JZ.rd (w:World) (x:JZ):Prop where
 ct:x.ct.rd w
 sm:C9 x.ct.sc
 rows:x.rows.ok w
def JZ.Ac (x:JZ):MC:=⟨x.ct.Ac,cons x.rows.l,x.has,x.closed⟩
theorem JZ.rd.mono {w w':World} {x:JZ} (h:x.rd w) (hb:Ai w w'):x.rd w':=⟨h.ct.mono hb,h.sm,h.rows.mono hb⟩
theorem Qa (w:World):JZ.nil.rd w:=⟨NF w,Sw,⟨(Row.MS w:(Row.mk none 0 0 ([]:List Br)).rd w).r,fun f hf=>(by cases hf),Ci _,Bj _,by show 0 * _≤_;omega⟩⟩
theorem Ae4:Es prog 86 13:=⟨⟨_,underlying86,rfl⟩,by kernel_rfl⟩
theorem Be:Es prog 65 12:=⟨⟨_,underlying65,rfl⟩,by kernel_rfl⟩
theorem AL:Es prog 49 3:=⟨⟨_,underlying49,rfl⟩,by kernel_rfl⟩
theorem BJ (x:Et):x.cs.all (·.oneCell')=true:=by simp [Value.oneCell']
abbrev Et.err (e:Int):Et:=⟨e,⟨none,0,0,[]⟩,⟨none,0,0,[]⟩⟩
theorem BL (e:Int) (w:World):(Et.err e).rd w:=⟨Row.MS w,Row.MS w⟩
theorem DT (e:Int) (w:World):Calls prog 33 #[.int .i64 e] w fun e' w'=>e'=.returned (.agg (Et.err e).cs)∧Ai w w':=by
 have hbd:∀ w:World,(Instr.build 49 #[(0,.int .i64 e)]).run prog w=.ok (.agg #[.int .i64 e,.slice none 0 0,.slice none 0 0]) w:=fun _=>by kernel_rfl
 have H:=Aa ((SL.start No w).alloc #[.int .i64 0,.slice none 0 0,.slice none 0 0] 49);(try simp only [LS] at H);go_enter func33,ntmps33;go_wp2_with (first|((with_reducible refine OP 4 ?_);refine Bv (vx:=.int .i64 e) (v:=.agg #[.int .i64 e,.slice none 0 0,.slice none 0 0]) rfl (.tmp 3) rfl rfl hbd ?_)|((with_reducible refine OS 2 ?_);(refine Cj AL H 0 rfl (#[.int .i64 e,.slice none 0 0,.slice none 0 0]) Za2 ?_;clear H;intro wq H;(try simp only [LS] at H))));(try simp only [Act.put,LP]);refine Bc (AO rfl AL rfl (H.blk 0 rfl) rfl) rfl ?_;exact ⟨rfl,H.to⟩
theorem qQ (w:World):Calls prog 12 #[] w fun e w'=>e=.returned (.pointer (some ⟨w.heap.size,0,none⟩))∧w'=w.alloc (.cells JZ.nil.ms 86):=by
 go_enter func12,ntmps12;go_wp2;go_ret;exact ⟨rfl,rfl⟩
theorem VH (B:Nat) (x:JZ) (w:World) (hb:Bh w B 86 x.ms):Calls prog 28 #[.pointer (some ⟨B,0,none⟩)] w fun e w'=>e=.returned (.bool x.has)∧Ai w w':=by
 have c0:w.cell? ⟨B,10,none⟩=some (.bool x.has):=hb.cell 10;go_enter func28,ntmps28;go_wp2;go_ret;exact ⟨rfl,Ai.refl _⟩
theorem U1 (B:Nat) (x:JZ) (w:World) (hb:Bh w B 86 x.ms):Calls prog 23 #[.pointer (some ⟨B,0,none⟩)] w fun e w'=>e=.returned (.tuple #[])∧Fr (One B) w w'∧Bh w' B 86 (JZ.mk x.ct x.rows x.has false).ms:=by
 have c0:w.cell? ⟨B,11,none⟩=some (.bool x.closed):=hb.cell 11;have f0:=hb.frozen 11;have HB:=Aa hb;go_enter func23,ntmps23;go_wp2;refine bodyPost_end (results_none rfl _ _ _) rfl ?_;refine ⟨rfl,?_,HB.Iy 11 (.bool false)⟩;have h:=grownBy_setCell w B 11 (.bool false);exact ⟨h.os,h.tape,h.output,h.size,fun g hg hn=>h.block g hg (fun e=>hn (by injection e with e;(try exact e.symm)))⟩
attribute [local go_sem] Ll
end Go.Proofs.YtijplolmkcdflaaGreat
namespace Go.Proofs.YtijplolmkcdflaaGreat
open Tryz
open Go.RowKit
attribute [local go_sem] Ll
def mid (L:List Br) (i k:Nat) (x:Br):List Br:=L.take k++x::((L.take i).drop k++L.drop (i+1))
theorem U3 {L:List Br} {i:Nat} {f:Br} (h:L[i]?=some f):mid L i i f=L:=by
 obtain ⟨hi,rfl⟩:=CB.1 h;unfold mid;rw [EN Zb7,FC,←Eh hi,Na]
theorem Nn {L:List Br} {i k:Nat} {x y:Br} (hk:k≤L.length):(mid L i k x).set k y=mid L i k y:=by
 unfold mid;rw [List.set_append_right _ _ Zb7,FK,Vi hk,PU,kD]
theorem U4 {L:List Br} {i k:Nat} {y:Br} (h:L[k]?=some y) (hk:k<i):mid L i (k+1) y=mid L i k y:=by
 obtain ⟨hl,rfl⟩:=CB.1 h;unfold mid;rw [Rh hl];have:(L.take i).drop k=L[k]::(L.take i).drop (k+1):=by
  rw [Eh Zb7,List.getElem_take]
 rw [this];simp only [Eg,KZ,FC]
theorem An5 {L:List Br} {i k:Nat} {x:Br} (hk:k<L.length):(mid L i (k+1) x)[k]?=L[k]?:=by
 unfold mid;rw [QH Zb7,Jk Xl]
theorem YI {L:List Br} {i k:Nat} {x:Br} (hi:i<L.length) (hk:k≤i):(mid L i k x).length=L.length:=by
 unfold mid;simp;omega
theorem Ag8 {L:List Br} {i k:Nat} {f:Br} (hi:i<L.length) (hk:k≤i):(mid L i k f).take (i+1)=L.take k++f::(L.take i).drop k:=by
 unfold mid;rw [show L.take k++f::((L.take i).drop k++L.drop (i+1))=(L.take k++f::(L.take i).drop k)++L.drop (i+1) by simp];rw [List.take_append_of_le_length Za3,EU Za3]
theorem qR {L:List Br} {i k:Nat} {f:Br} (hi:i<L.length) (hk:k≤i):(mid L i k f).drop (i+1)=L.drop (i+1):=by
 unfold mid;rw [show L.take k++f::((L.take i).drop k++L.drop (i+1))=(L.take k++f::(L.take i).drop k)++L.drop (i+1) by simp];rw [List.drop_append_of_le_length Za3,EN Za3,FC]
theorem PH (L:List Br) (i:Nat):cons (L.take i)=(cons L).take i:=by unfold cons;rw [List.map_take]
theorem Me (L:List Br) (i:Nat):cons (L.drop i)=(cons L).drop i:=by unfold cons;rw [List.map_drop]
theorem dB (L M:List Br):cons (L++M)=cons L++cons M:=by unfold cons;rw [Cf]
theorem j5 {L:List Br} {i k:Nat} {f:Br} (hi:i<L.length) (hk:k=BM f.Ac (cons (L.take i)) i):cons ((mid L i k f).take (i+1))=JF f.Ac (cons (L.take i)):=by
 have hki:k≤i:=by rw [hk];exact Ur _ _ _
 have hl:(cons (L.take i)).length=i:=by rw [AR,FK];omega
 rw [Ag8 hi hki];unfold JF;rw [hl,←hk,dB];have e1:cons (L.take k)=(cons (L.take i)).take k:=by rw [←PH,List.take_take,Vi hki]
 have e2:cons (f::(L.take i).drop k)=f.Ac::(cons (L.take i)).drop k:=by rw [←Me];(try rfl)
 rw [e1,e2]
theorem Kw.set {w0 w w':World} {g n c:Nat} {M:List Br} {k:Nat} {f:Br} (h:Kw w0 w (.slice (some ⟨g,0,none⟩) n c) M) (hn:n=M.length) (ho:w'.ownsRow w0.heap.size 97 11 (.slice (some ⟨g,0,none⟩) n c) n ((M.set k f).flatMap AY.cells)) (hg:w.grownBy w' (some g))
 (hf:f.ok w) (hA:uV (.slice (some ⟨g,0,none⟩) n c) f) (hN:0<f.ks.n→∀ ad,f.ks.A=some ad→w0.heap.size≤ad.block):Kw w0 w' (.slice (some ⟨g,0,none⟩) n c) (M.set k f):=by
 have hall:∀ x ∈ M.set k f,x.ok w∧uV (.slice (some ⟨g,0,none⟩) n c) x∧(0<x.ks.n→∀ ad,x.ks.A=some ad→w0.heap.size≤ad.block):=fun x hx=>by
  rcases Zi hx with h1|rfl
  ·exact ⟨h.ok x h1,h.away x h1,h.new x h1⟩
  ·exact ⟨hf,hA,hN⟩
 exact ⟨h.Av.DN hg (Jh h.own rfl),by rw [Rn,←hn];exact ho,fun x hx=>⟨(hall x hx).1.ks.grown hg (hall x hx).2.1,(hall x hx).1.ag⟩,fun x hx=>(hall x hx).2.1,fun x hx=>(hall x hx).2.2⟩
def Ak6 (l:List Br) (w:World) (e:Ending) (w':World):Prop:=∃ v fs,e=.returned v∧Kw w w' v fs∧cons fs=BK (cons l)
theorem Zq2 {p:Prop} (h:p:=by
 show _=_;rw [j5 lW hK.out,hS.Ab];have h1:cons (L.drop i)=(cons l).drop i:=hD.Ab;have h2:((cons l).drop i)[0]?=some f.Ac:=by rw [←h1];exact Jd (by rw [NJ];exact Hf.Ab)
 rw [NJ,Kb] at h2;rw [Ra,h2];exact (Qb _ _).symm
):p:=h
theorem Zt6 {p:Prop} (h:p:=by show _=_;have h1:cons (L.drop i)=(cons l).drop i:=hD.Ab;rw [qR lW Xl];have h2:=CW (List.drop 1) h1;rw [←Me,PQ,PQ] at h2;exact h2):p:=h
theorem Zb4 {p:Prop} (h:p:=by have:=lW.Ab;omega):p:=h
theorem Ad2 (x:Row Br) (w:World) (hx:x.ok w) (hn:x.n≤5000):
 Calls prog 150 #[x.v] w (Ak6 x.l w):=by
 have hlen:Hid (x.l.length=x.n):=hx.len;have Hx:=Aa hx;clear hx;obtain ⟨A,n,c0,l⟩:=x;simp only [Row.v] at *;go_enter func150,ntmps150;go_wp2_with fail;refine (KV ⟨A,n,c0,l⟩ _ Hx Ze0).mono ?_;rintro e w1 ⟨v,fs,rfl,hG,Gm⟩;have Al4:=Aa Gm;have Hfl:Hid (fs.length=n):=by
  have h1:=CW List.length Gm;rw [AR,AR] at h1;have h2:l.length=n:=hlen.Ab;exact h1.trans h2
 clear Gm;by_cases hn1:n≤1
 ·have HR:Hid (cons fs=BK (cons l)):=by
   show _=_;have h1:cons fs=cons l:=Al4.Ab;rw [←h1,gL _ (by rw [AR,Hfl.Ab];exact hn1)]
  have hown:=hG.own;rw [Hfl.Ab] at hown;obtain ⟨A2,c2,rfl,_⟩:=Ao hown;have HG:=Aa hG;clear hG hown;go_wp2;refine wp_loop_rounds 1 ?_;rw [rounds_succ];go_wp2;go_ret;exact ⟨_,fs,rfl,HG.Ab,HR.Ab⟩
 ·obtain ⟨g,c,rfl⟩:∃ g c,v=.slice (some ⟨g,0,none⟩) n c:=by
   rcases hG.own.2 with ⟨_,h0⟩|⟨g,cap,cur,hv,_⟩
   ·have:=Hfl.Ab;omega
   ·exact ⟨g,cap,by rw [hv,Hfl.Ab]⟩
  have H1:Hid (cons (fs.take 1)=BK ((cons l).take 1)):=by
   show _=_;have h1:cons fs=cons l:=Al4.Ab;rw [PH,h1,gL _ Zb7]
  go_wp2;go_loopg [4] (n - 1) (fun gg s4 wr=>∃ (i:Nat) (L:List Br),gg=n - i∧1≤i∧i≤n∧s4=.int .i64 i∧Kw w wr (.slice (some ⟨g,0,none⟩) n c) L∧Hid (L.length=n)∧Hid (cons (L.take i)=BK ((cons l).take i))∧Hid (cons (L.drop i)=(cons l).drop i));case atStart=>exact ⟨1,fs,rfl,Xl,Xl,rfl,hG,Hfl,H1,by show _=_;have h1:cons fs=cons l:=Al4.Ab;rw [Me,h1]⟩
  case round=>
   clear hG H1;obtain ⟨i,L,BR,hi1,hin,rfl,hG,hLn,hS,hD⟩:=hrel;have Cs:=Aa BR;clear BR;by_cases hlt:i<n
   ·obtain ⟨f,Hf⟩:∃ f,Hid (L[i]?=some f):=⟨L[i]'(by have:=hLn.Ab;omega),by show _=_;exact Fp _⟩;have Aq9:wr.ownsRow w.heap.size 97 11 (.slice (some ⟨g,0,none⟩) n c) n (L.flatMap AY.cells):=by have:=hG.own;rw [hLn.Ab] at this;exact this
    obtain ⟨hrf,hgl⟩:=Gy (α:=Br) Aq9 Hf.Ab;have b5:=Bh.new wr 97 f.cs;have hne:wr.heap.size≠g:=by omega
    have hG1:=hG.keep ((Ai.refl wr).alloc (.cells f.cs 97));have Hfm:Hid (f ∈ L):=CU Hf.Ab;have Hmid:=Aa (U3 Hf.Ab);have HfA:Hid (uV (.slice (some ⟨g,0,none⟩) n c) f):=hG.away f Hfm.Ab;have HfN:Hid (0<f.ks.n→∀ ad,f.ks.A=some ad→w.heap.size≤ad.block):=hG.new f Hfm.Ab;have hfo:=hG1.ok f Hfm.Ab;rw [←Hmid.Ab] at hG1;have HG1:=Aa hG1;have Hfo1:=Aa hfo;have Hb5:=Aa b5;clear hG Aq9 hfo hG1 b5;have hrf':wr.rangeAt g (i * 11) f.cs.toList:=hrf;clear hrf;go_wp2_with (first
     |((with_reducible refine OP 18 ?_);refine Af rfl Bz (.tmp 17) rfl g (i * 11) rfl f.cs rfl hrf' ?_)
     |((with_reducible refine OS 5 ?_);refine DX Bz f.cs (EA _) ?_))
    generalize wr.alloc (.cells f.cs 97)=W at *;generalize wr.heap.size=g5 at *;obtain ⟨wo,rfl⟩:∃ wo:World,wo=wr:=⟨_,rfl⟩;go_loopg [6] i (fun gg s6 wx=>∃ (k:Nat) (x:Br),gg=k∧k≤i∧s6=.int .i64 k∧Kw w wx (.slice (some ⟨g,0,none⟩) n c) (mid L i k x)∧Bh wx g5 97 f.cs∧f.ok wx∧Hid (BM f.Ac (cons (L.take i)) i=BM f.Ac (cons (L.take i)) k));case atStart=>exact ⟨i,f,rfl,Xl,rfl,HG1.Ab,Hb5.Ab,Hfo1.Ab,rfl⟩
    case round=>
     clear HG1 Hb5 Hfo1 hrf' hgl;obtain ⟨k0,xx,hgj,hk,rfl,hG,b5,hfo,hP⟩:=hrel;have Lt:=Aa hgj;have nM:=Aa hfo;clear hgj hfo;have lW:Hid (i<L.length):=by rw [hLn.Ab];exact hlt
     cases k0 with
     |zero=>
      have hK:Hid (0=BM f.Ac (cons (L.take i)) i):=by show _=_;rw [hP.Ab];(try rfl)
      have TW:Hid (n=(mid L i 0 xx).length):=by show _=_;rw [YI lW Xl];exact hLn.symm
      have bE:wr.ownsRow w.heap.size 97 11 (.slice (some ⟨g,0,none⟩) n c) n ((mid L i 0 xx).flatMap AY.cells):=by have:=hG.own;rw [←TW.Ab] at this;exact this
      have HR1:Hid (cons ((mid L i (0) f).take (i+1))=BK ((cons l).take (i+1))):=by
       exact Zq2
      have HR2:Hid (cons ((mid L i (0) f).drop (i+1))=(cons l).drop (i+1)):=by
       exact Zt6
      have HR3:Hid ((mid L i (0) f).length=n):=by show _=_;rw [YI lW Xl];exact hLn.Ab
      clear hP;have d0:decide ((0:Int)<0)=false:=rfl;go_wp2_with fail;go_quiet (fail);go_wp2_with (first
       |((with_reducible refine OP 44 ?_);refine Ca (by first|rfl|go_simp) Bz (.tmp 5) (by rfl) g5 (by rfl) (b5.drewN _) rfl ?_)
       |((with_reducible refine OS 45 ?_);refine JA (α:=Br) rfl Bz (.tmp 45) (.tmp 44) rfl rfl (0) rfl (Ig bE (Ai.drewN (Ai.refl _) _)) Xl f f.cs rfl rfl (EA _) ?_;intro w9 Jv fD))
      rw [Nn Zb4] at Jv;have hG9:=(hG.keep (Ai.drewN (Ai.refl _) _)).set (k:=0) (f:=f) TW (by rw [Nn Zb4];exact Jv) fD ⟨nM.ks.mono (Ai.drewN (Ai.refl _) _),nM.ag⟩ HfA HfN.Ab;rw [Nn Zb4] at hG9;have HG9:=Aa hG9;clear hG9 Jv fD;go_wp2;go_roundg (n - (i+1));case rel=>exact ⟨i+1,mid L i (0) f,rfl,Xl,Xl,by go_num,HG9.Ab,HR3,HR1,HR2⟩
      case measure=>rw [Cs.Ab];omega
     |succ k=>
      obtain ⟨y,Hy⟩:∃ y,Hid (L[k]?=some y):=⟨L[k]'Zb4,by show _=_;exact Fp _⟩;have hMy:(mid L i (k+1) xx)[k]?=some y:=by rw [An5 Zb4];exact Hy.Ab
      have TW:Hid (n=(mid L i (k+1) xx).length):=by show _=_;rw [YI lW hk];exact hLn.symm
      have bE:wr.ownsRow w.heap.size 97 11 (.slice (some ⟨g,0,none⟩) n c) n ((mid L i (k+1) xx).flatMap AY.cells):=by have:=hG.own;rw [←TW.Ab] at this;exact this
      obtain ⟨hry0,hgl⟩:=Gy (α:=Br) bE hMy;have hry:wr.rangeAt g (k * 11) y.cs.toList:=hry0;have Tj:=b5.range;have h5l:=b5.lt;have Hym:Hid (y ∈ mid L i (k+1) xx):=CU hMy;have Hyo:Hid (y.ok wr):=hG.ok y Hym.Ab;clear hMy hry0;have hrange:=Ia y.ks.l f.ks.l;have hsw:=Gb y.ks.l f.ks.l;obtain ⟨r,HC⟩:∃ r,Hid (Dn y.ks.l f.ks.l=r):=⟨_,rfl⟩;have HLs:Hid (Er f.Ac y.Ac=(r==1)):=by
       show Fh f.ks.l y.ks.l=_;unfold Fh;rw [hsw,HC.Ab,Wy,Ua,Ua];omega
      rw [HC.Ab] at hrange;have fQ:Hid (BM f.Ac (cons (L.take i)) (k+1)=if (r==1)=true then BM f.Ac (cons (L.take i)) k else k+1):=by
       show _=_;rw [BM];have hg':(cons (L.take i))[k]?=some y.Ac:=Jd (by rw [Jk Xl];exact Hy.Ab);rw [hg'];simp only [Option.any_some,HLs.Ab]
      clear hsw HLs;have d1:decide (0<((k:Int)+1))=true:=by rw [Rb];omega
      have w1:IntKind.i64.wrap ((k:Int)+1 - 1)=(k:Int):=by rw [show (k:Int)+1 - 1=k by omega];exact IB _ Xl
      by_cases hr:0<r
      ·have hr1:r=1:=by omega
       have HPK:Hid (BM f.Ac (cons (L.take i)) i=BM f.Ac (cons (L.take i)) k):=by show _=_;rw [hP.Ab,fQ.Ab,hr1];(try rfl)
       have d2:decide (0<r)=true:=by simp;omega
       clear hP fQ hrange hr1;go_wp2_with fail;refine Am ?_;repeat (first
        |((with_reducible show wpQuiet _ _ _ _ (⟨some 27,_,_,_,_,_⟩::_) _);refine Ah rfl Bz (.tmp 26) rfl g (k * 11) rfl y.cs rfl hgl hry ?_;simp only [Act.put,LP])
        |((with_reducible show wpQuiet _ _ _ _ (⟨some 28,_,_,_,_,_⟩::_) _);refine Ah rfl Bz (.tmp 5) rfl g5 (0) rfl f.cs rfl h5l Tj ?_;simp only [Act.put,LP])
        |go_big_quiet_step (((go_at_call 108;exact AB (VU HC (Hyo.over _) (nM.over _))))))
       refine CS ?_;rintro _ ⟨u,rfl⟩;have hGu:=hG.keep u.Av;have o9:=Ig bE u.Av;have hryU:=CP hgl hry u.Av;have b5U:=b5.Av u.Av;have HfoU:Hid (f.ok u.wd):=nM.over u;clear hG bE hry b5 Hyo nM Tj h5l;have HyA:Hid (uV (.slice (some ⟨g,0,none⟩) n c) y):=hGu.away y Hym.Ab;have HyN:Hid (0<y.ks.n→∀ ad,y.ks.A=some ad→w.heap.size≤ad.block):=hGu.new y Hym.Ab;have HyoU:Hid (y.ok u.wd):=hGu.ok y Hym.Ab;go_wp2_with (first
        |((with_reducible refine OP 40 ?_);refine Af rfl Bz (.tmp 39) rfl g (k * 11) rfl y.cs rfl hryU ?_)
        |((with_reducible refine OS 41 ?_);refine JA (α:=Br) rfl Bz (.tmp 41) (.tmp 40) rfl rfl (k+1) rfl o9 Xl y y.cs rfl rfl (EA _) ?_;intro w9 Jv fD))
       rw [Nn Zb4] at Jv;have hG9:=hGu.set (k:=k+1) (f:=y) TW (by rw [Nn Zb4];exact Jv) fD HyoU HyA HyN.Ab;rw [Nn Zb4,U4 Hy Xl] at hG9;have b59:=b5U.grown fD (by simpa using hne);have Hfo9:Hid (f.ok w9):=⟨HfoU.ks.grown fD HfA.Ab,HfoU.ag⟩;have HG9:=Aa hG9;clear hG9 Jv fD hGu o9;go_wp2;go_roundg k;case rel=>exact ⟨k,y,rfl,Xl,by go_num,HG9.Ab,b59,Hfo9.Ab,HPK⟩
       case measure=>rw [Lt.Ab];omega
      ·have hK:Hid (k+1=BM f.Ac (cons (L.take i)) i):=by
        show _=_;rw [hP.Ab,fQ.Ab,Ak Za3]
       have d2:decide (0<r)=false:=by simp;omega
       have HR1:Hid (cons ((mid L i (k+1) f).take (i+1))=BK ((cons l).take (i+1))):=by
        exact Zq2
       have HR2:Hid (cons ((mid L i (k+1) f).drop (i+1))=(cons l).drop (i+1)):=by
        exact Zt6
       have HR3:Hid ((mid L i (k+1) f).length=n):=by show _=_;rw [YI lW Xl];exact hLn.Ab
       clear hP fQ hrange;go_wp2_with fail;refine Am ?_;repeat (first
        |((with_reducible show wpQuiet _ _ _ _ (⟨some 27,_,_,_,_,_⟩::_) _);refine Ah rfl Bz (.tmp 26) rfl g (k * 11) rfl y.cs rfl hgl hry ?_;simp only [Act.put,LP])
        |((with_reducible show wpQuiet _ _ _ _ (⟨some 28,_,_,_,_,_⟩::_) _);refine Ah rfl Bz (.tmp 5) rfl g5 (0) rfl f.cs rfl h5l Tj ?_;simp only [Act.put,LP])
        |go_big_quiet_step (((go_at_call 108;exact AB (VU HC (Hyo.over _) (nM.over _))))))
       refine CS ?_;rintro _ ⟨u,rfl⟩;have hGu:=hG.keep u.Av;have o9:=Ig bE u.Av;have b5U:=b5.Av u.Av;have HfoU:Hid (f.ok u.wd):=nM.over u;clear hG bE hry b5 Hyo nM Tj h5l;go_wp2_with (first
        |((with_reducible refine OP 44 ?_);refine Ca (by first|rfl|go_simp) Bz (.tmp 5) (by rfl) g5 (by rfl) b5U rfl ?_)
        |((with_reducible refine OS 45 ?_);refine JA (α:=Br) rfl Bz (.tmp 45) (.tmp 44) rfl rfl (k+1) rfl o9 Xl f f.cs rfl rfl (EA _) ?_;intro w9 Jv fD))
       rw [Nn Zb4] at Jv;have hG9:=(hGu).set (k:=k+1) (f:=f) TW (by rw [Nn Zb4];exact Jv) fD HfoU HfA HfN.Ab;rw [Nn Zb4] at hG9;have HG9:=Aa hG9;clear hG9 Jv fD;go_wp2;go_roundg (n - (i+1));case rel=>exact ⟨i+1,mid L i (k+1) f,rfl,Xl,Xl,by go_num,HG9.Ab,HR3,HR1,HR2⟩
       case measure=>rw [Cs.Ab];omega
   ·obtain rfl:i=n:=by omega
    have HR:Hid (cons L=BK (cons l)):=by
     show _=_;have h1:=hS.Ab;have h2:l.length=i:=hlen.Ab;rw [EU (by rw [hLn.Ab];exact Ci _),EU (by rw [AR];omega)] at h1;exact h1
    have HG:=Aa hG;clear hG hS hD;go_wp2;go_ret;exact ⟨_,L,rfl,HG.Ab,HR.Ab⟩
end Go.Proofs.YtijplolmkcdflaaGreat
namespace Go.Proofs.YtijplolmkcdflaaGreat
open Tryz
open Go.RowKit
attribute [local go_sem] Ll
theorem SH {w:World} {base base':Nat} {e:TypeId} {size n:Nat} {v:Value} {xs:List Value} (h:w.ownsRow base e size v n xs) (hb:base'≤base):w.ownsRow base' e size v n xs:=by
 exact Zu2
structure Kept (w0 w:World) (v:Value) (L:List Br):Prop where
 Av:Ai w0 w
 own:w.ownsRow w0.heap.size 97 11 v L.length (L.flatMap AY.cells)
 ok:∀ f ∈ L,f.ok w0
theorem Kept.keep {w0 w w':World} {v:Value} {L:List Br} (h:Kept w0 w v L) (hb:Ai w w'):Kept w0 w' v L:=⟨h.Av.trans hb,Ig h.own hb,h.ok⟩
theorem Kept.row {w0 w:World} {v:Value} {fs:List Br} (h:Kept w0 w v fs) (hn:fs.length≤5000):∃ x:Row Br,v=x.v∧x.ok w∧x.l=fs∧x.n=fs.length:=by
 have hcap:=lH h.own;have hr:∀ A c,v=.slice A fs.length c→Rd w 11 A fs.length (fs.flatMap AY.cells):=fun A c e=>by have:=h.own;rw [e] at this;exact Rd.BC this
 obtain ⟨A,c,rfl,hc⟩:=Ao h.own;exact ⟨⟨A,fs.length,c,fs⟩,rfl,⟨hr A c rfl,fun f hf=>AY.mono h.Av (h.ok f hf),hc,hcap A c rfl,by simp only [AY.bytes];omega⟩,rfl,rfl⟩
theorem FX (L:List Br):∀ u ∈ L.flatMap AY.cells,u.oneCell'=true:=fun u hu=>by
 obtain ⟨f,_,hf⟩:=List.mem_flatMap.1 hu;exact (Nb.1 (EA f)) u (by simpa [AY.cells] using hf)
def Ab6 (l:List Br) (w:World) (e:Ending) (w':World):Prop:=∃ v fs,e=.returned v∧Kept w w' v fs∧cons fs=BK (cons l)
theorem Zs4 {p:Prop} (h:p:=by
 clear hown Jv Lh KT Xa bI fD Xb bP xU;go_wp2;go_roundg (n - (k+1));case rel=>exact ⟨k+1,_,rfl,Xl,by go_num,HKN.Ab,HRn,HR⟩
 case measure=>rw [Cs.Ab];omega
):p:=h
theorem Zj6 {p:Prop} (h:p:=by
 go_wp2_with (first
  |((with_reducible refine OP 33 ?_);refine CL rfl (.tmp 29) (.tmp 32) _ rfl EI Wc ((Ai.refl _).alloc _) _ (0) ([]) rfl hown0 _ (j+1) _ ((L.take (j+1)).flatMap AY.cells) rfl (rdP.Av ((Ai.refl _).alloc _)) (FX _) Za4 Xl ?_;intro v7 w7 KT hB7 Xa Xb;have b57:=b5W.Av hB7)
  |((with_reducible refine OP 35 ?_);refine Ca (by first|rfl|go_simp) Bz (.tmp 5) (by rfl) g5 (by rfl) b57 rfl ?_)
  |((with_reducible refine OP 36 ?_);refine AP rfl EI (.tmp 35) rfl f.cs rfl rfl Xl ?_)
  |((with_reducible refine OP 37 ?_);refine CL rfl (.tmp 34) (.tmp 36) _ rfl EI Wc (hB7.alloc _) v7 (0+(j+1)) ([]++(L.take (j+1)).flatMap AY.cells) rfl (KT.alloc _) _ (1) _ (f.cs.toList) rfl (Ik _ _ _ 1 11 rfl) (fun u hu=>(Nb.1 (EA f)) u Zc2) Za4 Xl ?_;intro v8 w8 Lh hB8 bI bP)
  |((with_reducible refine OP 42 ?_);refine CL rfl (.tmp 38) (.tmp 41) _ rfl EI Wc hB8 v8 (0+(j+1)+1) (([]++(L.take (j+1)).flatMap AY.cells)++f.cs.toList) rfl Lh _ (k - (j+1)) _ ((L.drop (j+1)).flatMap AY.cells) rfl (rdQ.Av hB8) (FX _) Za4 Xl ?_;intro v9 w9 Jv hB9 fD xU))
 have hown:w9.ownsRow w.heap.size 97 11 v9 (L.take (j+1)++f::L.drop (j+1)).length ((L.take (j+1)++f::L.drop (j+1)).flatMap AY.cells):=by
  have h1:=SH Jv HwB.size;rw [HRn.Ab,EM,Df];have e1:0+(j+1)+1+(k - (j+1))=k+1:=by omega
  rw [e1,FC,Eg] at h1;exact h1
 have HKN:Hid (Kept w w9 v9 (L.take (j+1)++f::L.drop (j+1))):=⟨HwB.trans hB9,hown,Yx.Ab⟩;exact Zs4
):p:=h
theorem Zj8 {p:Prop} (h:p:=by
 skip;go_wp2_with (first
  |((with_reducible refine OP 33 ?_);refine CL rfl (.tmp 29) (.tmp 32) _ rfl EI Wc ((Ai.refl _).alloc _) _ (0) ([]) rfl hown0 _ (0) _ ((L.take (0)).flatMap AY.cells) rfl (rdP.Av ((Ai.refl _).alloc _)) (FX _) Za4 Xl ?_;intro v7 w7 KT hB7 Xa Xb;have b57:=b5W.Av hB7)
  |((with_reducible refine OP 35 ?_);refine Ca (by first|rfl|go_simp) Bz (.tmp 5) (by rfl) g5 (by rfl) b57 rfl ?_)
  |((with_reducible refine OP 36 ?_);refine AP rfl EI (.tmp 35) rfl f.cs rfl rfl Xl ?_)
  |((with_reducible refine OP 37 ?_);refine CL rfl (.tmp 34) (.tmp 36) _ rfl EI Wc (hB7.alloc _) v7 (0+(0)) ([]++(L.take (0)).flatMap AY.cells) rfl (KT.alloc _) _ (1) _ (f.cs.toList) rfl (Ik _ _ _ 1 11 rfl) (fun u hu=>(Nb.1 (EA f)) u Zc2) Za4 Xl ?_;intro v8 w8 Lh hB8 bI bP)
  |((with_reducible refine OP 42 ?_);refine CL rfl (.tmp 38) (.tmp 41) _ rfl EI Wc hB8 v8 (0+(0)+1) (([]++(L.take (0)).flatMap AY.cells)++f.cs.toList) rfl Lh _ (k) _ (L.flatMap AY.cells) rfl (rdQ.Av hB8) (FX _) Za4 Xl ?_;intro v9 w9 Jv hB9 fD xU))
 have hown:w9.ownsRow w.heap.size 97 11 v9 (L.take (0)++f::L.drop (0)).length ((L.take (0)++f::L.drop (0)).flatMap AY.cells):=by
  have h1:=SH Jv HwB.size;rw [HRn.Ab,EM,Df];have e1:0+(0)+1+k=k+1:=by omega
  rw [e1,FC,Eg] at h1;exact h1
 have HKN:Hid (Kept w w9 v9 (L.take (0)++f::L.drop (0))):=⟨HwB.trans hB9,hown,Yx.Ab⟩;exact Zs4
):p:=h
theorem Zu5 {p:Prop} (h:p:=by
 rcases Ec.1 ha with h|h
 ·exact hK1.ok a (Ud h)
 ·rcases FJ.1 h with rfl|h
  ·exact Hfw.Ab
  ·exact hK1.ok a (Tx h)
):p:=h
theorem gW (x:Row Br) (w:World) (hx:x.ok w) (hn:x.n≤5000):
 Calls prog 79 #[x.v] w (Ab6 x.l w):=by
 have hlen:Hid (x.l.length=x.n):=hx.len;have Hx:=Aa hx;clear hx;obtain ⟨A,n,c0,l⟩:=x;simp only [Row.v] at *;have hbs:∀ w:World,(Instr.buildSlice 54 0 #[]).run prog w=.ok (.slice (some ⟨w.heap.size,0,none⟩) 0 0) (w.alloc (.cells #[] 97)):=fun _=>by kernel_rfl
 have Hbs:=Aa hbs;clear hbs;go_enter func79,ntmps79;go_wp2;go_loopg [3,10] n (fun gg s3 i wr=>∃ (k:Nat) (L:List Br),gg=n - k∧k≤n∧i=.int .i64 k∧Kept w wr s3 L∧Hid (L.length=k)∧Hid (cons L=BK ((cons l).take k)));case atStart=>exact ⟨0,[],rfl,Xl,rfl,⟨Ai.refl _,⟨rfl,.inl ⟨rfl,rfl⟩⟩,uH⟩,rfl,rfl⟩
 case round=>
  obtain ⟨k,L,BR,hk,rfl,hK,hLn,hS⟩:=hrel;have Cs:=Aa BR;clear BR;by_cases hlt:k<n
  ·obtain ⟨b,o,f,rfl,hb,hf,hfo,_,hrf,_⟩:=(Hx.mono hK.Av).Z7 hlt;have Hf:=Aa hf;have Hfw:Hid (f.ok w):=Hx.all f (CU hf);clear hf hfo;obtain ⟨A3,c3,rfl,hc3⟩:=Ao hK.own;rw [hLn.Ab] at hc3;have hK1:=hK.keep ((Ai.refl wr).alloc (.cells f.cs 97));have b5:=Bh.new wr 97 f.cs;rw [hLn.Ab];rw [hLn.Ab] at hK1;clear hK;go_wp2_with (first
    |((with_reducible refine OP 13 ?_);refine Af rfl Bz (.tmp 12) rfl b (o+k * 11) rfl f.cs rfl hrf ?_)
    |((with_reducible refine OS 5 ?_);refine DX Bz f.cs (EA _) ?_))
   generalize wr.alloc (.cells f.cs 97)=W at *;generalize wr.heap.size=g5 at *;obtain ⟨wo,rfl⟩:∃ wo:World,wo=wr:=⟨_,rfl⟩;go_loopg [6] k (fun gg s6 wx=>∃ j:Nat,gg=j∧j≤k∧s6=.int .i64 j∧Ai W wx∧Hid (BM f.Ac (cons L) k=BM f.Ac (cons L) j));case atStart=>exact ⟨k,rfl,Xl,rfl,Ai.refl _,rfl⟩
   case round=>
    obtain ⟨j0,hgj,hj,rfl,hB,hP⟩:=hrel;have Lt:=Aa hgj;clear hgj;have hK2:=hK1.keep hB;have b5x:=b5.Av hB;cases j0 with
    |zero=>
     have hPos:Hid (0=BM f.Ac (cons L) k):=by show _=_;rw [hP.Ab];(try rfl)
     clear hP;have d0:decide ((0:Int)<0)=false:=rfl;go_wp2_with fail;go_quiet (fail);obtain ⟨Wc,hWc⟩:∃ Wc:World,Wc=wr.drewN nq:=⟨_,rfl⟩;have HBc:Hid (Ai W Wc):=by rw [hWc];exact hB.drewN _
     rw [←hWc];clear hWc;have HR:Hid (cons (L.take (0)++f::L.drop (0))=BK ((cons l).take (k+1))):=by
      show _=_;have h2:(cons l)[k]?=some f.Ac:=Jd Hf.Ab;have h3:(cons l).take (k+1)=(cons l).take k++[f.Ac]:=by rw [Ra,h2];(try rfl)
      rw [h3];refine Eq.trans ?_ (Qb _ _).symm;rw [←hS.Ab];unfold JF;rw [AR,hLn.Ab,←hPos.Ab,dB];have e1:cons (L.take (0))=(cons L).take (0):=PH _ _;have e2:cons (f::L.drop (0))=f.Ac::(cons L).drop (0):=by rw [←Me];(try rfl)
      rw [e1,e2]
     have HRn:Hid ((L.take (0)++f::L.drop (0)).length=k+1):=by show _=_;rw [Cn,Eo,FK,Ih,hLn.Ab];omega
     have Yx:Hid (∀ a ∈ L.take (0)++f::L.drop (0),a.ok w):=fun a ha=>by
      exact Zu5
     have hKW:=hK1.keep HBc.Ab;have b5W:=b5.Av HBc.Ab;have rd0:Rd (Wc) 11 A3 k (L.flatMap AY.cells):=by have:=hKW.own;rw [hLn.Ab] at this;exact Rd.BC this
     have rdP:Rd (Wc) 11 A3 (0) ((L.take (0)).flatMap AY.cells):=by have:=rd0.take (k:=0) Xl;rwa [show (0) * 11=(0) * AY.size Br from rfl,Xd] at this
     have rdQ:=rd0;have hown0:((Wc).alloc (.cells #[] 97)).ownsRow (Wc).heap.size 97 11 (.slice (some ⟨(Wc).heap.size,0,none⟩) 0 0) 0 []:=⟨rfl,.inr ⟨(Wc).heap.size,0,#[],rfl,Ci _,PW _ _,Ci _,Bj _,rfl,rfl⟩⟩;have HwB:Hid (Ai w (Wc)):=hKW.Av;clear hKW hS;have hbs:=Hbs.Ab;by_cases hcp:c3=0
     ·exact Zj8
     ·exact Zj8
    |succ j=>
     obtain ⟨y,Hy⟩:∃ y,Hid (L[j]?=some y):=⟨L[j]'(by have:=hLn.Ab;omega),by show _=_;exact Fp _⟩;obtain ⟨gA,rfl⟩:∃ gA,A3=some ⟨gA,0,none⟩:=by
      rcases hK2.own.2 with ⟨_,h0⟩|⟨g',cap,cur,hv,_⟩
      ·have:=hLn.Ab;omega
      ·injection hv with h1;exact ⟨g',h1⟩
     have Aq8:wr.ownsRow w.heap.size 97 11 (.slice (some ⟨gA,0,none⟩) k c3) k (L.flatMap AY.cells):=by have:=hK2.own;rw [hLn.Ab] at this;exact this
     obtain ⟨hry0,hgl⟩:=Gy (α:=Br) Aq8 Hy.Ab;have hry:wr.rangeAt gA (j * 11) y.cs.toList:=hry0;have Tj:=b5x.range;have h5l:=b5x.lt;have Hyo:Hid (y.ok wr):=⟨(hK2.ok y (CU Hy.Ab)).ks.mono hK2.Av,(hK2.ok y (CU Hy.Ab)).ag⟩;have HfoX:Hid (f.ok wr):=⟨Hfw.ks.mono hK2.Av,Hfw.ag⟩;have fQ:Hid (BM f.Ac (cons L) (j+1)=if Fh f.ks.l y.ks.l=true then BM f.Ac (cons L) j else j+1):=by
      show _=_;rw [BM,Jd Hy.Ab]
      rfl
     clear Aq8 hry0;have d1:decide (0<((j:Int)+1))=true:=by rw [Rb];omega
     have w1:IntKind.i64.wrap ((j:Int)+1 - 1)=(j:Int):=by rw [show (j:Int)+1 - 1=j by omega];exact IB _ Xl
     cases hL:Fh f.ks.l y.ks.l with
     |true=>
      have HL:=Aa hL;have HPK:Hid (BM f.Ac (cons L) k=BM f.Ac (cons L) j):=by show _=_;rw [hP.Ab,fQ.Ab,Al hL]
      clear hL hP fQ;go_wp2_with fail;refine Am ?_;repeat (first
       |((with_reducible show wpQuiet _ _ _ _ (⟨some 19,_,_,_,_,_⟩::_) _);refine Ah rfl Bz (.tmp 5) rfl g5 (0) rfl f.cs rfl h5l Tj ?_;simp only [Act.put,LP])
       |((with_reducible show wpQuiet _ _ _ _ (⟨some 24,_,_,_,_,_⟩::_) _);refine Ah rfl Bz (.tmp 23) rfl gA (j * 11) rfl y.cs rfl hgl hry ?_;simp only [Act.put,LP])
       |go_big_quiet_step (((go_at_call 39;exact AB (NW HL (HfoX.over _) (Hyo.over _))))))
      refine CS ?_;rintro _ ⟨u,rfl⟩;clear hry Tj h5l hgl;go_wp2;go_roundg j;case rel=>exact ⟨j,rfl,Xl,by go_num,hB.trans u.Av,HPK⟩
      case measure=>rw [Lt.Ab];omega
     |false=>
      have HL:=Aa hL;have hPos:Hid (j+1=BM f.Ac (cons L) k):=by show _=_;rw [hP.Ab,fQ.Ab,Ak (by rw [hL];simp)]
      clear hL hP fQ;go_wp2_with fail;refine Am ?_;repeat (first
       |((with_reducible show wpQuiet _ _ _ _ (⟨some 19,_,_,_,_,_⟩::_) _);refine Ah rfl Bz (.tmp 5) rfl g5 (0) rfl f.cs rfl h5l Tj ?_;simp only [Act.put,LP])
       |((with_reducible show wpQuiet _ _ _ _ (⟨some 24,_,_,_,_,_⟩::_) _);refine Ah rfl Bz (.tmp 23) rfl gA (j * 11) rfl y.cs rfl hgl hry ?_;simp only [Act.put,LP])
       |go_big_quiet_step (((go_at_call 39;exact AB (NW HL (HfoX.over _) (Hyo.over _))))))
      refine CS ?_;rintro _ ⟨u,rfl⟩;clear hry Tj h5l hgl hK2 b5x;have HBc:Hid (Ai W u.wd):=hB.trans u.Av;generalize u.wd=Wc at *;obtain ⟨A3,HA3⟩:∃ A3:Option Addr,Hid (some ⟨gA,0,none⟩=A3):=⟨_,rfl⟩;rw [HA3.Ab] at hK1 ⊢;have HR:Hid (cons (L.take (j+1)++f::L.drop (j+1))=BK ((cons l).take (k+1))):=by
       show _=_;have h2:(cons l)[k]?=some f.Ac:=Jd Hf.Ab;have h3:(cons l).take (k+1)=(cons l).take k++[f.Ac]:=by rw [Ra,h2];(try rfl)
       rw [h3];refine Eq.trans ?_ (Qb _ _).symm;rw [←hS.Ab];unfold JF;rw [AR,hLn.Ab,←hPos.Ab,dB];have e1:cons (L.take (j+1))=(cons L).take (j+1):=PH _ _;have e2:cons (f::L.drop (j+1))=f.Ac::(cons L).drop (j+1):=by rw [←Me];(try rfl)
       rw [e1,e2]
      have HRn:Hid ((L.take (j+1)++f::L.drop (j+1)).length=k+1):=by show _=_;rw [Cn,Eo,FK,Ih,hLn.Ab];omega
      have Yx:Hid (∀ a ∈ L.take (j+1)++f::L.drop (j+1),a.ok w):=fun a ha=>by
       exact Zu5
      have hKW:=hK1.keep HBc.Ab;have b5W:=b5.Av HBc.Ab;have rd0:Rd (Wc) 11 A3 k (L.flatMap AY.cells):=by have:=hKW.own;rw [hLn.Ab] at this;exact Rd.BC this
      have rdP:Rd (Wc) 11 A3 (j+1) ((L.take (j+1)).flatMap AY.cells):=by have:=rd0.take (k:=j+1) Xl;rwa [show (j+1) * 11=(j+1) * AY.size Br from rfl,Xd] at this
      have rdQ:=rd0.drop (k:=j+1) (cap:=c3) Xl hc3;rw [show (j+1) * 11=(j+1) * AY.size Br from rfl,jH] at rdQ;have hown0:((Wc).alloc (.cells #[] 97)).ownsRow (Wc).heap.size 97 11 (.slice (some ⟨(Wc).heap.size,0,none⟩) 0 0) 0 []:=⟨rfl,.inr ⟨(Wc).heap.size,0,#[],rfl,Ci _,PW _ _,Ci _,Bj _,rfl,rfl⟩⟩;have HwB:Hid (Ai w (Wc)):=hKW.Av;clear hKW rd0 hS;have hbs:=Hbs.Ab;by_cases hcp:c3=j+1
      ·rw [Al hcp] at rdQ;exact Zj6
      ·rw [Ak hcp] at rdQ;exact Zj6
  ·obtain rfl:k=n:=by omega
   have HR:Hid (cons L=BK (cons l)):=by
    show _=_;rw [hS.Ab,EU (by rw [AR];have h2:l.length=k:=hlen.Ab;omega)]
   have HK:=Aa hK;clear hK hS;go_wp2;go_ret;exact ⟨_,L,rfl,HK.Ab,HR.Ab⟩
end Go.Proofs.YtijplolmkcdflaaGreat
namespace Go.Proofs.YtijplolmkcdflaaGreat
open Tryz
open Go.RowKit Go.Shelf
attribute [local go_sem] Oper.semAt_some
def piece (b o m:Nat) (l:List Br) (k:Nat):Row Br:=⟨some ⟨b,o+k * m * 11,none⟩,min m (l.length - k * m),min m (l.length - k * m),(l.drop (k * m)).take m⟩
def upto {α:Type} (f:Nat→α) (k:Nat):List α:=(List.range k).map f
theorem Sr {α:Type} (f:Nat→α) (k:Nat):upto f (k+1)=upto f k++[f k]:=by simp [upto,List.range_succ]
theorem KJ {α:Type} (f:Nat→α) (k:Nat):(upto f k).length=k:=by simp [upto]
def LK (Bs Bn:Nat) (W W':World):Prop:=W'.cell? ⟨Bs,0,none⟩=W.cell? ⟨Bs,0,none⟩∧W'.cell? ⟨Bn,0,none⟩=W.cell? ⟨Bn,0,none⟩
theorem LK.trans {Bs Bn:Nat} {A B C:World} (h:LK Bs Bn A B) (k:LK Bs Bn B C):LK Bs Bn A C:=⟨k.1.trans h.1,k.2.trans h.2⟩
theorem XU (w:World) (n:Nat):w.grownBy (w.drewN n) none:=⟨rfl,rfl,rfl,Ci _,fun _ _ _=>rfl⟩
theorem Zr9 {p:Prop} (h:p:=by
 go_roundw;case rel=>exact ⟨k+1,.inr (by rw [show k+1 - 1=k by omega,HI.Ab];exact hlt),Xl,by rw [Him.Ab];go_num,hJ4,hnx2.trans hk3⟩
 case measure=>simp [intOf];omega
):p:=h
theorem Aa5 (n:Nat) (hn:1≤n) (lp Bs Bn b o c m:Nat) (l:List Br) (hm1:1≤m) (hm2:m≤9223372036854775807) (hl:l.length≤5000) (hc:l.length≤c) (hc2:c≤9223372036854775807) (Pd:Row Br→Prop) (hP:∀ k,Pd (piece b o m l k)) (J Jx:List {x:Row Br // Pd x}→World→Prop) (hJd:∀ s A B,J s A→A.grownBy B none→J s B)
 (hY:∀ pre (x:{x:Row Br // Pd x}) W,J pre W→pre.length<l.length→YieldAt Fence.wide (n - 1) prog lp #[x.1.v] W fun e W'=>
  (e=.returned (.bool true)∧J (pre++[x]) W'∧LK Bs Bn W W')∨(e=.returned (.bool false)∧Jx (pre++[x]) W'))
 (W:World) (hBs:W.cell? ⟨Bs,0,none⟩=some (.slice (some ⟨b,o,none⟩) l.length c)) (hBn:W.cell? ⟨Bn,0,none⟩=some (.int .i64 m)) (h0:J [] W):
 CallsIn Fence.wide n prog 198 #[.func (.yield lp) #[] #[],.pointer (some ⟨Bs,0,none⟩),.pointer (some ⟨Bn,0,none⟩)] W fun e W'=>(∃ v,e=.returned v)∧
  ((∃ k ys,l.length≤k * m∧(k=0∨(k - 1) * m<l.length)∧ys=upto (fun j=>(⟨piece b o m l j,hP j⟩:{x:Row Br // Pd x})) k∧J ys W')∨(∃ pre,Jx pre W')):=by
 have hlen:Hid (∃ n1,n1=l.length):=⟨_,rfl⟩;refine YU func198 rfl trivial ?_ rfl;simp only [ntmps198,Tv,Eo,Ot,Nat.reduceAdd,Nat.reduceSub,TB,TD,Tu,Tz,FC,KZ]
 gi_wp2
 gi_loopw [4] (fun i wr=>∃ k:Nat,(k=0∨(k - 1) * m<l.length)∧k≤l.length∧i=.int .i64 (k * m:Nat)∧J (upto (fun j=>(⟨piece b o m l j,hP j⟩:{x:Row Br // Pd x})) k) wr∧LK Bs Bn W wr)
  (fun i _=>l.length - (intOf i).toNat)
 case atStart=>exact ⟨0,.inl rfl,Bj _,uH,h0,⟨rfl,rfl⟩⟩
 case round=>
  obtain ⟨k,hk,hkl,rfl,hJs,hnx⟩:=hrel;have c1:=hnx.1.trans hBs;have c2:=hnx.2.trans hBn;generalize hi:k * m=i at *;by_cases hlt:i<l.length
  ·obtain ⟨e,he⟩:∃ e,e=min m (l.length - i):=⟨_,rfl⟩;have he1:1≤e:=by omega
   have he2:i+e≤l.length:=by omega
   have hi0:(0:Int)≤(i:Int):=by omega
   have hi1:(i:Int)≤(l.length:Int):=by omega
   have hmin:min (m:Int) ((l.length - i:Nat):Int)=(e:Int):=by omega
   have HE:=Aa he;have HI:=Aa hi;clear he hi
   gi_wp2_with fail
   gi_quiet (fail)
   have HX:Hid (piece b o m l k=⟨some ⟨b,o+i * 11,none⟩,e,e,(l.drop i).take m⟩):=by show _=_;unfold piece;rw [HI.Ab,←HE.Ab]
   have hJ2:J (upto (fun j=>(⟨piece b o m l j,hP j⟩:{x:Row Br // Pd x})) k) (wr.drewN nq):=hJd _ _ _ hJs (XU wr nq);have hnx2:LK Bs Bn W (wr.drewN nq):=hnx;have c12:(wr.drewN nq).cell? ⟨Bs,0,none⟩=some (.slice (some ⟨b,o,none⟩) l.length c):=c1;have c22:(wr.drewN nq).cell? ⟨Bn,0,none⟩=some (.int .i64 m):=c2;have hkl2:k<l.length:=by have h1:=HI.Ab;have:k≤k * m:=Nat.le_mul_of_pos_right _ hm1;omega
   generalize wr.drewN nq=V at *;obtain ⟨fn,tmps,assign,body,hy,hR⟩:=hY _ ⟨(⟨some ⟨b,o+i * 11,none⟩,e,e,(l.drop i).take m⟩:Row Br),by rw [←HX.Ab];exact hP k⟩ V hJ2 (by rw [KJ];exact hkl2);simp only [Row.v] at hy;clear c1 c2 hJs hnx hmin
   gi_wp2
   refine hR.mono ?_;rintro e' W3 (⟨rfl,hJ3,hk3⟩|⟨rfl,hJx3⟩)
   ·have c13:=hk3.1.trans c12;have c23:=hk3.2.trans c22;have him:i+m≤9223372036854775807:=by
     have h1:=HI.Ab;cases k with
     |zero=>simp at h1;omega
     |succ k=>have:m≤(k+1) * m:=Nat.le_mul_of_pos_left _ Xl;omega
    have Him:Hid ((k+1) * m=i+m):=by show _=_;rw [Ka,HI.Ab,MP]
    have hJ4:J (upto (fun j=>(⟨piece b o m l j,hP j⟩:{x:Row Br // Pd x})) (k+1)) W3:=by
     rw [Sr];have e1:(⟨piece b o m l k,hP k⟩:{x:Row Br // Pd x})=⟨(⟨some ⟨b,o+i * 11,none⟩,e,e,(l.drop i).take m⟩:Row Br),by rw [←HX.Ab];exact hP k⟩:=Subtype.ext HX.Ab;rw [e1];exact hJ3
    clear hJ3
    gi_wp2
    exact Zr9
   ·gi_wp2
    refine Bc (results_none rfl _ _ _) rfl ?_;exact ⟨⟨_,rfl⟩,.inr ⟨_,hJx3⟩⟩
  ·gi_wp2
   go_end0;exact ⟨⟨_,rfl⟩,.inl ⟨k,_,by rw [hi];omega,hk,rfl,hJs⟩⟩
theorem fH (n:Nat) (lp Bs Bn:Nat) {α:Type} (J:List α→World→Prop) (A:Option Addr) (c:Nat) (W:World) (hBs:W.cell? ⟨Bs,0,none⟩=some (.slice A 0 c)) (h0:J [] W):
 CallsIn Fence.wide n prog 198 #[.func (.yield lp) #[] #[],.pointer (some ⟨Bs,0,none⟩),.pointer (some ⟨Bn,0,none⟩)] W fun e W'=>(∃ v,e=.returned v)∧J [] W':=by
 refine YU func198 rfl trivial ?_ rfl;simp only [ntmps198,Tv,Eo,Ot,Nat.reduceAdd,Nat.reduceSub,TB,TD,Tu,Tz,FC,KZ]
 gi_wp2
 gi_loopw [4] (fun i wr=>i=.int .i64 0∧wr=W) (fun _ _=>0)
 case atStart=>exact ⟨rfl,rfl⟩
 case round=>
  obtain ⟨rfl,rfl⟩:=hrel
  gi_wp2
  go_end0;exact ⟨⟨_,rfl⟩,h0⟩
theorem tK (n:Nat) (A:Option Addr) (len c m:Nat) (hm:1≤m) (w:World):
 CallsIn Fence.wide n prog 181 #[.slice A len c,.int .i64 m] w fun e w'=>e=.returned (.func (.func 198) #[] #[.pointer (some ⟨w.heap.size,0,none⟩),.pointer (some ⟨w.heap.size+1,0,none⟩)])∧w'=(w.alloc (.cells #[.slice A len c] 54)).alloc (.cells #[.int .i64 m] 3):=by
 have d:decide ((m:Int)<1)=false:=by simp;omega
 refine YU func181 rfl trivial ?_ rfl;simp only [ntmps181,Tv,Eo,Ot,Nat.reduceAdd,Nat.reduceSub,TB,TD,Tu,Tz,FC,KZ]
 gi_wp2
 go_ret;exact ⟨rfl,rfl⟩
end Go.Proofs.YtijplolmkcdflaaGreat
namespace Go.Proofs.YtijplolmkcdflaaGreat
open Tryz
open Go.RowKit Go.Shelf
attribute [local go_sem] Oper.semAt_some
def KE (b o m:Nat) (l:List (Row Br)) (k:Nat):Row (Row Br):=⟨some ⟨b,o+k * m,none⟩,min m (l.length - k * m),min m (l.length - k * m),(l.drop (k * m)).take m⟩
theorem yP (n:Nat) (hn:1≤n) (lp Bs Bn b o c m:Nat) (l:List (Row Br)) (hm1:1≤m) (hm2:m≤9223372036854775807) (hl:l.length≤5000) (hc:l.length≤c) (hc2:c≤9223372036854775807) (Pd:Row (Row Br)→Prop) (hP:∀ k,Pd (KE b o m l k)) (J Jx:List {x:Row (Row Br) // Pd x}→World→Prop) (hJd:∀ s A B,J s A→A.grownBy B none→J s B)
 (hY:∀ pre (x:{x:Row (Row Br) // Pd x}) W,J pre W→pre.length<l.length→YieldAt Fence.wide (n - 1) prog lp #[x.1.v] W fun e W'=>
  (e=.returned (.bool true)∧J (pre++[x]) W'∧LK Bs Bn W W')∨(e=.returned (.bool false)∧Jx (pre++[x]) W'))
 (W:World) (hBs:W.cell? ⟨Bs,0,none⟩=some (.slice (some ⟨b,o,none⟩) l.length c)) (hBn:W.cell? ⟨Bn,0,none⟩=some (.int .i64 m)) (h0:J [] W):
 CallsIn Fence.wide n prog 182 #[.func (.yield lp) #[] #[],.pointer (some ⟨Bs,0,none⟩),.pointer (some ⟨Bn,0,none⟩)] W fun e W'=>(∃ v,e=.returned v)∧
  ((∃ k ys,l.length≤k * m∧(k=0∨(k - 1) * m<l.length)∧ys=upto (fun j=>(⟨KE b o m l j,hP j⟩:{x:Row (Row Br) // Pd x})) k∧J ys W')∨(∃ pre,Jx pre W')):=by
 have hlen:Hid (∃ n1,n1=l.length):=⟨_,rfl⟩;refine YU func182 rfl trivial ?_ rfl;simp only [ntmps182,Tv,Eo,Ot,Nat.reduceAdd,Nat.reduceSub,TB,TD,Tu,Tz,FC,KZ]
 gi_wp2
 gi_loopw [4] (fun i wr=>∃ k:Nat,(k=0∨(k - 1) * m<l.length)∧k≤l.length∧i=.int .i64 (k * m:Nat)∧J (upto (fun j=>(⟨KE b o m l j,hP j⟩:{x:Row (Row Br) // Pd x})) k) wr∧LK Bs Bn W wr)
  (fun i _=>l.length - (intOf i).toNat)
 case atStart=>exact ⟨0,.inl rfl,Bj _,uH,h0,⟨rfl,rfl⟩⟩
 case round=>
  obtain ⟨k,hk,hkl,rfl,hJs,hnx⟩:=hrel;have c1:=hnx.1.trans hBs;have c2:=hnx.2.trans hBn;generalize hi:k * m=i at *;by_cases hlt:i<l.length
  ·obtain ⟨e,he⟩:∃ e,e=min m (l.length - i):=⟨_,rfl⟩;have he1:1≤e:=by omega
   have he2:i+e≤l.length:=by omega
   have hi0:(0:Int)≤(i:Int):=by omega
   have hi1:(i:Int)≤(l.length:Int):=by omega
   have hmin:min (m:Int) ((l.length - i:Nat):Int)=(e:Int):=by omega
   have HE:=Aa he;have HI:=Aa hi;clear he hi
   gi_wp2_with fail
   gi_quiet (fail)
   have HX:Hid (KE b o m l k=⟨some ⟨b,o+i,none⟩,e,e,(l.drop i).take m⟩):=by show _=_;unfold KE;rw [HI.Ab,←HE.Ab]
   have hJ2:J (upto (fun j=>(⟨KE b o m l j,hP j⟩:{x:Row (Row Br) // Pd x})) k) (wr.drewN nq):=hJd _ _ _ hJs (XU wr nq);have hnx2:LK Bs Bn W (wr.drewN nq):=hnx;have c12:(wr.drewN nq).cell? ⟨Bs,0,none⟩=some (.slice (some ⟨b,o,none⟩) l.length c):=c1;have c22:(wr.drewN nq).cell? ⟨Bn,0,none⟩=some (.int .i64 m):=c2;have hkl2:k<l.length:=by have h1:=HI.Ab;have:k≤k * m:=Nat.le_mul_of_pos_right _ hm1;omega
   generalize wr.drewN nq=V at *;obtain ⟨fn,tmps,assign,body,hy,hR⟩:=hY _ ⟨(⟨some ⟨b,o+i,none⟩,e,e,(l.drop i).take m⟩:Row (Row Br)),by rw [←HX.Ab];exact hP k⟩ V hJ2 (by rw [KJ];exact hkl2);simp only [Row.v] at hy;clear c1 c2 hJs hnx hmin
   gi_wp2
   refine hR.mono ?_;rintro e' W3 (⟨rfl,hJ3,hk3⟩|⟨rfl,hJx3⟩)
   ·have c13:=hk3.1.trans c12;have c23:=hk3.2.trans c22;have him:i+m≤9223372036854775807:=by
     have h1:=HI.Ab;cases k with
     |zero=>simp at h1;omega
     |succ k=>have:m≤(k+1) * m:=Nat.le_mul_of_pos_left _ Xl;omega
    have Him:Hid ((k+1) * m=i+m):=by show _=_;rw [Ka,HI.Ab,MP]
    have hJ4:J (upto (fun j=>(⟨KE b o m l j,hP j⟩:{x:Row (Row Br) // Pd x})) (k+1)) W3:=by
     rw [Sr];have e1:(⟨KE b o m l k,hP k⟩:{x:Row (Row Br) // Pd x})=⟨(⟨some ⟨b,o+i,none⟩,e,e,(l.drop i).take m⟩:Row (Row Br)),by rw [←HX.Ab];exact hP k⟩:=Subtype.ext HX.Ab;rw [e1];exact hJ3
    clear hJ3
    gi_wp2
    exact Zr9
   ·gi_wp2
    refine Bc (results_none rfl _ _ _) rfl ?_;exact ⟨⟨_,rfl⟩,.inr ⟨_,hJx3⟩⟩
  ·gi_wp2
   go_end0;exact ⟨⟨_,rfl⟩,.inl ⟨k,_,by rw [hi];omega,hk,rfl,hJs⟩⟩
theorem Aa4 (n:Nat) (A:Option Addr) (len c m:Nat) (hm:1≤m) (w:World):
 CallsIn Fence.wide n prog 151 #[.slice A len c,.int .i64 m] w fun e w'=>e=.returned (.func (.func 182) #[] #[.pointer (some ⟨w.heap.size,0,none⟩),.pointer (some ⟨w.heap.size+1,0,none⟩)])∧w'=(w.alloc (.cells #[.slice A len c] 184)).alloc (.cells #[.int .i64 m] 3):=by
 have d:decide ((m:Int)<1)=false:=by simp;omega
 refine YU func151 rfl trivial ?_ rfl;simp only [ntmps151,Tv,Eo,Ot,Nat.reduceAdd,Nat.reduceSub,TB,TD,Tu,Tz,FC,KZ]
 gi_wp2
 go_ret;exact ⟨rfl,rfl⟩
end Go.Proofs.YtijplolmkcdflaaGreat
namespace Go.Proofs.YtijplolmkcdflaaGreat
open Tryz
open Go.RowKit Go.Shelf
attribute [local go_sem] Oper.semAt_some
theorem WW:(prog.info? 54).map (fun i=>(i.zero,i.size,i.bytes))=some (some (.slice none 0 0),1,24):=by kernel_rfl
theorem pY {w:World} {b o n c m:Nat} {l:List Br} (h:Row.ok w (⟨some ⟨b,o,none⟩,n,c,l⟩:Row Br)) (hn:n≤5000) (k:Nat):Row.ok w (piece b o m l k)∧(piece b o m l k).n≤5000:=by
 have hl:l.length=n:=h.len;have hlen:((l.drop (k * m)).take m).length=min m (l.length - k * m):=by rw [FK,Ih]
 refine ⟨⟨⟨?_,fun h0=>?_⟩,fun a ha=>h.all a (Tx (Ud ha)),Ci _,?_,?_⟩,?_⟩
 ·rw [Fu];exact CW (· * 11) hlen
 ·have h1:k * m<l.length:=by simp only [piece] at h0;omega
  obtain ⟨ad,e,hb,hc⟩:=h.rd.2 Ze0;injection e with e;subst e;refine ⟨_,rfl,hb,fun j u hu=>?_⟩;have hj:j<((l.drop (k * m)).take m).length * 11:=by
   rcases MX j (((l.drop (k * m)).take m).length * 11) with h'|h'
   ·exact h'
   ·rw [Jj (by rw [Fu];exact h')] at hu;cases hu
  have hq:(l.flatMap AY.cells)[k * m * 11+j]?=some u:=by
   rw [←hu];have e1:(piece b o m l k).l.flatMap AY.cells=((l.flatMap AY.cells).drop (k * m * 11)).take (m * 11):=by
    show ((l.drop (k * m)).take m).flatMap AY.cells=_;rw [show k * m * 11=k * m * AY.size Br from rfl,jH,show m * 11=m * AY.size Br from rfl,Xd]
   rw [e1,Jk (by rw [hlen] at hj;have:min m (l.length - k * m) * 11≤m * 11:=QF _ (Nat.min_le_left _ _);omega),NJ]
  have:=hc _ _ hq;rw [Ub] at this ⊢;rw [QZ];exact this
 ·simp only [piece];unfold maxLen;omega
 ·simp only [piece,AY.bytes];omega
 ·simp only [piece];omega
structure Ck (w w':World):Prop where
 size:w.heap.size≤w'.heap.size
 cell:∀ p v,w.cell? p=some v→w'.cell? p=some v
theorem Rd.ck {w w':World} {size n:Nat} {A:Option Addr} {xs:List Value} (h:Rd w size A n xs) (hk:Ck w w'):Rd w' size A n xs:=
 ⟨h.1,fun hn=>by obtain ⟨ad,e,hb,hc⟩:=h.2 hn;exact ⟨ad,e,KI hb hk.size,fun j u hu=>hk.cell _ _ (hc j u hu)⟩⟩
theorem An7 {w w':World} {x:Row Int} (h:x.ok w) (hk:Ck w w'):x.ok w':=⟨h.rd.ck hk,h.all,h.le,h.cap,h.reach⟩
theorem Aj1 {w w':World} {f:Br} (h:f.ok w) (hk:Ck w w'):f.ok w':=⟨An7 h.ks hk,h.ag⟩
theorem Ao2 {w w':World} {x:Row Br} (h:x.ok w) (hk:Ck w w'):x.ok w':=⟨h.rd.ck hk,fun f hf=>Aj1 (h.all f hf) hk,h.le,h.cap,h.reach⟩
structure Xn (row:Option Nat) (r:Row Br):Prop where
 a:0<r.n→∀ ad,r.A=some ad→row≠some ad.block
 k:∀ f ∈ r.l,0<f.ks.n→∀ ad,f.ks.A=some ad→row≠some ad.block
theorem Qp {w w':World} {row:Option Nat} {x:Row Br} (h:x.ok w) (hg:w.grownBy w' row) (ho:Xn row x):x.ok w':=by
 refine ⟨⟨h.rd.1,fun hn=>?_⟩,fun f hf=>⟨(h.all f hf).ks.grown hg (ho.k f hf),(h.all f hf).ag⟩,h.le,h.cap,h.reach⟩;obtain ⟨ad,e,hb,hc⟩:=h.rd.2 hn;refine ⟨ad,e,KI hb hg.size,fun j u hu=>?_⟩;rw [←hc j u hu];refine Vl ?_;rw [IV];exact hg.block _ hb (fun e'=>ho.a hn ad e e'.symm)
theorem An3 {w:World} {x:Row Br} (h:x.ok w):Xn (some w.heap.size) x:=by
 refine ⟨fun hn ad e e2=>?_,fun f hf hn ad e e2=>?_⟩
 ·obtain ⟨ad',e',hb,_⟩:=h.rd.2 hn;rw [e] at e';injection e' with e';subst e';injection e2 with e2;omega
 ·obtain ⟨ad',e',hb,_⟩:=(h.all f hf).ks.rd.2 hn;rw [e] at e';injection e' with e';subst e';injection e2 with e2;omega
theorem aL {w0 w:World} {v:Value} {fs:List Br} (h:Kw w0 w v fs) {x:Row Br} (hv:v=x.v) (hl:x.l=fs) {b:Nat} (hb:b<w0.heap.size):Xn (some b) x:=by
 refine ⟨fun hn ad e e2=>?_,fun f hf hn ad e e2=>?_⟩
 ·have h1:v.ownBlock=some ad.block:=by rw [hv];simp [Row.v,e,Value.ownBlock]
  have:=Jh h.own h1;injection e2 with e2;omega
 ·rw [hl] at hf;have:=h.new f hf hn ad e;injection e2 with e2;omega
structure Parts (w0 w:World) (B:Nat) (v:Value) (rs:List (Row Br)):Prop where
 box:Boxed w B 184 v
 own:w.ownsRow w0.heap.size 54 1 v rs.length (rs.map Row.v)
 ok:∀ r ∈ rs,r.ok w
 offV:∀ r ∈ rs,Xn v.ownBlock r
 offB:∀ r ∈ rs,Xn (some B) r
theorem Parts.kept {w0 w w':World} {B:Nat} {v:Value} {rs:List (Row Br)} (h:Parts w0 w B v rs) {row:Option Nat} (hg:w.grownBy w' row) (hr:∀ r,row=some r→∃ o:Obj,w.heap[r]?=some o∧o.isCells=false):Parts w0 w' B v rs:=by
 have hck:Ck w w':=⟨hg.size,fun p u hp=>cell_kept hp hg hr⟩;refine ⟨h.box.kept hg (fun e=>?_),h.own.kept hg ?_,fun r hr'=>Ao2 (h.ok r hr') hck,h.offV,h.offB⟩
 ·obtain ⟨o,ho,hc⟩:=hr B e.symm;have hb:=h.box;unfold Boxed at hb;rw [hb] at ho;injection ho with ho;subst ho;cases hc
 ·cases hu:v.ownBlock with
  |none=>exact .inl rfl
  |some k=>
   refine .inr fun e=>?_;obtain ⟨o,ho,hc⟩:=hr k e.symm;obtain ⟨cs,hcs⟩:=YH h.own hu;unfold Bh at hcs;rw [hcs] at ho;injection ho with ho;subst ho;cases hc
theorem Parts.keep {w0 w w':World} {B:Nat} {v:Value} {rs:List (Row Br)} (h:Parts w0 w B v rs) (hb:Ai w w'):Parts w0 w' B v rs:=
 h.kept (EL hb none) (fun _ e=>by cases e)
theorem NZ {w0 w:World} {v:Value} {fs:List Br} (h:Kw w0 w v fs) (hn:fs.length≤5000):∃ x:Row Br,v=x.v∧x.ok w∧x.l=fs∧x.n=fs.length:=by
 have hcap:=lH h.own;have hr:∀ A c,v=.slice A fs.length c→Rd w 11 A fs.length (fs.flatMap AY.cells):=fun A c e=>by have:=h.own;rw [e] at this;exact Rd.BC this
 obtain ⟨A,c,rfl,hc⟩:=Ao h.own;exact ⟨⟨A,fs.length,c,fs⟩,rfl,⟨hr A c rfl,h.ok,hc,hcap A c rfl,by simp only [AY.bytes];omega⟩,rfl,rfl⟩
theorem FT {F:Fence} {nF:Nat} {P:Program} {w w':World} {ops:Array Oper} {o:Oper} {a:Act} {K:Act→World→Prop} {Q:Exit→Act→World→Prop} {X:Prop} (hgd:o.guard=none) (s x:Operand) (t:TypeId)
 (ho:o.op=.call { callee:=.builtin .append,args:=#[s,x],argTypes:=#[t,t] }) (v y:Value) {v':Value} (hs:a.eval s=v) (hx:a.eval x=y) (hrun:(Builtin.append_ #[t,t] o.type #[v,y]).run P w=.ok v' w') (h:K (a.put o.dst v') w'):
 if Region.wanted o (yielded ops a.tmps)=true then Oper.wpIn F nF P o a w K Q else X:=by
 have hw:Region.wanted o (yielded ops a.tmps)=true:=by simp [Region.wanted,hgd]
 rw [Al hw];unfold Oper.wpIn;refine ⟨by simp [Oper.about,ho,resolve,Target.leads,LB],?_⟩;rw [Oper.semAt_plain F _ _ (by rw [ho];intro c hc';cases hc')];simp [execOp,ho,resolve,invoke,builtin,hs,hx,hrun,Result.andThen];exact h
theorem KU {w W0 W w2 w4:World} {B Bs Bn:Nat} {v v':Value} {rs:List (Row Br)} {fs:List Br} {yA:Option Addr} {yn yc:Nat} {yl:List Br} (hne1:Bs<W0.heap.size) (hne2:Bn<W0.heap.size) (hBB:B≠Bs∧B≠Bn∧B=w.heap.size∧B<W0.heap.size)
 (hP:Parts W0 W B v rs) (hW0:W0.heap.size≤W.heap.size) (hB:Ai w W) (Sa:Kw W.drew w2 (Row.v (⟨yA,yn,yc,yl⟩:Row Br)) fs) (TQ:Row.ok w2 (⟨yA,yn,yc,yl⟩:Row Br)) (hyl:(⟨yA,yn,yc,yl⟩:Row Br).l=fs)
 (hP3:Parts W0 (w2.alloc (.cells #[.slice yA yn yc] 54)) B v rs) (hown:w4.ownsRow W0.heap.size 54 1 v' (rs.length+1) (rs.map Row.v++[.slice yA yn yc])) (hg:(w2.alloc (.cells #[.slice yA yn yc] 54)).grownBy w4 v.ownBlock)
 (hat:v'.ownBlock=v.ownBlock∨v'.ownBlock=some (w2.alloc (.cells #[.slice yA yn yc] 54)).heap.size) (hbx:Boxed w4 B 184 v):
 KeepsFrom W0.heap.size W (w4.setCell ⟨B,0,none⟩ v')∧LK Bs Bn W (w4.setCell ⟨B,0,none⟩ v')∧Parts W0 (w4.setCell ⟨B,0,none⟩ v') B v' (rs++[⟨yA,yn,yc,yl⟩])∧Below w.heap.size w (w4.setCell ⟨B,0,none⟩ v')∧W0.heap.size≤(w4.setCell ⟨B,0,none⟩ v').heap.size:=by
 have hb2:Ai W w2:=(Ai.refl W).drew.trans Sa.Av;have hb3:Ai W (w2.alloc (.cells #[.slice yA yn yc] 54)):=hb2.alloc _;have hBlt:B<W.heap.size:=by omega
 have hs5:(w4.setCell ⟨B,0,none⟩ v').heap.size=w4.heap.size:=by simp [World.setCell]
 have hs3:=hb3.size;have hs4:=hg.size;have hset:w4.grownBy (w4.setCell ⟨B,0,none⟩ v') (some B):=grownBy_setCell' w4 B v';have hvB:∀ b',v.ownBlock=some b'→W0.heap.size≤b':=fun b' e=>Jh hP3.own e
 refine ⟨?_,?_,?_,?_,Xl⟩
 ·refine KeepsOthers.from ?_ _;have k1:KeepsOthers W (w2.alloc (.cells #[.slice yA yn yc] 54)):=⟨hs3,fun k o hk _=>(hb3.block k (Zj.1 hk).1).trans hk⟩;refine (k1.trans (KeepsOthers.of_grownBy hg fun j o ej hj=>?_)).trans (KeepsOthers.setCell _ _ _);obtain ⟨cs,hcs⟩:=YH hP3.own ej;unfold Bh at hcs;rw [hcs] at hj;injection hj with hj;subst hj
  rfl
 ·have key:∀ q,q<W0.heap.size→q≠B→(w4.setCell ⟨B,0,none⟩ v').cell? ⟨q,0,none⟩=W.cell? ⟨q,0,none⟩:=fun q hq hqB=>by
   refine Vl ?_;rw [hset.block q Xl (fun e=>by injection e with e;exact hqB e),hg.block q Xl (fun e=>by have:=hvB q e.symm;omega)];exact hb3.block q Xl
  exact ⟨key Bs hne1 (Ne.symm hBB.1),key Bn hne2 (Ne.symm hBB.2.1)⟩
 ·have hoy:Xn v.ownBlock (⟨yA,yn,yc,yl⟩:Row Br):=by
   cases hu:v.ownBlock with
   |none=>exact ⟨(fun _ _ _ e=>by cases e),(fun _ _ _ _ _ e=>by cases e)⟩
   |some k=>exact aL Sa rfl hyl (by have:=lG hP.own hu;exact this)
  have hoyB:Xn (some B) (⟨yA,yn,yc,yl⟩:Row Br):=aL Sa rfl hyl hBlt;have hy3:Row.ok (w2.alloc (.cells #[.slice yA yn yc] 54)) (⟨yA,yn,yc,yl⟩:Row Br):=TQ.mono ((Ai.refl w2).alloc _);have hall:∀ r ∈ rs++[(⟨yA,yn,yc,yl⟩:Row Br)],r.ok (w2.alloc (.cells #[.slice yA yn yc] 54))∧Xn v.ownBlock r∧Xn (some B) r:=fun r hr=>by
   rcases Ec.1 hr with h|h
   ·exact ⟨hP3.ok r h,hP3.offV r h,hP3.offB r h⟩
   ·rw [Ef] at h;subst h;exact ⟨hy3,hoy,hoyB⟩
  refine ⟨hbx.set v',?_,fun r hr=>?_,fun r hr=>?_,fun r hr=>(hall r hr).2.2⟩
  ·rw [Cn,Cf];exact hown.kept hset (.inr (hbx.not_row Za1 hown).symm)
  ·exact Qp (Qp (hall r hr).1 hg (hall r hr).2.1) hset (hall r hr).2.2
  ·rcases hat with e|e
   ·rw [e];exact (hall r hr).2.1
   ·rw [e];exact An3 (hall r hr).1
 ·exact (((hB.trans hb3).grown hg fun k e=>by have:=hvB k e;omega).grown hset fun k e=>by injection e with e;omega)
abbrev mY (w:World):={x:Row Br // x.ok w∧x.n≤5000}
def nJ (cs:List (List CZ)) (w:World) (e:Ending) (w':World):Prop:=
 ∃ (v:Value) (rs:List (Row Br)),e=.returned (.tuple #[v,.int .i64 0])∧w'.ownsRow w.heap.size 54 1 v rs.length (rs.map Row.v)∧(∀ r ∈ rs,r.ok w'∧r.n≤5000∧Xn v.ownBlock r)∧rs.map (fun r=>cons r.l)=cs∧Ai w w'
theorem Qm {W:World} {Bs Bn l:Nat} {o':Obj} (h1:Bs<l) (h2:Bn<l):LK Bs Bn W (W.putObj l o'):=by
 constructor
 ·refine Vl ?_;simp [World.putObj,Zk];omega
 ·refine Vl ?_;simp [World.putObj,Zk];omega
theorem Zt1 {p:Prop} (h:p:=by
 rintro e W' ⟨he,⟨k,ys,h1,h2,rfl,hj⟩|⟨pre,hj⟩⟩
 ·exact ⟨he,.inl ⟨_,⟨k,h1,h2,rfl⟩,hj⟩⟩
 ·exact ⟨he,.inr ⟨_,trivial,hj⟩⟩
):p:=h
theorem tJ (n:Nat) (hn:1≤n) (Bs Bn b o c ln m:Nat) (l:List Br) (w0 w:World) (hx:Row.ok w0 (⟨some ⟨b,o,none⟩,ln,c,l⟩:Row Br)) (bT:ln≤5000) (hm1:1≤m) (hm2:m≤9223372036854775807)
 (hs:Bs<w.heap.size) (hb:Bn<w.heap.size) (hBs:w.cell? ⟨Bs,0,none⟩=some (.slice (some ⟨b,o,none⟩) ln c)) (hBn:w.cell? ⟨Bn,0,none⟩=some (.int .i64 m)):
 SeqStopsK Fence.wide n prog 198 #[.pointer (some ⟨Bs,0,none⟩),.pointer (some ⟨Bn,0,none⟩)] (fun x:mY w0=>#[x.1.v]) (LK Bs Bn)
  (fun xs=>∃ k,l.length≤k * m∧(k=0∨(k - 1) * m<l.length)∧xs=upto (fun j=>(⟨piece b o m l j,pY hx bT j⟩:mY w0)) k) (fun _=>True) l.length w:=fun lp J Jx W hW hJ _ hY h0=>by
 have hl:l.length=ln:=hx.len;have hc:=hx.le;have hc2:=hx.cap;unfold maxLen at hc2;subst hl;refine (Aa5 n hn lp Bs Bn b o c m l hm1 hm2 bT hc hc2 (fun x=>x.ok w0∧x.n≤5000) (pY hx bT) J Jx (fun s A B hA hg=>hJ s A B none hA hg (fun r e=>by cases e)) hY W ((hW.cell (p:=⟨Bs,0,none⟩) hs).trans hBs) ((hW.cell (p:=⟨Bn,0,none⟩) hb).trans hBn) h0).mono ?_;exact Zt1
theorem nT {α β:Type} (g:α→β) (f:Nat→α) (k:Nat):(upto f k).map g=upto (fun j=>g (f j)) k:=by
 simp [upto,Ri,jZ]
theorem Zf9 {p:Prop} (h:p:=by
 refine AllReadyIn.cons rfl (fun K hK=>?_) AllReadyIn.nil;go_simp;refine hK _ _ ?_;clear hK K;refine wpAnyIn_ready (rs:=[4]) Za0 uH ?_;refine AllReadyIn.cons rfl (fun K hK=>?_) AllReadyIn.nil;refine FT rfl (.tmp 14) (.tmp 17) _ rfl _ _ rfl rfl Xp.Ab ?_;refine hK _ _ ?_;clear hK K;refine wpAnyIn_ready (rs:=[5]) Za0 uH ?_;refine AllReadyIn.cons rfl (fun K hK=>?_) AllReadyIn.nil;go_simp;refine hK _ _ ?_;clear hK K;refine wpAnyIn_done Za0 ?_ _;obtain ⟨k1,k2,k3,k4,k5⟩:=KU hne1 hne2 Xl hP hW0 (show Ai w W from hB) Sa TQ hyl hP3 Li hg4 Xc MU;refine ⟨k1,k2,⟨_,rs++[⟨yA,yn,yc,yl⟩],k3,?_,?_⟩,k4,k5⟩
 ·show _=_;rw [Cf,Cf,hcon.Ab];have e1:cons yl=cons xl:=by have h1:yl=fs:=hyl;rw [h1];exact Gm
  simp only [En,EX,e1]
 ·intro r hr;rcases Ec.1 hr with h|h
  ·exact hrn r h
  ·rw [Ef] at h;subst h;have h1:=CW List.length Gm;rw [AR,AR] at h1;have h2:=Hxo.len;simp only at h1 h2 rC hyn ⊢;omega
):p:=h
theorem Zf0 {p:Prop} (h:p:=by have:=Sa.Av.size;simp at this ⊢;omega):p:=h
theorem Zf1 {p:Prop} (h:p:=by unfold maxLen;rw [Hlen.Ab];omega):p:=h
theorem Zw1 {p:Prop} (h:p:=by have h1:=CW List.length Gm;rw [AR,AR] at h1;have h2:=Hxo.len;simp only at h1 h2 rC;omega):p:=h
theorem Zf5 {p:Prop} (h:p:=by rw [Hlen.Ab];omega):p:=h
theorem Zk2 {p:Prop} (h:p:=by go_simp;refine hK _ _ ?_;clear hK K;refine wpAnyIn_ready (rs:=[2]) Za0 uH ?_;refine AllReadyIn.cons rfl (fun K hK=>?_) AllReadyIn.nil;go_simp;refine ⟨trivial,?_⟩;refine (CallsIn.inRound lp (OW.2 (KV ⟨xA,xn,xc,xl⟩ _ Hxo (by simp only at rC ⊢;omega)))).mono ?_;rintro e w2 ⟨cv,fs,rfl,Sa,Gm⟩;obtain ⟨⟨yA,yn,yc,yl⟩,rfl,TQ,hyl,hyn⟩:=NZ Sa Zw1;have hP2:=hPd.keep Sa.Av;have hP3:=hP2.keep ((Ai.refl w2).alloc (.cells #[.slice yA yn yc] 54));have hc2:=hP2.box.cell;have hc3:=hP3.box.cell;obtain ⟨v',w4,hrun,Li,hg4,Xc⟩:=Gj (P:=prog) (w2.alloc (.cells #[.slice yA yn yc] 54)) W0.heap.size 184 184 54 i0 (.slice none 0 0) 1 24 underlying184 Hi0 Hz0 Hz1 Hz2 rfl Za1 v rs.length (rs.map Row.v) hP3.own _ (some ⟨w2.heap.size,0,none⟩) 1 1 [.slice yA yn yc] (Ik w2 _ _ 1 1 rfl) Za2 Zf1 Zf5 Zf0;obtain ⟨g',cap',rfl⟩:=ownsRow_succ Li;have MU:=hP3.box.kept hg4 (hP3.box.not_row Za1 hP3.own);have hc4:=MU.cell;have hf4:=MU.frozen;have Xp:=Aa hrun;clear hrun;simp only [Row.v];refine hK _ _ ?_;clear hK K;refine wpAnyIn_ready (rs:=[3]) Za0 uH ?_;exact Zf9):p:=h
theorem Zr2 {p:Prop} (h:p:=by
 have hq:=ownsRow_putObj hP.own (.deferred none) hK rfl;refine ⟨hq.1,?_⟩;rcases hq.2 with h0|⟨g,cap,cur,q1,q2,q3⟩
 ·exact .inl h0
 ·exact .inr ⟨g,cap,cur,q1,IA hB0.size q2,q3⟩
):p:=h
theorem Zr8 {p:Prop} (h:p:=by have hP':=hP.kept (grownBy_putObj' W D (.deferred none)) (fun r e=>by injection e with e;subst e;exact ⟨_,hK,rfl⟩);exact fun r hr=>⟨hP'.ok r hr,hrn r hr,hP'.offV r hr⟩):p:=h
theorem At9 (n:Nat) (hn:3≤n) (b o ln c m:Nat) (l:List Br) (w:World) (hx:Row.ok w (⟨some ⟨b,o,none⟩,ln,c,l⟩:Row Br)) (bT:ln≤5000) (hm1:1≤m) (hm2:m≤9223372036854775807):
 CallsIn Fence.wide n prog 149 #[.int .i64 m,.slice (some ⟨b,o,none⟩) ln c] w fun e w'=>∃ k,l.length≤k * m∧(k=0∨(k - 1) * m<l.length)∧nJ (upto (fun j=>cons ((l.drop (j * m)).take m)) k) w e w':=by
 have h1:1≤n:=by omega
 have hl:l.length=ln:=hx.len;have d:decide ((m:Int)<1)=false:=by simp;omega
 have Hx:=Aa hx;have Hl:=Aa hl;clear hx hl;refine callsIn_of_wp_marks func149 rfl trivial ?_ rfl;simp only [ntmps149,Tv,Eo,Ot,Nat.reduceAdd,Nat.reduceSub,TB,TD,Tu,Tz,FC,KZ]
 gi_wp2_with fail
 refine ⟨trivial,?_⟩;refine (tK (n - 1) _ _ _ m hm1 _).mono ?_;rintro e w' ⟨rfl,rfl⟩
 gi_wp2
 have bO:=((Boxed.new w 184 (.slice none 0 0)).alloc (.cells #[.slice (some ⟨b,o,none⟩) ln c] 54)).alloc (.cells #[.int .i64 m] 3);have bS:=(Boxed.new (w.alloc (.cells #[.slice none 0 0] 184)) 54 (.slice (some ⟨b,o,none⟩) ln c)).alloc (.cells #[.int .i64 m] 3);have bN:=Boxed.new ((w.alloc (.cells #[.slice none 0 0] 184)).alloc (.cells #[.slice (some ⟨b,o,none⟩) ln c] 54)) 3 (.int .i64 m);rw [Gf,Gf] at bN;rw [Gf] at bS;have hB0:Ai w (((w.alloc (.cells #[.slice none 0 0] 184)).alloc (.cells #[.slice (some ⟨b,o,none⟩) ln c] 54)).alloc (.cells #[.int .i64 m] 3)):=(((Ai.refl w).alloc _).alloc _).alloc _;have hsz:(((w.alloc (.cells #[.slice none 0 0] 184)).alloc (.cells #[.slice (some ⟨b,o,none⟩) ln c] 54)).alloc (.cells #[.int .i64 m] 3)).heap.size=w.heap.size+3:=by simp
 generalize ((w.alloc (.cells #[.slice none 0 0] 184)).alloc (.cells #[.slice (some ⟨b,o,none⟩) ln c] 54)).alloc (.cells #[.int .i64 m] 3)=W0 at *;have HsO:=Aa bO;obtain ⟨i0,hi0,hz0,hz1,hz2⟩:=info_parts WW;have Hi0:=Aa hi0;have Hz0:=Aa hz0;have Hz1:=Aa hz1;have Hz2:=Aa hz2;clear hi0 hz0 hz1 hz2;have P0:Parts W0 W0 w.heap.size (.slice none 0 0) []:=⟨bO,⟨rfl,.inl ⟨rfl,rfl⟩⟩,uH,uH,uH⟩;have hne1:w.heap.size+1<W0.heap.size:=by omega
 have hne2:w.heap.size+1+1<W0.heap.size:=by omega
 have Hsz:=Aa hsz;clear hsz bO;refine wpIn_rangeFunc_ownG rfl h1 (gf:=198) (lb:=#[.pointer (some ⟨w.heap.size+1,0,none⟩),.pointer (some ⟨w.heap.size+1+1,0,none⟩)]) rfl trivial (enters_of func198 Za0 rfl)
  (tJ (n - 1) Xl (w.heap.size+1) (w.heap.size+1+1) b o c ln m l w W0 Hx bT hm1 hm2 hne1 hne2 bS.cell bN.cell) LK.trans (fun W l o o' hl _ _ _=>Qm Xl Xl) (Below.refl _ _) (fun _=>rfl)
  (fun pre W=>(∃ v rs,Parts W0 W w.heap.size v rs∧Hid (rs.map (fun r=>cons r.l)=pre.map (fun x=>cons x.1.l))∧Hid (∀ r ∈ rs,r.n≤5000))∧Below w.heap.size w W∧W0.heap.size≤W.heap.size)
  (fun _ _ _=>False)
  (fun s A B row hs hg hr=>by
   obtain ⟨⟨v,rs,h1,h2,h3⟩,h4,h5⟩:=hs;exact ⟨⟨v,rs,h1.kept hg (fun r e=>(hr r e).2),h2,h3⟩,h4.grown hg h4.size (fun k e=>IA Xl (hr k e).1),IA h5 hg.size⟩)
  (fun _ _ _ _ _ hs _ _=>hs)
  ⟨⟨_,[],P0,rfl,fun r h=>by simp at h⟩,hB0,Ci _⟩
  (fun x=>{ tmps:=#[.int .i64 m,.slice (some ⟨b,o,none⟩) ln c,undef,undef,.slice none 0 0,.int .i64 0,.pointer (some ⟨w.heap.size,0,none⟩),x.1.v,.int .i64 m,.bool false,.slice (some ⟨b,o,none⟩) ln c,.int .i64 m,.func (.func 198) #[] #[.pointer (some ⟨w.heap.size+1,0,none⟩),.pointer (some ⟨w.heap.size+1+1,0,none⟩)],x.1.v,undef,undef,undef,undef,undef,undef],defers:=[] }) ?assign ?body ?done ?stop
 case assign=>
  intro l x W K hK
  gi_wp2
  exact hK
 case body=>
  rintro lp pre x W ⟨⟨v,rs,hP,hcon,hrn⟩,hB,hW0⟩ hlt;obtain ⟨⟨xA,xn,xc,xl⟩,hxo,rC⟩:=x;simp only [Row.v] at *;have hd:1≤n - 1 - 1:=by omega
  have hmx:prog.follows .mixedOrders=true:=by kernel_rfl
  have hc:=hP.box.cell;have hBw:Ai w W.drew:=(show Ai w W from hB).drew;have Hxo:Hid (Row.ok W.drew (⟨xA,xn,xc,xl⟩:Row Br)):=hxo.mono hBw;have hlen:rs.length=pre.length:=by have:=CW List.length hcon.Ab;simpa using this
  have hpl:pre.length≤5000:=by have:=Hl.Ab;omega
  have Hlen:=Aa hlen;clear hlen;have hPd:Parts W0 W.drew w.heap.size v rs:=hP.keep (Ai.refl W).drew
  gi_wp2
  refine wpIn_region_any Za0 ?_;refine wpAnyIn_ready (rs:=[0,1]) Za0 uH ?_;refine AllReadyIn.cons rfl (fun K hK=>?_) (AllReadyIn.cons rfl (fun K hK=>?_) AllReadyIn.nil)
  ·go_simp;refine hK _ _ ?_;clear hK K;refine wpAnyIn_ready (rs:=[1]) Za0 uH ?_;refine AllReadyIn.cons rfl (fun K hK=>?_) AllReadyIn.nil;exact Zk2
  ·go_simp;refine hK _ _ ?_;clear hK K;refine wpAnyIn_ready (rs:=[0,2]) Za0 uH ?_;refine AllReadyIn.cons rfl (fun K hK=>?_) (AllReadyIn.cons rfl (fun K hK=>?_) AllReadyIn.nil)
   ·exact Zk2
   ·skip;go_simp;refine ⟨trivial,?_⟩;refine (CallsIn.inRound lp (OW.2 (KV ⟨xA,xn,xc,xl⟩ _ Hxo (by simp only at rC ⊢;omega)))).mono ?_;rintro e w2 ⟨cv,fs,rfl,Sa,Gm⟩;obtain ⟨⟨yA,yn,yc,yl⟩,rfl,TQ,hyl,hyn⟩:=NZ Sa Zw1;have hP2:=hPd.keep Sa.Av;have hP3:=hP2.keep ((Ai.refl w2).alloc (.cells #[.slice yA yn yc] 54));have hc2:=hP2.box.cell;have hc3:=hP3.box.cell;obtain ⟨v',w4,hrun,Li,hg4,Xc⟩:=Gj (P:=prog) (w2.alloc (.cells #[.slice yA yn yc] 54)) W0.heap.size 184 184 54 i0 (.slice none 0 0) 1 24 underlying184 Hi0 Hz0 Hz1 Hz2 rfl Za1 v rs.length (rs.map Row.v) hP3.own _ (some ⟨w2.heap.size,0,none⟩) 1 1 [.slice yA yn yc] (Ik w2 _ _ 1 1 rfl) Za2 Zf1 Zf5 Zf0;obtain ⟨g',cap',rfl⟩:=ownsRow_succ Li;have MU:=hP3.box.kept hg4 (hP3.box.not_row Za1 hP3.own);have hc4:=MU.cell;have hf4:=MU.frozen;have Xp:=Aa hrun;clear hrun;simp only [Row.v];refine hK _ _ ?_;clear hK K;refine wpAnyIn_ready (rs:=[0,3]) Za0 uH ?_;refine AllReadyIn.cons rfl (fun K hK=>?_) (AllReadyIn.cons rfl (fun K hK=>?_) AllReadyIn.nil)
    ·go_simp;refine hK _ _ ?_;clear hK K;refine wpAnyIn_ready (rs:=[3]) Za0 uH ?_;exact Zf9
    ·go_simp;refine hK _ _ ?_;clear hK K;refine wpAnyIn_ready (rs:=[0]) Za0 uH ?_;exact Zf9
 case done=>
  rintro D ys W hD ⟨k,hk1,hk2,rfl⟩ ⟨⟨v,rs,hP,hcon,hrn⟩,hB,hW0⟩ hK;have hc:=hP.box.cell
  gi_wp2
  refine ⟨uH,.inl ⟨_,_,rfl,run_takeDeferred hK,?_⟩⟩;refine ⟨.tuple #[v,.int .i64 0],?_,k,hk1,hk2,v,rs,rfl,?_,?_,?_,?_⟩
  ·kernel_rfl
  ·exact Zr2
  ·exact Zr8
  ·rw [hcon.Ab,nT];(try rfl)
  ·exact Below.trans hB (belowK_b (w:=w) (Ci _) W D _ _ (show w.heap.size≤D by omega) hK rfl rfl)
 case stop=>
  rintro D c pre W _ _ h _;exact h.elim
end Go.Proofs.YtijplolmkcdflaaGreat
namespace Go.Proofs.YtijplolmkcdflaaGreat
open Tryz
open Go.RowKit Go.Shelf
attribute [local go_sem] Oper.semAt_some
theorem Yr (n Bs Bn:Nat) (A:Option Addr) (c:Nat) (w0 w:World) (hs:Bs<w.heap.size) (hBs:w.cell? ⟨Bs,0,none⟩=some (.slice A 0 c)):
 SeqStopsK Fence.wide n prog 198 #[.pointer (some ⟨Bs,0,none⟩),.pointer (some ⟨Bn,0,none⟩)] (fun x:mY w0=>#[x.1.v]) (LK Bs Bn)
  (fun xs=>xs=[]) (fun _=>True) 0 w:=fun lp J Jx W hW hJ _ hY h0=>by
 refine (fH n lp Bs Bn J A c W ((hW.cell (p:=⟨Bs,0,none⟩) hs).trans hBs) h0).mono ?_;rintro e W' ⟨he,hj⟩;exact ⟨he,.inl ⟨_,rfl,hj⟩⟩
theorem yK (n:Nat) (hn:3≤n) (A:Option Addr) (c m:Nat) (w:World) (hm1:1≤m):
 CallsIn Fence.wide n prog 149 #[.int .i64 m,.slice A 0 c] w fun e w'=>nJ [] w e w':=by
 have h1:1≤n:=by omega
 have d:decide ((m:Int)<1)=false:=by simp;omega
 refine callsIn_of_wp_marks func149 rfl trivial ?_ rfl;simp only [ntmps149,Tv,Eo,Ot,Nat.reduceAdd,Nat.reduceSub,TB,TD,Tu,Tz,FC,KZ]
 gi_wp2_with fail
 refine ⟨trivial,?_⟩;refine (tK (n - 1) _ _ _ m hm1 _).mono ?_;rintro e w' ⟨rfl,rfl⟩
 gi_wp2
 have bO:=((Boxed.new w 184 (.slice none 0 0)).alloc (.cells #[.slice A 0 c] 54)).alloc (.cells #[.int .i64 m] 3);have bS:=(Boxed.new (w.alloc (.cells #[.slice none 0 0] 184)) 54 (.slice A 0 c)).alloc (.cells #[.int .i64 m] 3);have bN:=Boxed.new ((w.alloc (.cells #[.slice none 0 0] 184)).alloc (.cells #[.slice A 0 c] 54)) 3 (.int .i64 m);rw [Gf,Gf] at bN;rw [Gf] at bS;have hB0:Ai w (((w.alloc (.cells #[.slice none 0 0] 184)).alloc (.cells #[.slice A 0 c] 54)).alloc (.cells #[.int .i64 m] 3)):=(((Ai.refl w).alloc _).alloc _).alloc _;have hsz:(((w.alloc (.cells #[.slice none 0 0] 184)).alloc (.cells #[.slice A 0 c] 54)).alloc (.cells #[.int .i64 m] 3)).heap.size=w.heap.size+3:=by simp
 generalize ((w.alloc (.cells #[.slice none 0 0] 184)).alloc (.cells #[.slice A 0 c] 54)).alloc (.cells #[.int .i64 m] 3)=W0 at *;have HsO:=Aa bO;obtain ⟨i0,hi0,hz0,hz1,hz2⟩:=info_parts WW;have Hi0:=Aa hi0;have Hz0:=Aa hz0;have Hz1:=Aa hz1;have Hz2:=Aa hz2;clear hi0 hz0 hz1 hz2;have P0:Parts W0 W0 w.heap.size (.slice none 0 0) []:=⟨bO,⟨rfl,.inl ⟨rfl,rfl⟩⟩,uH,uH,uH⟩;have hne1:w.heap.size+1<W0.heap.size:=by omega
 have hne2:w.heap.size+1+1<W0.heap.size:=by omega
 have Hsz:=Aa hsz;clear hsz bO;refine wpIn_rangeFunc_ownG rfl h1 (gf:=198) (lb:=#[.pointer (some ⟨w.heap.size+1,0,none⟩),.pointer (some ⟨w.heap.size+1+1,0,none⟩)]) rfl trivial (enters_of func198 Za0 rfl)
  (Yr (n - 1) (w.heap.size+1) (w.heap.size+1+1) A c w W0 hne1 bS.cell) LK.trans (fun W l o o' hl _ _ _=>Qm Xl Xl) (Below.refl _ _) (fun _=>rfl)
  (fun pre W=>(∃ v rs,Parts W0 W w.heap.size v rs∧Hid (rs.map (fun r=>cons r.l)=pre.map (fun x=>cons x.1.l))∧Hid (∀ r ∈ rs,r.n≤5000))∧Below w.heap.size w W∧W0.heap.size≤W.heap.size)
  (fun _ _ _=>False)
  (fun s A B row hs hg hr=>by
   obtain ⟨⟨v,rs,h1,h2,h3⟩,h4,h5⟩:=hs;exact ⟨⟨v,rs,h1.kept hg (fun r e=>(hr r e).2),h2,h3⟩,h4.grown hg h4.size (fun k e=>IA Xl (hr k e).1),IA h5 hg.size⟩)
  (fun _ _ _ _ _ hs _ _=>hs)
  ⟨⟨_,[],P0,rfl,fun r h=>by simp at h⟩,hB0,Ci _⟩
  (fun x=>{ tmps:=#[.int .i64 m,.slice A 0 c,undef,undef,.slice none 0 0,.int .i64 0,.pointer (some ⟨w.heap.size,0,none⟩),x.1.v,.int .i64 m,.bool false,.slice A 0 c,.int .i64 m,.func (.func 198) #[] #[.pointer (some ⟨w.heap.size+1,0,none⟩),.pointer (some ⟨w.heap.size+1+1,0,none⟩)],x.1.v,undef,undef,undef,undef,undef,undef],defers:=[] }) ?assign ?body ?done ?stop
 case assign=>
  intro l x W K hK
  gi_wp2
  exact hK
 case body=>
  rintro lp pre x W _ hlt;exact absurd hlt (Nat.not_lt_zero _)
 case done=>
  rintro D ys W hD rfl ⟨⟨v,rs,hP,hcon,hrn⟩,hB,hW0⟩ hK;have hc:=hP.box.cell
  gi_wp2
  refine ⟨uH,.inl ⟨_,_,rfl,run_takeDeferred hK,?_⟩⟩;refine ⟨.tuple #[v,.int .i64 0],?_,v,rs,rfl,?_,?_,?_,?_⟩
  ·kernel_rfl
  ·exact Zr2
  ·exact Zr8
  ·rw [hcon.Ab];(try rfl)
  ·exact Below.trans hB (belowK_b (w:=w) (Ci _) W D _ _ (show w.heap.size≤D by omega) hK rfl rfl)
 case stop=>
  rintro D c pre W _ _ h _;exact h.elim
theorem Ao3 (m:Nat) (hm1:1≤m) (hm2:m≤9223372036854775807) (x:Row Br) (w:World) (hx:x.ok w) (hn:x.n≤5000):
 Calls prog 149 #[.int .i64 m,x.v] w fun e w'=>∃ k,x.l.length≤k * m∧(k=0∨(k - 1) * m<x.l.length)∧nJ (upto (fun j=>cons ((x.l.drop (j * m)).take m)) k) w e w':=by
 obtain ⟨A,n,c,l⟩:=x;rcases Vk n with rfl|hpos
 ·have hl:l.length=0:=hx.len;refine (OW.1 (yK 3 (Ci _) A c m w hm1)).mono ?_;intro e w' h;exact ⟨0,by simp only;omega,.inl rfl,h⟩
 ·obtain ⟨b,o,f,hA,_⟩:=hx.Z7 hpos;simp only at hA;subst hA;exact OW.1 (At9 3 (Ci _) b o n c m l w hx hn hm1 hm2)
end Go.Proofs.YtijplolmkcdflaaGreat
namespace Go.Proofs.YtijplolmkcdflaaGreat
open Tryz
open Go.RowKit
attribute [local go_sem] Ll
structure Jz (w0 w:World) (v:Value) (rs:List (Row Br)):Prop where
 own:w.ownsRow w0.heap.size 54 1 v rs.length (rs.map Row.v)
 all:∀ r ∈ rs,r.ok w∧r.n≤5000∧Xn v.ownBlock r
 Av:Ai w0 w
theorem Jz.keep {w0 w w':World} {v:Value} {rs:List (Row Br)} (h:Jz w0 w v rs) (hb:Ai w w'):Jz w0 w' v rs:=
 ⟨Ig h.own hb,fun r hr=>⟨(h.all r hr).1.mono hb,(h.all r hr).2⟩,h.Av.trans hb⟩
theorem Md (rs:List (Row Br)):rs.flatMap AY.cells=rs.map Row.v:=by
 induction rs with
 |nil=>rfl
 |cons r rs ih=>rw [Df,ih];(try rfl)
theorem Jz.cell {w0 w:World} {g n c:Nat} {rs:List (Row Br)} (h:Jz w0 w (.slice (some ⟨g,0,none⟩) n c) rs) {k:Nat} {r:Row Br} (hr:rs[k]?=some r):w.cell? ⟨g,k,none⟩=some r.v∧w.frozen? ⟨g,k,none⟩=false∧g<w.heap.size:=by
 obtain ⟨A,c',e,_⟩:=Ao h.own;injection e with e1 e2 e3;have ho:=h.own;rw [←e2,←Md] at ho;have hk:k<n:=by have:=(CB.1 hr).1;omega
 obtain ⟨q1,q2⟩:=Gy (α:=Row Br) ho hr;have q3:=SF (α:=Row Br) ho hk 0 Za1;have e4:k * AY.size (Row Br)+0=k:=Wu k;have q4:=q1 0 r.v rfl;rw [e4] at q4 q3;exact ⟨q4,q3.2,q2⟩
theorem Jz.len {w0 w:World} {A:Option Addr} {n c:Nat} {rs:List (Row Br)} (h:Jz w0 w (.slice A n c) rs):rs.length=n:=by
 obtain ⟨A',c',e,_⟩:=Ao h.own;injection e with e1 e2 e3;exact e2.symm
theorem Jz.addr {w0 w:World} {A:Option Addr} {n c:Nat} {rs:List (Row Br)} (h:Jz w0 w (.slice A n c) rs) (hn:0<n):∃ g,A=some ⟨g,0,none⟩:=by
 have hl:=h.len;rcases h.own.2 with ⟨h0,hz⟩|⟨g,cap,cur,e,_⟩
 ·omega
 ·injection e with e1;exact ⟨g,e1⟩
theorem Jz.set {w0 w:World} {g n c:Nat} {rs:List (Row Br)} (h:Jz w0 w (.slice (some ⟨g,0,none⟩) n c) rs) {k:Nat} (hk:k<n) {y:Row Br} (hy:y.ok w) (hn:y.n≤5000) (ho:Xn (some g) y):
 Jz w0 (w.setCell ⟨g,k,none⟩ y.v) (.slice (some ⟨g,0,none⟩) n c) (rs.set k y):=by
 obtain ⟨A,c',e,_⟩:=Ao h.own;injection e with e1 e2 e3;have hg:w.grownBy (w.setCell ⟨g,k,none⟩ y.v) (some g):=⟨rfl,rfl,rfl,(KeepsWalks.setCell w _ y.v).size,fun j _ hj=>Za _ _ _ j (fun e=>hj (by rw [e]))⟩;refine ⟨?_,fun r hr=>?_,h.Av.grown hg fun j e=>?_⟩
 ·have hw:=h.own;rw [←e2,←Md] at hw;have:=Uu (α:=Row Br) hw hk y;rw [Md,show k * AY.size (Row Br)=k from Wu k] at this;rw [Rn,←e2];exact this
 ·rcases Zi hr with hr'|rfl
  ·exact ⟨Qp (h.all r hr').1 hg (h.all r hr').2.2,(h.all r hr').2⟩
  ·exact ⟨Qp hy hg ho,hn,ho⟩
 ·injection e with e;subst e;exact Jh h.own rfl
theorem set_mid {α:Type} {U D:List α} {k:Nat} (v:α) (hU:U.length=k) (hk:k<D.length):(U++D.drop k).set k v=(U++[v])++D.drop (k+1):=by
 rw [List.set_append_right _ _ Xl,hU,PU,Eh hk,kD,Eg]
 rfl
theorem Ao0 {α:Type} {U D:List α} {k:Nat} (hU:U.length=k):(U++D.drop k)[k]?=D[k]?:=by
 rw [Rf Xl,hU,PU,NJ,Kb]
theorem Ac2 {α:Type} (f:Nat→α) {k K:Nat} (h:k<K):(upto f K)[k]?=some (f k):=by simp [upto,h]
theorem Ae1 (m:Nat) (hm1:1≤m) (hm2:m≤9223372036854775807) (x:Row Br) (w:World) (hx:x.ok w) (hn:x.n≤5000):
 Calls prog 106 #[.int .i64 m,x.v] w fun e w'=>∃ k v rs,x.l.length≤k * m∧(k=0∨(k - 1) * m<x.l.length)∧e=.returned (.tuple #[v,.int .i64 0])∧Jz w w' v rs∧rs.map (fun r=>cons r.l)=upto (fun j=>BK (cons ((x.l.drop (j * m)).take m))) k:=by
 have Hx:=Aa hx;have Hlen:Hid (x.l.length=x.n):=hx.len;clear hx;obtain ⟨A,n,c,l⟩:=x;simp only [Row.v] at *;go_enter func106,ntmps106;go_wp2_with fail;refine (Ao3 m hm1 hm2 ⟨A,n,c,l⟩ _ Hx hn).mono ?_;rintro e w1 ⟨K,hK1,hK2,v,rs,rfl,hown,hall,hcs,hb⟩;have hR:Jz w w1 v rs:=⟨hown,hall,hb⟩;have hrl:rs.length=K:=by have:=CW List.length hcs;rwa [CQ,KJ] at this
 have hKn:K≤5000:=by
  rcases hK2 with h0|h1
  ·omega
  ·have:=Nat.le_mul_of_pos_right (K - 1) (show 0<m by omega);have:=Hlen.Ab;simp only at h1;omega
 clear hown hall hb;have HK1:=Aa hK1;have HK2:=Aa hK2;have Hcs:=Aa hcs;clear hK1 hK2 hcs;obtain ⟨vA,vc,rfl,hvc⟩:=Ao hR.own;have Hrl:=Aa hrl;rw [hrl] at hR hvc ⊢;clear hrl;have hR0:=hR;go_wp2;go_loopg [22] K (fun gg i wr=>∃ k ys,gg=K - k∧k≤K∧i=.int .i64 (k:Nat)∧Jz w wr (.slice vA K vc) ys∧Hid (ys.map (fun r=>cons r.l)=upto (fun j=>BK (cons ((l.drop (j * m)).take m))) k++(rs.map (fun r=>cons r.l)).drop k));case atStart=>exact ⟨0,rs,rfl,Xl,rfl,hR0,by show _=_;simp [upto]⟩
 case round=>
  obtain ⟨k,ys,BR,hk,rfl,hY,hys⟩:=hrel;have Cs:=Aa BR;clear BR;by_cases hlt:k<K
  ·obtain ⟨g,rfl⟩:=hY.addr Xl;obtain ⟨y,hy⟩:∃ y,ys[k]?=some y:=⟨_,Fp (by rw [hY.len];exact hlt)⟩;obtain ⟨hc,hf,hg⟩:=hY.cell hy;have hya:=hY.all y (CU hy);have Hy:=Aa hy;have HYa:=Aa hya;have HY:=Aa hY;obtain ⟨yA,yn,yc,yl⟩:=y;simp only [Row.v] at hc;clear hy hya hY hR hR0;go_wp2_with fail;refine (Ad2 ⟨yA,yn,yc,yl⟩ _ HYa.1 HYa.2.1).mono ?_;rintro e w2 ⟨u,fs,rfl,hG,hfs⟩;have Hfs:=Aa hfs;clear hfs;have hfl:fs.length=yn:=by have h1:=CW List.length Hfs.Ab;rw [AR,FD,AR] at h1;rw [h1];exact HYa.1.len
   have hyn:yn≤5000:=HYa.2.1;obtain ⟨z,rfl,hzo,hzl,hzn⟩:=NZ hG Xl;have hY2:=HY.keep hG.Av;have hoz:Xn (some g) z:=aL hG rfl hzl hg;have HS:=Aa (hY2.set hlt hzo Xl hoz);obtain ⟨hc2,hf2,hg2⟩:=hY2.cell Hy.Ab;simp only [Row.v] at hc2;obtain ⟨zA,zn,zc,zl⟩:=z;simp only [Row.v] at *;have Hzl:Hid (zl=fs):=hzl;clear hY2 hoz hG hzo hzl hzn hfl;go_wp2;go_roundg (K - (k+1));case rel=>
    refine ⟨k+1,_,rfl,Xl,by go_num,HS.Ab,?_⟩;show _=_;have hU:(upto (fun j=>BK (cons ((l.drop (j * m)).take m))) k).length=k:=KJ _ _;have hD:k<(rs.map (fun r=>cons r.l)).length:=by rw [CQ,Hrl.Ab];exact hlt
    have h1:(ys.map (fun r=>cons r.l))[k]?=some (cons yl):=by rw [Ee,Hy.Ab];(try rfl)
    rw [hys.Ab,Ao0 hU,Hcs.Ab,Ac2 _ hlt] at h1;injection h1 with h1;rw [List.map_set,hys.Ab,set_mid _ hU hD,Sr];simp only [Hzl.Ab,Hfs.Ab,h1]
   case measure=>rw [Cs.Ab];omega
  ·obtain rfl:k=K:=by omega
   clear hR hR0;go_wp2;refine Bc (v:=.tuple #[.slice vA k vc,.int .i64 0]) Za0 rfl ?_;refine ⟨k,_,ys,HK1.Ab,HK2.Ab,rfl,hY,?_⟩;rw [hys.Ab,List.drop_eq_nil_of_le (by rw [CQ,Hrl.Ab];exact Ci _),EO]
end Go.Proofs.YtijplolmkcdflaaGreat
namespace Go.Proofs.YtijplolmkcdflaaGreat
open Tryz
open Go.RowKit Go.Shelf
theorem OL {β:Type} (l:List β) (m K:Nat):(upto (fun j=>(l.drop (j * m)).take m) K).flatten=l.take (K * m):=by
 induction K with
 |zero=>simp [upto]
 |succ K ih=>rw [Sr,Zc,ih,List.flatten_singleton,Ka,MP,List.take_add]
theorem tH (R:List (List CZ)) (m K:Nat) (h:R.length≤K * m):BK (upto (fun j=>BK ((R.drop (j * m)).take m).flatten) K).flatten=BK R.flatten:=by
 have e1:upto (fun j=>BK ((R.drop (j * m)).take m).flatten) K=((upto (fun j=>(R.drop (j * m)).take m) K).map List.flatten).map BK:=by simp [upto,Ri,jZ]
 rw [e1,Zz,←List.flatten_flatten,OL,EU h]
theorem Y8 {β:Type} (l:List (List β)) (i j:Nat):((l.drop i).take j).flatten.length≤l.flatten.length:=by
 have h1:=Na i l;have h2:=Na j (l.drop i);have e:l.flatten=(l.take i).flatten++(((l.drop i).take j).flatten++((l.drop i).drop j).flatten):=by
  rw [←Zc,h2,←Zc,h1]
 rw [e,Cn,Cn];omega
theorem TR (ls:List (List CZ)):(ls.map BK).flatten.length=ls.flatten.length:=by
 induction ls with
 |nil=>rfl
 |cons a ls ih=>rw [En,WC,WC,Cn,Cn,FD,ih]
theorem yO (R:List (List CZ)) (m K:Nat) (h:R.length≤K * m):(upto (fun j=>BK ((R.drop (j * m)).take m).flatten) K).flatten.length=R.flatten.length:=by
 have e1:upto (fun j=>BK ((R.drop (j * m)).take m).flatten) K=((upto (fun j=>(R.drop (j * m)).take m) K).map List.flatten).map BK:=by simp [upto,Ri,jZ]
 rw [e1,TR,←List.flatten_flatten,OL,EU h]
theorem Uj (l:List (Row Br)) (i j:Nat):Gi ((l.drop i).take j)=((Gi l).drop i).take j:=by rw [Gi,List.map_take,List.map_drop]
def RN (Iw:Nat):Nat→Nat→Nat
 |0,_=>0
 |f+1,n=>if n≤1 then 0 else RN Iw f ((n+Iw - 1) / Iw)+1
def QM (Iw n:Nat):Nat:=RN Iw n n
theorem ceil_lt {Iw n:Nat} (hf:2≤Iw) (hn:1<n):(n+Iw - 1) / Iw<n:=by
 rw [Nat.div_lt_iff_lt_mul Xl];have:n * 2≤n * Iw:=Nat.mul_le_mul_left _ hf;rcases MX Iw n with h|h
 ·omega
 ·have:2 * Iw≤n * Iw:=QF _ hn;omega
theorem xC {Iw:Nat} (hf:2≤Iw):∀ (f n:Nat),n≤f→RN Iw f n=RN Iw n n:=by
 intro f;induction f using Nat.strongRecOn with
 |ind f ih=>
  intro n hn;cases f with
  |zero=>
   have:n=0:=by omega
   subst this
   rfl
  |succ f=>
   cases n with
   |zero=>simp [RN]
   |succ n=>
    rw [RN,RN];split
    ·rfl
    ·have:=ceil_lt (n:=n+1) hf Xl;rw [ih f Xl _ Xl,←ih n Xl _ Xl]
theorem qB {Iw n:Nat} (h:n≤1):QM Iw n=0:=by
 unfold QM;cases n with
 |zero=>rfl
 |succ n=>rw [RN,Al h]
theorem Ao4 {Iw n K:Nat} (hf:2≤Iw) (hn:0<n) (h1:n≤K * Iw) (h2:K=0∨(K - 1) * Iw<n):(n+Iw - 1) / Iw=K:=by
 rcases h2 with rfl|h2
 ·omega
 ·have hK:K≠0:=fun e=>by subst e;omega
  obtain ⟨j,rfl⟩:∃ j,K=j+1:=⟨K - 1,Xl⟩;rw [Zb] at h2;rw [Ka,MP] at h1;refine Nat.div_eq_of_lt_le ?_ ?_
  ·rw [Ka,MP];omega
  ·rw [Ka,Ka,MP];omega
theorem xB {Iw n K:Nat} (hf:2≤Iw) (hn:1<n) (h1:n≤K * Iw) (h2:K=0∨(K - 1) * Iw<n):QM Iw n=QM Iw K+1∧K<n:=by
 have e:=Ao4 hf Xl h1 h2;have l:=ceil_lt hf hn;rw [e] at l;refine ⟨?_,l⟩;unfold QM;obtain ⟨j,rfl⟩:∃ j,n=j+1:=⟨n - 1,Xl⟩;rw [RN,Ak Xl,e,xC hf j K Xl]
structure TZ (w:World) (x:Row (Row Br)):Prop where
 ok:x.ok w
 n:x.n≤5000
 s:∀ r ∈ Gi x.l,Yi r
 t:(Gi x.l).flatten.length≤5000
theorem iJ {w:World} {b o n c m:Nat} {l:List (Row Br)} (h:TZ w ⟨some ⟨b,o,none⟩,n,c,l⟩) (k:Nat):TZ w (KE b o m l k):=by
 have hl:l.length=n:=h.ok.len;have hn:=h.n;have hlen:((l.drop (k * m)).take m).length=min m (l.length - k * m):=by rw [FK,Ih]
 refine ⟨⟨⟨?_,fun h0=>?_⟩,fun a ha=>h.ok.all a (Tx (Ud ha)),Ci _,?_,?_⟩,?_,fun r hr=>?_,?_⟩
 ·rw [Fu];exact CW (· * 1) hlen
 ·have h1:k * m<l.length:=by simp only [KE] at h0;omega
  obtain ⟨ad,e,hb,hc⟩:=h.ok.rd.2 Ze0;injection e with e;subst e;refine ⟨_,rfl,hb,fun j u hu=>?_⟩;have e1:(KE b o m l k).l.flatMap AY.cells=((l.map Row.v).drop (k * m)).take m:=by
   show ((l.drop (k * m)).take m).flatMap AY.cells=_;rw [Md,List.map_take,List.map_drop]
  rw [e1] at hu;rw [WE] at hu;split at hu
  ·rw [NJ] at hu;have:=hc (k * m+j) u (by rw [Md];exact hu);rw [Ub] at this ⊢;rw [QZ];exact this
  ·cases hu
 ·simp only [KE];simp only at hn;unfold maxLen;omega
 ·simp only [KE,AY.bytes];simp only at hn;omega
 ·simp only [KE];simp only at hn;omega
 ·have hr:r ∈ Gi ((l.drop (k * m)).take m):=hr;rw [Uj] at hr;exact h.s r (Tx (Ud hr))
 ·show (Gi ((l.drop (k * m)).take m)).flatten.length≤5000;rw [Uj];exact IA (Y8 _ _ _) h.t
abbrev Al2 (w:World):={x:Row (Row Br) // TZ w x}
theorem mG (n:Nat) (hn:1≤n) (Bs Bn b o c ln m:Nat) (l:List (Row Br)) (w0 w:World) (hx:TZ w0 ⟨some ⟨b,o,none⟩,ln,c,l⟩) (hm1:1≤m) (hm2:m≤9223372036854775807)
 (hs:Bs<w.heap.size) (hb:Bn<w.heap.size) (hBs:w.cell? ⟨Bs,0,none⟩=some (.slice (some ⟨b,o,none⟩) ln c)) (hBn:w.cell? ⟨Bn,0,none⟩=some (.int .i64 m)):
 SeqStopsK Fence.wide n prog 182 #[.pointer (some ⟨Bs,0,none⟩),.pointer (some ⟨Bn,0,none⟩)] (fun x:Al2 w0=>#[x.1.v]) (LK Bs Bn)
  (fun xs=>∃ k,l.length≤k * m∧(k=0∨(k - 1) * m<l.length)∧xs=upto (fun j=>(⟨KE b o m l j,iJ hx j⟩:Al2 w0)) k) (fun _=>True) l.length w:=fun lp J Jx W hW hJ _ hY h0=>by
 have hl:l.length=ln:=hx.ok.len;have hc:=hx.ok.le;have hc2:=hx.ok.cap;have bT:=hx.n;unfold maxLen at hc2;subst hl;refine (yP n hn lp Bs Bn b o c m l hm1 hm2 bT hc hc2 (fun x=>TZ w0 x) (iJ hx) J Jx (fun s A B hA hg=>hJ s A B none hA hg (fun r e=>by cases e)) hY W ((hW.cell (p:=⟨Bs,0,none⟩) hs).trans hBs) ((hW.cell (p:=⟨Bn,0,none⟩) hb).trans hBn) h0).mono ?_;exact Zt1
def marks (ds:List Nat):List Deferred:=ds.map fun D=>{ target:=.collected D,args:=#[] }
def zH (base:Nat) (w:World) (ds:List Nat):Prop:=ds.Nodup∧∀ D ∈ ds,base≤D∧w.heap[D]?=some (.deferred (some []))
theorem XR {F:Fence} {n:Nat} {P:Program} {fn:Func} {tmps:Array Value} {R:Ending→World→Prop} {base:Nat} {I:World→Prop}
 (hI:∀ w D,I w→base≤D→w.heap[D]?=some (.deferred (some []))→I (w.putObj D (.deferred none))) (hend:∀ w,I w→LeavesIn F n P fn tmps R [] .returning w):
 ∀ (ds:List Nat) (w:World),I w→zH base w ds→LeavesInM F n P fn tmps R (marks ds) .returning w:=by
 intro ds;induction ds with
 |nil=>intro w hi _;exact hend w hi
 |cons D ds ih=>
  intro w hi hm;have hD:=hm.2 D (Gg ..);have hnd:=WA.1 hm.1;refine ⟨uH,.inl ⟨D,_,rfl,run_takeDeferred hD.2,ih _ (hI w D hi hD.1 hD.2) ⟨hnd.2,fun E hE=>?_⟩⟩⟩;have h1:=hm.2 E (Ii _ hE);refine ⟨h1.1,?_⟩;have hne:D≠E:=fun e=>hnd.1 (e ▸ hE)
  rw [←h1.2];simp [World.putObj,hne]
attribute [local go_sem] Oper.semAt_some
def uI (l:List CZ) (k:Nat) (w:World) (e:Ending) (w':World):Prop:=∃ v fs,e=.returned (.tuple #[v,.int .i64 k,.int .i64 0])∧Kw w w' v fs∧cons fs=l
def rowLen:Value→Nat
 |.slice _ m _=>m
 |_=>0
theorem aG (Iw:Nat):∀ (f n:Nat),RN Iw f n≤f
 |0,_=>Ci _
 |f+1,n=>by
  rw [RN];split
  ·omega
  ·have:=aG Iw f ((n+Iw - 1) / Iw);omega
structure PIn (Iw:Nat) (w0:World) (N:Nat) (R:List (List CZ)) (wr:World) (m k c:Nat) (A:Option Addr) (rs:List (Row Br)) (ds:List Nat):Prop where
 good:TZ wr ⟨A,m,c,rs⟩
 Av:Ai w0 wr
 cnt:k+QM Iw m=QM Iw N
 kN:k≤1000000
 srt:BK (Gi rs).flatten=BK R.flatten
 mks:zH w0.heap.size wr ds
theorem Kw.put {w0 w:World} {v:Value} {fs:List Br} (h:Kw w0 w v fs) {D:Nat} (hD:w0.heap.size≤D) (hK:w.heap[D]?=some (.deferred (some []))):Kw w0 (w.putObj D (.deferred none)) v fs:=by
 have hg:=grownBy_putObj' w D (.deferred none);have hr:∀ r,some D=some r→∃ o:Obj,w.heap[r]?=some o∧o.isCells=false:=fun r e=>by injection e with e;subst e;exact ⟨_,hK,rfl⟩
 have hck:Ck w (w.putObj D (.deferred none)):=⟨hg.size,fun p u hp=>cell_kept hp hg hr⟩;refine ⟨Below.trans h.Av (belowK_b (w:=w0) (Ci _) w D _ _ hD hK rfl rfl),?_,fun f hf=>Aj1 (h.ok f hf) hck,h.away,h.new⟩;have hq:=ownsRow_putObj h.own (.deferred none) hK rfl;exact hq
theorem Zf8 {p:Prop} (h:p:=by
 refine AllReadyIn.cons rfl (fun K hK=>?_) AllReadyIn.nil;go_simp;refine hK _ _ ?_;clear hK K;refine wpAnyIn_ready (rs:=[4]) Za0 uH ?_;refine AllReadyIn.cons rfl (fun K hK=>?_) AllReadyIn.nil;refine FT rfl (.tmp 21) (.tmp 24) _ rfl _ _ rfl rfl Xp.Ab ?_;refine hK _ _ ?_;clear hK K;refine wpAnyIn_ready (rs:=[5]) Za0 uH ?_;refine AllReadyIn.cons rfl (fun K hK=>?_) AllReadyIn.nil;go_simp;refine hK _ _ ?_;clear hK K;refine wpAnyIn_done Za0 ?_ _;obtain ⟨k1,k2,k3,k4,k5⟩:=KU hne1 hne2 Xl hP hW0 (show Ai wr W from hB) Sa TQ hyl hP3 Li hg4 Xc MU;refine ⟨k1,k2,⟨_,rs++[⟨yA,yn,yc,yl⟩],k3,?_,?_⟩,k4,k5⟩
 ·show _=_;rw [Cf,Cf,hcon.Ab];have e1:cons yl=BK (Gi xl).flatten:=by have h1:yl=fs:=hyl;rw [h1];exact Gm
  simp only [En,EX,e1]
 ·intro r hr;rcases Ec.1 hr with h|h
  ·exact hrn r h
  ·rw [Ef] at h;subst h;have h1:=CW List.length Gm;rw [AR,FD] at h1;have h2:=Hxo.t;simp only at h1 h2 hyn ⊢;omega
):p:=h
theorem Zw2 {p:Prop} (h:p:=by have h1:=CW List.length Gm;rw [AR,FD] at h1;have h2:=Hxo.t;simp only at h1 h2;omega):p:=h
theorem Zk1 {p:Prop} (h:p:=by go_simp;refine hK _ _ ?_;clear hK K;refine wpAnyIn_ready (rs:=[2]) Za0 uH ?_;refine AllReadyIn.cons rfl (fun K hK=>?_) AllReadyIn.nil;go_simp;refine ⟨trivial,?_⟩;refine (CallsIn.inRound lp (OW.2 (WU _ ⟨xA,xn,xc,xl⟩ Hxo.ok Hxo.n (by have:=Hxo.t;omega) Hxo.s))).mono ?_;rintro e w2 ⟨cv,fs,rfl,Sa,Gm⟩;obtain ⟨⟨yA,yn,yc,yl⟩,rfl,TQ,hyl,hyn⟩:=NZ Sa Zw2;have hP2:=hPd.keep Sa.Av;have hP3:=hP2.keep ((Ai.refl w2).alloc (.cells #[.slice yA yn yc] 54));have hc2:=hP2.box.cell;have hc3:=hP3.box.cell;obtain ⟨v',w4,hrun,Li,hg4,Xc⟩:=Gj (P:=prog) (w2.alloc (.cells #[.slice yA yn yc] 54)) W0.heap.size 184 184 54 i0 (.slice none 0 0) 1 24 underlying184 Hi0 Hz0 Hz1 Hz2 rfl Za1 v rs.length (rs.map Row.v) hP3.own _ (some ⟨w2.heap.size,0,none⟩) 1 1 [.slice yA yn yc] (Ik w2 _ _ 1 1 rfl) Za2 Zf1 Zf5 Zf0;obtain ⟨g',cap',rfl⟩:=ownsRow_succ Li;have MU:=hP3.box.kept hg4 (hP3.box.not_row Za1 hP3.own);have hc4:=MU.cell;have hf4:=MU.frozen;have Xp:=Aa hrun;clear hrun;simp only [Row.v];refine hK _ _ ?_;clear hK K;refine wpAnyIn_ready (rs:=[3]) Za0 uH ?_;exact Zf8):p:=h
theorem Q5 (n:Nat) (hn:4≤n) (Iw:Nat) (x:Row (Row Br)) (w:World) (hx:TZ w x) (hf:2≤Iw) (hf2:Iw≤9223372036854775807):
 CallsIn Fence.wide n prog 107 #[.int .i64 Iw,.slice x.A x.n x.c] w (uI (BK (Gi x.l).flatten) (QM Iw x.n) w):=by
 have h1:1≤n:=by omega
 have d:decide ((Iw:Int)<2)=false:=by simp<;>omega
 refine callsIn_of_wp_marks func107 rfl trivial ?_ rfl;simp only [ntmps107,Tv,Eo,Ot,Nat.reduceAdd,Nat.reduceSub,TB,TD,Tu,Tz,FC,KZ];obtain ⟨XA,XN,XC,XL⟩:=x;simp only at *;obtain ⟨R,hR⟩:∃ R,R=Gi XL:=⟨_,rfl⟩;rw [←hR];have HI0:Hid (PIn Iw w XN R w XN 0 XC XA XL []):=⟨hx,Ai.refl _,Xl,Xl,by rw [hR],⟨List.nodup_nil,fun D hD=>by cases hD⟩⟩;have hXN:XN≤5000:=hx.n;clear hx hR
 gi_wp2_with fail
 refine wpIn_loop (fun a wr=>∃ (m k c:Nat) (A:Option Addr) (rs:List (Row Br)) (ds:List Nat) (u8 u12 u13 u14 u15 u16 u17 u18 u19 u26:Value),a={ tmps:=#[.int .i64 Iw,.slice A m c,undef,undef,.slice none 0 0,.int .i64 0,.int .i64 0,.int .i64 k,u8,undef,.int .i64 Iw,.bool false,u12,u13,u14,u15,u16,u17,u18,u19,undef,undef,undef,undef,undef,undef,u26,undef,undef,undef,undef,undef,undef,undef,undef,undef],defers:=marks ds }∧Hid (PIn Iw w XN R wr m k c A rs ds)) (fun a _=>rowLen (a.tmps.getD 1 undef)) ?_ ?_
 ·exact ⟨XN,0,XC,XA,XL,[],undef,undef,undef,undef,undef,undef,undef,undef,undef,undef,rfl,HI0⟩
 clear HI0;rintro a wr ⟨m,k,c,A,rs,ds,u8,u12,u13,u14,u15,u16,u17,u18,u19,u26,rfl,HI⟩;by_cases hm:1<m
 ·have d1:decide ((1:Int)<m)=true:=by simp<;>omega
  have hlen:rs.length=m:=HI.good.ok.len;have hm1000:m≤5000:=HI.good.n;obtain ⟨b,o,hA⟩:∃ b o,A=some ⟨b,o,none⟩:=by
   obtain ⟨b,o,_,e,_⟩:=iB HI.good.ok.rd (k:=0) (by show 0<m;omega);exact ⟨b,o,e⟩
  subst hA;have Hl:=Aa hlen;clear hlen
  gi_wp2_with fail
  refine ⟨trivial,?_⟩;refine (Aa4 (n - 1) _ _ _ Iw Xl _).mono ?_;rintro e w' ⟨rfl,rfl⟩
  gi_wp2
  have bO:=((Boxed.new wr 184 (.slice none 0 0)).alloc (.cells #[.slice (some ⟨b,o,none⟩) m c] 184)).alloc (.cells #[.int .i64 Iw] 3);have bS:=(Boxed.new (wr.alloc (.cells #[.slice none 0 0] 184)) 184 (.slice (some ⟨b,o,none⟩) m c)).alloc (.cells #[.int .i64 Iw] 3);have bN:=Boxed.new ((wr.alloc (.cells #[.slice none 0 0] 184)).alloc (.cells #[.slice (some ⟨b,o,none⟩) m c] 184)) 3 (.int .i64 Iw);rw [Gf,Gf] at bN;rw [Gf] at bS;have hB0:Ai wr (((wr.alloc (.cells #[.slice none 0 0] 184)).alloc (.cells #[.slice (some ⟨b,o,none⟩) m c] 184)).alloc (.cells #[.int .i64 Iw] 3)):=(((Ai.refl wr).alloc _).alloc _).alloc _;have hsz:(((wr.alloc (.cells #[.slice none 0 0] 184)).alloc (.cells #[.slice (some ⟨b,o,none⟩) m c] 184)).alloc (.cells #[.int .i64 Iw] 3)).heap.size=wr.heap.size+3:=by simp
  generalize ((wr.alloc (.cells #[.slice none 0 0] 184)).alloc (.cells #[.slice (some ⟨b,o,none⟩) m c] 184)).alloc (.cells #[.int .i64 Iw] 3)=W0 at *;have HsO:=Aa bO;obtain ⟨i0,hi0,hz0,hz1,hz2⟩:=info_parts WW;have Hi0:=Aa hi0;have Hz0:=Aa hz0;have Hz1:=Aa hz1;have Hz2:=Aa hz2;clear hi0 hz0 hz1 hz2;have P0:Parts W0 W0 wr.heap.size (.slice none 0 0) []:=⟨bO,⟨rfl,.inl ⟨rfl,rfl⟩⟩,uH,uH,uH⟩;have hne1:wr.heap.size+1<W0.heap.size:=by omega
  have hne2:wr.heap.size+1+1<W0.heap.size:=by omega
  have Hsz:=Aa hsz;clear hsz bO;refine wpIn_rangeFunc_ownG rfl h1 (gf:=182) (lb:=#[.pointer (some ⟨wr.heap.size+1,0,none⟩),.pointer (some ⟨wr.heap.size+1+1,0,none⟩)]) rfl trivial (enters_of func182 Za0 rfl)
   (mG (n - 1) Xl (wr.heap.size+1) (wr.heap.size+1+1) b o c m Iw rs wr W0 HI.good Xl hf2 hne1 hne2 bS.cell bN.cell) LK.trans (fun W l o o' hl _ _ _=>Qm Xl Xl) (Below.refl _ _) (fun _=>rfl)
   (fun pre W=>(∃ v rs',Parts W0 W wr.heap.size v rs'∧Hid (rs'.map (fun r=>cons r.l)=pre.map (fun x=>BK (Gi x.1.l).flatten))∧Hid (∀ r ∈ rs',r.n≤5000))∧Below wr.heap.size wr W∧W0.heap.size≤W.heap.size)
   (fun _ _ _=>False)
   (fun s A B row hs hg hr=>by
    obtain ⟨⟨v,rs',h1,h2,h3⟩,h4,h5⟩:=hs;exact ⟨⟨v,rs',h1.kept hg (fun r e=>(hr r e).2),h2,h3⟩,h4.grown hg h4.size (fun k e=>IA Xl (hr k e).1),IA h5 hg.size⟩)
   (fun _ _ _ _ _ hs _ _=>hs)
   ⟨⟨_,[],P0,rfl,fun r h=>by simp at h⟩,hB0,Ci _⟩
   (fun x=>{ tmps:=#[.int .i64 Iw,.slice (some ⟨b,o,none⟩) m c,undef,undef,.slice none 0 0,.int .i64 0,.int .i64 0,.int .i64 k,.pointer (some ⟨wr.heap.size,0,none⟩),x.1.v,.int .i64 Iw,.bool false,.slice (some ⟨b,o,none⟩) m c,.int .i64 m,.bool true,u15,u16,.slice (some ⟨b,o,none⟩) m c,.int .i64 Iw,.func (.func 182) #[] #[.pointer (some ⟨wr.heap.size+1,0,none⟩),.pointer (some ⟨wr.heap.size+1+1,0,none⟩)],x.1.v,undef,undef,undef,undef,undef,u26,undef,undef,undef,undef,undef,undef,undef,undef,undef],defers:=[] }) ?assign ?body ?done ?stop
  case assign=>
   intro l x W K hK
   gi_wp2
   exact hK
  case body=>
   rintro lp pre x W ⟨⟨v,rs,hP,hcon,hrn⟩,hB,hW0⟩ hlt;obtain ⟨⟨xA,xn,xc,xl⟩,hxo⟩:=x;simp only [Row.v] at *;have hd:1≤n - 1 - 1:=by omega
   have hmx:prog.follows .mixedOrders=true:=by kernel_rfl
   have hc:=hP.box.cell;have hBw:Ai wr W.drew:=(show Ai wr W from hB).drew;have Hxo:Hid (TZ W.drew ⟨xA,xn,xc,xl⟩):=⟨hxo.ok.mono hBw,hxo.n,hxo.s,hxo.t⟩;have hlen:rs.length=pre.length:=by have:=CW List.length hcon.Ab;simpa using this
   have hpl:pre.length≤5000:=by have:=Hl.Ab;omega
   have Hlen:=Aa hlen;clear hlen;have hPd:Parts W0 W.drew wr.heap.size v rs:=hP.keep (Ai.refl W).drew
   gi_wp2
   refine wpIn_region_any Za0 ?_;refine wpAnyIn_ready (rs:=[0,1]) Za0 uH ?_;refine AllReadyIn.cons rfl (fun K hK=>?_) (AllReadyIn.cons rfl (fun K hK=>?_) AllReadyIn.nil)
   ·go_simp;refine hK _ _ ?_;clear hK K;refine wpAnyIn_ready (rs:=[1]) Za0 uH ?_;refine AllReadyIn.cons rfl (fun K hK=>?_) AllReadyIn.nil;exact Zk1
   ·go_simp;refine hK _ _ ?_;clear hK K;refine wpAnyIn_ready (rs:=[0,2]) Za0 uH ?_;refine AllReadyIn.cons rfl (fun K hK=>?_) (AllReadyIn.cons rfl (fun K hK=>?_) AllReadyIn.nil)
    ·exact Zk1
    ·skip;go_simp;refine ⟨trivial,?_⟩;refine (CallsIn.inRound lp (OW.2 (WU _ ⟨xA,xn,xc,xl⟩ Hxo.ok Hxo.n (by have:=Hxo.t;omega) Hxo.s))).mono ?_;rintro e w2 ⟨cv,fs,rfl,Sa,Gm⟩;obtain ⟨⟨yA,yn,yc,yl⟩,rfl,TQ,hyl,hyn⟩:=NZ Sa Zw2;have hP2:=hPd.keep Sa.Av;have hP3:=hP2.keep ((Ai.refl w2).alloc (.cells #[.slice yA yn yc] 54));have hc2:=hP2.box.cell;have hc3:=hP3.box.cell;obtain ⟨v',w4,hrun,Li,hg4,Xc⟩:=Gj (P:=prog) (w2.alloc (.cells #[.slice yA yn yc] 54)) W0.heap.size 184 184 54 i0 (.slice none 0 0) 1 24 underlying184 Hi0 Hz0 Hz1 Hz2 rfl Za1 v rs.length (rs.map Row.v) hP3.own _ (some ⟨w2.heap.size,0,none⟩) 1 1 [.slice yA yn yc] (Ik w2 _ _ 1 1 rfl) Za2 Zf1 Zf5 Zf0;obtain ⟨g',cap',rfl⟩:=ownsRow_succ Li;have MU:=hP3.box.kept hg4 (hP3.box.not_row Za1 hP3.own);have hc4:=MU.cell;have hf4:=MU.frozen;have Xp:=Aa hrun;clear hrun;simp only [Row.v];refine hK _ _ ?_;clear hK K;refine wpAnyIn_ready (rs:=[0,3]) Za0 uH ?_;refine AllReadyIn.cons rfl (fun K hK=>?_) (AllReadyIn.cons rfl (fun K hK=>?_) AllReadyIn.nil)
     ·go_simp;refine hK _ _ ?_;clear hK K;refine wpAnyIn_ready (rs:=[3]) Za0 uH ?_;exact Zf8
     ·go_simp;refine hK _ _ ?_;clear hK K;refine wpAnyIn_ready (rs:=[0]) Za0 uH ?_;exact Zf8
  case done=>
   rintro D ys W hD ⟨K,hk1,hk2,rfl⟩ ⟨⟨v,rs',hP,hcon,hrn⟩,hB,hW0⟩ hK;have hstep:=xB hf hm (K:=K) (by rw [←Hl.Ab];exact hk1) (by rw [←Hl.Ab];exact hk2);have HST:=Aa hstep;have hrl:Gi rs'=upto (fun j=>BK (((Gi rs).drop (j * Iw)).take Iw).flatten) K:=by
    have h:=hcon.Ab;rw [nT] at h;show rs'.map (fun r=>cons r.l)=_;rw [h]
    congr 1
    funext j
    show BK (Gi ((rs.drop (j * Iw)).take Iw)).flatten=_;rw [Uj]
   have hKl:rs'.length=K:=by have h:=CW List.length hrl;rw [CQ,KJ] at h;exact h
   obtain ⟨A',c',rfl,hle⟩:=Ao hP.own;have hRK:(Gi rs).length≤K * Iw:=by rw [CQ];exact hk1
   have HNew:Hid (PIn Iw w XN R W K (k+1) c' A' rs' (D::ds)):=by
    refine ⟨⟨SG (x:=⟨A',K,c',rs'⟩) (by rw [Md];have h:=hP.own;rw [hKl] at h;exact h) (fun r hr=>hP.ok r hr) (by show K * 24≤_;omega),by show K≤5000;omega,fun r hr=>?_,?_⟩,Below.trans HI.Av (hB.mono HI.Av.size),?_,?_,?_,?_,?_⟩
    ·have hr:r ∈ Gi rs':=hr;rw [hrl] at hr;obtain ⟨j,_,rfl⟩:=Kc.1 hr;exact Vp _
    ·show (Gi rs').flatten.length≤5000;rw [hrl,yO _ _ _ hRK];exact HI.good.t
    ·have:=HI.cnt;omega
    ·have:=HI.cnt;have h2:QM Iw XN≤XN:=aG Iw XN XN;show k+1≤1000000;omega
    ·rw [hrl,tH _ _ _ hRK];exact HI.srt
    ·refine WA.2 ⟨fun hm2=>?_,HI.mks.1⟩;have h:=(Zj.1 (HI.mks.2 D hm2).2).1;omega
    ·intro E hE;rcases FJ.1 hE with rfl|hE
     ·exact ⟨by have:=HI.Av.size;omega,hK⟩
     ·have h:=HI.mks.2 E hE;exact ⟨h.1,by rw [←h.2];exact hB.block E (Zj.1 h.2).1⟩
   have hc:=hP.box.cell;rw [hKl] at hc;have hkk:k≤5000:=by have:=HI.cnt;have h2:QM Iw XN≤XN:=aG Iw XN XN;omega
   clear hrl hcon hrn hP hk1 hk2 hstep hRK hle hKl
   gi_wp2
   exact ⟨⟨K,k+1,c',A',rs',D::ds,_,_,_,_,_,_,_,_,_,_,by first|rfl|(simp [marks];done),HNew⟩,by show K<m;exact HST.2⟩
  case stop=>
   rintro D c pre W _ _ h _;exact h.elim
 ·have d1:decide ((1:Int)<m)=false:=by simp<;>omega
  have hcnt:k=QM Iw XN:=by have h:=HI.cnt;rw [qB Xl] at h;omega
  have HCn:=Aa hcnt;clear hcnt;by_cases hm0:m=0
  ·subst hm0;have hrs:rs=[]:=LD HI.good.ok.len;have HE:Hid (cons []=BK R.flatten):=by show _=_;rw [←HI.srt,hrs];(try rfl)
   clear hrs
   gi_wp2
   refine XR (base:=w.heap.size) (I:=fun w'=>Kw w w' (.slice none 0 0) []) (fun w' D h h1 h2=>h.put h1 h2) (fun w' h=>?_) ds wr ⟨HI.Av,Tw _ _ _ _,uH,uH,uH⟩ HI.mks;refine ⟨.tuple #[.slice none 0 0,.int .i64 k,.int .i64 0],by kernel_rfl,.slice none 0 0,[],by rw [HCn.Ab],h,HE.Ab⟩
  ·obtain rfl:m=1:=by omega
   obtain ⟨b,o,r,hA,hr,q1⟩:=Oz rfl HI.good.ok.rd (k:=0) (by show 0<1;omega);simp only at hA;subst hA;have q1:=q1 _ rfl;rw [Kb] at q1;have hl1:rs.length=1:=HI.good.ok.len;have hrs:rs=[r]:=by
    match rs,hl1,hr with
    |[z],_,h=>injection h with h;rw [h]
   have hsr:BK (cons r.l)=cons r.l:=J6 (HI.good.s _ (by rw [hrs];exact Ef.2 rfl));have HE:Hid (cons r.l=BK R.flatten):=by
    show _=_;rw [←HI.srt,hrs];show cons r.l=BK ([cons r.l].flatten);rw [List.flatten_singleton,hsr]
   have hrok:r.ok wr:=HI.good.ok.all r (by rw [hrs];exact Ef.2 rfl);have hrn:r.n≤5000:=by
    have h:=HI.good.t;rw [hrs] at h;have h:([cons r.l].flatten).length≤5000:=h;rw [List.flatten_singleton,AR,hrok.len] at h;exact h
   have HCl:=Aa (KV r wr hrok Xl);clear hrs hl1 hsr hrok hr;obtain ⟨RA,rn,rc,rl⟩:=r;simp only [Row.v] at *
   gi_wp2_with fail
   refine ⟨trivial,?_⟩;refine (OW.2 HCl.Ab).mono ?_;rintro e w2 ⟨v,fs,rfl,hG,hc⟩;have HG:=Aa (hG.from_ HI.Av);have HM:Hid (zH w.heap.size w2 ds):=⟨HI.mks.1,fun D hD=>⟨(HI.mks.2 D hD).1,by rw [←(HI.mks.2 D hD).2];exact hG.Av.block D (Zj.1 (HI.mks.2 D hD).2).1⟩⟩;have HE2:Hid (cons fs=BK R.flatten):=by show _=_;rw [hc];exact HE.Ab
   clear hG hc
   gi_wp2
   refine XR (base:=w.heap.size) (I:=fun w'=>Kw w w' v fs) (fun w' D h h1 h2=>h.put h1 h2) (fun w' h=>?_) ds w2 HG HM.Ab;refine ⟨.tuple #[v,.int .i64 k,.int .i64 0],by kernel_rfl,v,fs,by rw [HCn.Ab],h,HE2.Ab⟩
end Go.Proofs.YtijplolmkcdflaaGreat
namespace Go.Proofs.YtijplolmkcdflaaGreat
open Tryz
open Go.RowKit
theorem wZ (Iw:Nat) (x:Row (Row Br)) (w:World) (hx:TZ w x) (hf:2≤Iw) (hf2:Iw≤9223372036854775807):
 Calls prog 107 #[.int .i64 Iw,.slice x.A x.n x.c] w (uI (BK (Gi x.l).flatten) (QM Iw x.n) w):=OW.1 (Q5 4 (Ci _) Iw x w hx hf hf2)
theorem Jz.good {w0 w:World} {v:Value} {rs:List (Row Br)} {l:List CZ} {m K:Nat} (h:Jz w0 w v rs) (hr:rs.map (fun r=>cons r.l)=upto (fun j=>BK ((l.drop (j * m)).take m)) K) (h1:l.length≤K * m) (h2:K=0∨(K - 1) * m<l.length) (hm:1≤m) (hl:l.length≤5000):
 ∃ x:Row (Row Br),v=.slice x.A x.n x.c∧TZ w x∧BK (Gi x.l).flatten=BK l:=by
 obtain ⟨A,c,rfl,hc⟩:=Ao h.own;have hK:rs.length=K:=by have h:=CW List.length hr;rw [CQ,KJ] at h;exact h
 have hK2:K≤5000:=by
  rcases h2 with rfl|h2
  ·omega
  ·have:(K - 1) * 1≤(K - 1) * m:=Nat.mul_le_mul_left _ hm;omega
 have e1:Gi rs=(upto (fun j=>(l.drop (j * m)).take m) K).map BK:=by show rs.map (fun r=>cons r.l)=_;rw [hr];simp [upto,Ri,jZ]
 refine ⟨⟨A,rs.length,c,rs⟩,rfl,⟨SG (x:=⟨A,rs.length,c,rs⟩) (by rw [Md];exact h.own) (fun r hr=>(h.all r hr).1) (by show rs.length * 24≤_;omega),by show rs.length≤_;omega,fun r hr=>?_,?_⟩,?_⟩
 ·have hr:r ∈ Gi rs:=hr;rw [e1] at hr;obtain ⟨j,_,rfl⟩:=Kc.1 hr;exact Vp _
 ·show (Gi rs).flatten.length≤5000;rw [e1,TR,OL,FK];omega
 ·show BK (Gi rs).flatten=_;rw [e1,Zz,OL,EU h1]
def Ao8 (l:List CZ) (w:World) (e:Ending) (w':World):Prop:=∃ v fs,e=.returned (.tuple #[v,.int .i64 0])∧Kw w w' v fs∧cons fs=BK l
theorem V6 (m Iw:Nat) (hm1:1≤m) (hm2:m≤9223372036854775807) (hf:2≤Iw) (hf2:Iw≤9223372036854775807) (x:Row Br) (w:World) (hx:x.ok w) (hn:x.n≤5000):
 Calls prog 67 #[.int .i64 m,.int .i64 Iw,.slice x.A x.n x.c] w (Ao8 (cons x.l) w):=by
 have HR:=Aa (Ae1 m hm1 hm2 x w hx hn);have hxl:=hx.len;have HL:Hid ((cons x.l).length≤5000):=by show _≤_;rw [AR];omega
 have PM:Hid (x.l.length=(cons x.l).length):=(AR _).symm;have HCD:Hid (∀ j,cons ((x.l.drop (j * m)).take m)=((cons x.l).drop (j * m)).take m):=fun j=>by rw [PH,Me]
 generalize cons x.l=l at *;obtain ⟨A,n,c,xl⟩:=x;simp only [Row.v] at *;clear hx;go_enter func67,ntmps67;go_wp2_with fail;refine HR.mono ?_;rintro e w1 ⟨K,v,rs,h1,h2,rfl,hat,hrs⟩;obtain ⟨X,rfl,hg,hs⟩:=hat.good (l:=l) (m:=m) (K:=K) (by rw [hrs];congr 1;funext j;rw [HCD.Ab]) (by rw [←PM.Ab];exact h1) (by rw [←PM.Ab];exact h2) hm1 HL.Ab;have HB:=Aa hat.Av;have HP:=Aa (wZ Iw X w1 hg hf hf2);rw [hs] at HP;obtain ⟨XA,XN,XC,XL⟩:=X;simp only at *;clear hat hrs h1 h2 hg hs HR;go_wp2_with fail;refine HP.mono ?_;rintro e w2 ⟨v,fs,rfl,hG,hc⟩;have HG:=Aa (hG.from_ HB.Ab);have HC:=Aa hc;clear hG hc HP;go_wp2;go_ret2;exact ⟨v,fs,rfl,HG.Ab,HC.Ab⟩
theorem jD {X:List Br} {k:Nat} {f:Br} (h:X[k]?=some f) (acc:List CZ):EF acc (cons (X.drop k))=match GN acc f.Ac with|none=>none|some a=>EF a (cons (X.drop (k+1))):=by
 obtain ⟨h1,rfl⟩:=CB.1 h;rw [Eh h1]
 rfl
theorem gI (c:CZ):GN [] c=some [c]:=rfl
theorem aX {L:List Br} {m:Nat} {p:Br} (hl:L.length=m+1) (hp:L[m]?=some p):(cons L).getLast?=some p.Ac:=by
 rw [List.getLast?_eq_getElem?,AR,hl];show (L.map Br.Ac)[m]?=_;rw [Ee,hp]
 rfl
theorem gJ {L:List Br} {m:Nat} {p f:Br} (hl:L.length=m+1) (hp:L[m]?=some p) (h:Dn p.ks.l f.ks.l≠0):GN (cons L) f.Ac=some (cons (L++[f])):=by
 unfold GN;rw [aX hl hp];simp only;rw [Ak (show ¬ Dn p.Ac.1 f.Ac.1=0 from h)];simp [cons]
theorem Zw {L:List Br} {m:Nat} {p f:Br} (hl:L.length=m+1) (hp:L[m]?=some p) (h:Dn p.ks.l f.ks.l=0) (hj:(p.ag.join f.ag).2=false):GN (cons L) f.Ac=none:=by
 unfold GN;rw [aX hl hp];simp only;rw [Al (show Dn p.Ac.1 f.Ac.1=0 from h),Ak];show ¬ (p.ag.join f.ag).2=true;rw [hj];simp
theorem Ad5 {α:Type} {L:List α} {m:Nat} (hl:L.length=m+1) (y:α):L.set m y=L.dropLast++[y]:=by
 apply YZ;intro j;by_cases hj:j=m
 ·subst hj;rw [NK Xl,Rf (by rw [Zd];omega),Zd,hl];simp
 ·rw [Ou (fun e=>hj e.symm)];by_cases hlt:j<m
  ·rw [QH (by rw [Zd];omega),List.getElem?_dropLast,Al Xl]
  ·rw [Jj Xl,Jj (by rw [Cn,Zd];simp;omega)]
theorem Zx {L:List Br} {m:Nat} {p f:Br} (hl:L.length=m+1) (hp:L[m]?=some p) (h:Dn p.ks.l f.ks.l=0) (hj:(p.ag.join f.ag).2=true):GN (cons L) f.Ac=some (cons (L.set m ⟨p.ks,(p.ag.join f.ag).1⟩)):=by
 unfold GN;rw [aX hl hp];simp only;rw [Al (show Dn p.Ac.1 f.Ac.1=0 from h),Al (show (p.Ac.2.join f.Ac.2).2=true from hj)];rw [Ad5 hl];simp only [cons,Cf,En,EX,List.map_dropLast]
 rfl
theorem yE {l:List Br} {k:Nat} {p:Br} (hp:l[k]?=some p) (a:Ag) (j:Nat):
 ((l.set k ⟨p.ks,a⟩).flatMap AY.cells)[j]?=if k * 11+1≤j∧j<k * 11+1+10 then a.cs.toList[j - (k * 11+1)]? else (l.flatMap AY.cells)[j]?:=by
 have hk:=(CB.1 hp).1;rw [sI l k ⟨p.ks,a⟩ hk j];show (if k * 11≤j∧j<k * 11+11 then (AY.cells (⟨p.ks,a⟩:Br))[j - k * 11]? else _)=_;by_cases h1:k * 11+1≤j∧j<k * 11+1+10
 ·rw [Al Xl,Al h1];obtain ⟨i,rfl⟩:∃ i,j=k * 11+1+i:=⟨j - (k * 11+1),Xl⟩;rw [show k * 11+1+i - k * 11=i+1 by omega,show k * 11+1+i - (k * 11+1)=i by omega]
  rfl
 ·rw [Ak h1];by_cases h2:j=k * 11
  ·subst h2;rw [Al Xl,PU];have:=NG l k 0 p hp (by show 0<11;omega);rw [Kb] at this;have h3:(l.flatMap AY.cells)[k * 11]?=(AY.cells p)[0]?:=this;rw [h3]
   rfl
  ·rw [Ak Xl]
theorem Q6 {w:World} {base:Nat} {e:TypeId} {g n c:Nat} {l:List Br} (h:w.ownsRow base e 11 (.slice (some ⟨g,0,none⟩) n c) n (l.flatMap AY.cells)) {k:Nat} {p:Br} (hp:l[k]?=some p) (a:Ag):
 (w.setCells g (k * 11+1) a.cs.toList).ownsRow base e 11 (.slice (some ⟨g,0,none⟩) n c) n ((l.set k ⟨p.ks,a⟩).flatMap AY.cells):=by
 have hl:l.length=n:=Il (α:=Br) (Rd.BC h);have hk:=(CB.1 hp).1;refine ⟨by rw [Fu,Rn,hl];(try rfl),?_⟩;rcases h.2 with ⟨h0,_⟩|⟨g',cap,cur,hv,hb,hh,hn,hm,hs,ht⟩
 ·cases h0
 ·injection hv with h1 h2 h3;injection h1 with h1;injection h1 with h1;subst h1 h3;refine .inr ⟨g,c,Eb cur (k * 11+1) a.cs.toList,rfl,hb,Bh.Eb a.cs.toList (k * 11+1) hh,hn,hm,by rw [Ow];exact hs,?_⟩;apply YZ;intro j;rw [yE hp a j];have ha:a.cs.toList.length=10:=rfl;have hns:n * 11≤cur.size:=by rw [hs];exact QF _ hn
  by_cases hj:j<n * 11
  ·rw [Jk hj,Zg,Qe _ _ _ _ Xl,ha];have h4:(l.flatMap AY.cells)[j]?=cur[j]?:=by rw [←ht,Jk hj,Zg]
   rw [h4]
  ·rw [Jj Zb7,Ak Xl,Jj (by rw [Fu,hl];show n * 11≤j;omega)]
theorem qD {w:World} {base:Nat} {e:TypeId} {g n c:Nat} {l:List Br} (h:w.ownsRow base e 11 (.slice (some ⟨g,0,none⟩) n c) n (l.flatMap AY.cells)) {k:Nat} (hk:k<n):w.there g (k * 11+1) 10:=by
 have:=SF (α:=Br) h hk;intro j hj;have h2:=this (1+j) (by show 1+j<11;omega);have h3:k * AY.size Br+(1+j)=k * 11+1+j:=by show k * 11+(1+j)=_;omega
 rw [h3] at h2;exact h2
theorem Zo {P:Program} {ops:Array Oper} {rest:List Oper} {op:Oper} {a:Act} {w:World} {Q:Exit→Act→World→Prop} (hgd:op.guard=none) {ty:TypeId} (R:Es P ty 10) (x y:Operand) (ho:op.op=.store ty x y)
 {base:Nat} {e:TypeId} {g n c:Nat} {l:List Br} (k:Nat) (hx:a.eval x=.pointer (some ⟨g,k * 11+1,none⟩)) (h:w.ownsRow base e 11 (.slice (some ⟨g,0,none⟩) n c) n (l.flatMap AY.cells)) {p:Br} (hp:l[k]?=some p) (ag:Ag) (hy:a.eval y=.agg ag.cs)
 (hn:∀ w',w'.ownsRow base e 11 (.slice (some ⟨g,0,none⟩) n c) n ((l.set k ⟨p.ks,ag⟩).flatMap AY.cells)→w.grownBy w' (some g)→wpList P ops Q rest (a.put op.dst undef) w'):wpList P ops Q (op::rest) a w:=by
 have hk:k<n:=by have:=Il (α:=Br) (Rd.BC h);have:=(CB.1 hp).1;omega
 refine YY hgd ty x y ho g (k * 11+1) ag.cs hx hy (qD h hk) (by rw [R.hi];(try rfl)) (Iq ag) ?_;exact hn _ (Q6 h hp ag) (Dy w g _ _)
theorem FU {w:World} {base:Nat} {e:TypeId} {g n c:Nat} {l:List Br} (h:w.ownsRow base e 11 (.slice (some ⟨g,0,none⟩) n c) n (l.flatMap AY.cells)) {k:Nat} {p:Br} (hp:l[k]?=some p):w.rangeAt g (k * 11+1) p.ag.cs.toList:=fun j u hu=>by
 have:=(Gy (α:=Br) h hp).1 (1+j) u (by show (p.ks.v::p.ag.cs.toList)[1+j]?=_;rw [Oo,FR];exact hu);have h3:k * AY.size Br+(1+j)=k * 11+1+j:=by show k * 11+(1+j)=_;omega
 rw [h3] at this;exact this
theorem DV {P:Program} {w:World} {ops:Array Oper} {o:Oper} {a:Act} {K:Act→World→Prop} {Q:Exit→Act→World→Prop} {X:Prop} (hgd:o.guard=none) {ty:TypeId} {n:Nat} (R:Es P ty n) (x y:Operand) (ho:o.op=.store ty x y)
 (g:Nat) (hx:a.eval x=.pointer (some ⟨g,0,none⟩)) {t:TypeId} {cs:Array Value} (hb:Bh w g t cs) (hn:cs.size=n) (cs':Array Value) (hn':cs'.size=n) (hy:a.eval y=.agg cs') (h1:cs'.all (·.oneCell')=true)
 (h:∀ w',Bh w' g t cs'→w.grownBy w' (some g)→K (a.put o.dst undef) w'):if Region.wanted o (yielded ops a.tmps)=true then Oper.wp P o a w K Q else X:=by
 exact Zg8
def uT (l:List CZ) (w:World) (e:Ending) (w':World):Prop:=
 (Nc l=none∧e=.returned (.tuple #[.slice none 0 0,.int .i64 12])∧Ai w w')∨∃ r v fs,Nc l=some r∧e=.returned (.tuple #[v,.int .i64 0])∧Kw w w' v fs∧cons fs=r
theorem qF {w:World} {e:TypeId} {size n c:Nat} {A:Option Addr} {xs:List Value} (h:w.ownsRow 0 e size (.slice A n c) n xs) (hn:0<n):∃ g,A=some ⟨g,0,none⟩:=by
 exact Zv3
theorem Zi1 {p:Prop} (h:p:=by intro wq bq Aq;replace H:=Aa (H.AA 2 rfl Aq bq);(try simp only [LS] at H);clear Aq bq;refine Aj Ad trivial fun hHeld=>?_;clear Ad KK;refine BG Jw fun KK Ad=>?_;go_simp;refine Aj Ad trivial fun hHeld=>?_;clear Ad KK;refine BZ ?_;clear hHeld;go_wp2_with fail;go_meet;exact ⟨_,rfl,rfl,H⟩):p:=h
theorem Zs5 {p:Prop} (h:p:=by refine BG Jc fun KK Ad=>?_;refine DV rfl Dz (.tmp 8) (.tmp 44) rfl _ (by first|rfl|go_simp) (H.blk 2 rfl) rfl u.cs rfl (by first|rfl|go_simp) (Iq u) ?_;exact Zi1):p:=h
theorem Zg0 {p:Prop} (h:p:=by refine Aj Ad trivial fun hHeld=>?_;clear Ad KK;refine BG Mk fun KK Ad=>?_;go_simp;refine (HJ _).mono ?_;rintro e' w6 ⟨rfl,hb6⟩;replace H:=Aa (H.Av hb6);clear hb6;refine Aj Ad trivial fun hHeld=>?_;clear Ad KK;refine Bd MH ?_;refine Bd FO ?_;refine Bd Ga ?_;exact Zs5):p:=h
theorem Zl4 {p:Prop} (h:p:=by
 refine Aj Ad trivial fun hHeld=>?_;clear Ad KK;refine Oh Mk Hw (fun KK Ad=>?_) fun KK Ad=>?_
 ·go_simp;refine (HJ _).mono ?_;rintro e' w6 ⟨rfl,hb6⟩;replace H:=Aa (H.Av hb6);clear hb6;refine Aj Ad trivial fun hHeld=>?_;clear Ad KK;refine Bd MH ?_;refine Bd FO ?_;refine Bd Ga ?_;refine BG Hw fun KK Ad=>?_;go_simp;replace H:=Aa (H.alloc Ag.zero.cs 95);(try simp only [LS] at H);refine Aj Ad trivial fun hHeld=>?_;clear Ad KK;exact Zs5
 ·go_simp;replace H:=Aa (H.alloc Ag.zero.cs 95);(try simp only [LS] at H);exact Zg0
):p:=h
theorem Zl9 {p:Prop} (h:p:=by
 (try simp only [Act.put,LP]);replace H:=Aa (H.Fg [0] Za1 uH);(try simp only [LS] at H);have MG:out.flatMap AY.cells++f.cs.toList=(out++[f]).flatMap AY.cells:=by simp [AY.cells]
 rw [MG] at H;have vG:Hid ((out++[f]).length=m+1+1):=by show _=_;rw [Cn,HQ.Ab];(try rfl)
 have Tq:Hid (∀ z ∈ out++[f],z.ok w):=fun z hz=>(Ec.1 hz).elim (QU z) (fun h=>by rw [Ef] at h;subst h;exact QA.Ab)
 clear MG HQ QU;go_wp2_with fail;go_roundg (N - (k+1));case rel=>exact ⟨k+1,m+1+1,d2,B2,out++[f],rfl,Xl,Xl,rfl,by go_num,vG,HE2,Tq,H⟩
 case measure=>rw [Cs.Ab];omega
):p:=h
theorem Zm0 {p:Prop} (h:p:=by
 (try simp only [Act.put,LP]);replace H:=Aa (H.Fg [0] Za1 uH);(try simp only [LS] at H);have MG:out.flatMap AY.cells++f.cs.toList=(out++[f]).flatMap AY.cells:=by simp [AY.cells]
 rw [MG] at H;have vG:Hid ((out++[f]).length=q+1):=by show _=_;rw [Cn,HQ.Ab];(try rfl)
 have Tq:Hid (∀ z ∈ out++[f],z.ok w):=fun z hz=>(Ec.1 hz).elim (QU z) (fun h=>by rw [Ef] at h;subst h;exact QA.Ab)
 clear MG HQ QU;go_wp2_with fail;go_roundg (N - (k+1));case rel=>exact ⟨k+1,q+1,d2,B2,out++[f],rfl,Xl,Xl,rfl,by go_num,vG,HE2,Tq,H⟩
 case measure=>rw [Cs.Ab];omega
):p:=h
theorem Zn9 {p:Prop} (h:p:=by refine Aj Ad trivial fun hHeld=>?_;clear Ad KK;refine BG Lj fun KK Ad=>?_;refine Cw rfl Dz (.tmp 41) (by first|rfl|go_simp) _ 1 (by first|rfl|go_simp) f.ag.cs (by intro jj uu hu;have:=(H.blk 1 rfl).range (1+jj) uu (by show (f.ks.v::f.ag.cs.toList)[1+jj]?=_;rw [Oo,FR];exact hu);rwa [FI] at this) rfl ?_;exact Zg0):p:=h
theorem Zq4 {p:Prop} (h:p:=by refine Aj Ad trivial fun hHeld=>?_;clear Ad KK;refine BG KW fun KK Ad=>?_;refine Cw rfl Dz (.tmp 39) (by first|rfl|go_simp) g (m * 11+1) (by first|rfl|go_simp) p.ag.cs (FU (H.row 0 rfl) fT.Ab) rfl ?_;exact Zg0):p:=h
theorem Y7 (w:World) (x:Row Br) (hx:x.ok w) (hn:x.n≤1000000):
 Calls prog 68 #[.slice x.A x.n x.c] w (uT (cons x.l) w):=by
 have HX:=Aa hx;have hlen:Hid (x.l.length=x.n):=hx.len;obtain ⟨A0,N,c0,X⟩:=x;simp only at *;obtain ⟨O,hO⟩:∃ O,O=Nc (cons X):=⟨_,rfl⟩;have HPO:Hid (∀ e w',((O=none∧e=.returned (.tuple #[.slice none 0 0,.int .i64 12])∧Ai w w')∨∃ r v fs,O=some r∧e=.returned (.tuple #[v,.int .i64 0])∧Kw w w' v fs∧cons fs=r)→uT (cons X) w e w'):=fun e w' h=>by rw [hO] at h;exact h
 have HE:Hid (EF (cons []) (cons (X.drop 0))=O):=by show _=_;rw [hO];(try rfl)
 clear hO hx;have H:Hid (SL No w w [Ce 97 11 (.slice none 0 0) 0 (([]:List Br).flatMap AY.cells)]):=Aa ((SL.start No w).Dw 97 11);have QU:Hid (∀ f ∈ ([]:List Br),f.ok w):=fun f hf=>by cases hf
 go_enter func68,ntmps68;go_wp2_with fail;go_loopg [4,12] N (fun gg s4 s12 wr=>∃ (k q d:Nat) (B:Option Addr) (out:List Br),gg=N - k∧k≤N∧q≤k∧s4=.slice B q d∧s12=.int .i64 k∧Hid (out.length=q)∧Hid (EF (cons out) (cons (X.drop k))=O)∧Hid (∀ f ∈ out,f.ok w)∧Hid (SL No w wr [Ce 97 11 (.slice B q d) q (out.flatMap AY.cells)]));case atStart=>exact ⟨0,0,0,none,[],rfl,Xl,Xl,rfl,rfl,Aa rfl,HE,QU,H⟩
 case round=>
  clear H HE QU;obtain ⟨k,q,d,B,out,BR,hk,hqk,rfl,rfl,HQ,HE,QU,H⟩:=hrel;have Cs:=Aa BR;clear BR;by_cases hlt:k<N
  ·obtain ⟨fb,fo,f,hA,hfb,lU,hfok,_,hfr,_⟩:=(HX.mono H.to).Z7 hlt;simp only at hA;subst hA;have QA:Hid (f.ok w):=HX.all f (CU lU);have HR:=Aa hfr;have nQ:=Aa (jD lU (cons out));have i0:(0:Int)≤k:=by omega
   have i1:(k:Int)<N:=by omega
   clear lU hfok hfr;go_upto_region 5 with (first|((with_reducible refine OP 15 ?_);(refine Af rfl Bz (.tmp 14) rfl fb (fo+k * 11) rfl f.cs rfl HR.Ab ?_))|((with_reducible refine OS 6 ?_);(refine DX Bz (f.cs) (EA f) ?_;replace H:=Aa (H.alloc (f.cs) 97);(try simp only [LS] at H))));(try simp only [Act.put,LP]);clear hfb HR;generalize wr.heap.size=x at *;generalize World.alloc _ _=w1 at *;by_cases hq0:q=0
   ·have HQ0:=HQ.Ab;rw [hq0] at HQ0;have hout:out=[]:=LD HQ0;have HE2:Hid (EF (cons (out++[f])) (cons (X.drop (k+1)))=O):=by
     show _=_;have h:=nQ.Ab;rw [HE.Ab,hout,show cons ([]:List Br)=[] from rfl,gI] at h;rw [h,hout]
     rfl
    clear HE nQ;have e1:((q:Int)==0)=true:=by rw [hq0];(try rfl)
    clear HQ0 hq0 hout;go_upto_region 6 with fail;refine Am ?_;(try simp only [Act.put,LP]);repeat (go_big_quiet_step (fail))
    refine CS ?_;rintro w5 ⟨⟨_,Gd⟩,rfl⟩;(try dsimp only);replace H:=Aa (H.Av Gd);skip;go_upto_region 12 with (first|((with_reducible refine OP 31 ?_);(refine Bf Bz (H.blk 1 rfl) ?_))|((with_reducible refine OP 32 ?_);(refine AP rfl EI (.tmp 31) rfl (f.cs) rfl (FL f) Xl ?_;replace H:=Aa (H.Co ((Ai.refl _).alloc _) (Nz _ 97 (f.cs) 11 (FL f)));(try simp only [LS] at H)))|((with_reducible refine OP 33 ?_);(refine Az rfl (.tmp 30) (.tmp 32) _ rfl EI 0 (Bj _) _ _ _ rfl (H.row 0 rfl) _ 1 1 f.cs.toList rfl (Rd.BC (H.row 2 rfl)) (JG f) Za4 Xl ?_;intro vq wq AJ Aq AQ;replace H:=Aa (H.setRow 0 rfl Aq AJ AQ);(try simp only [LS] at H);clear AJ Aq AQ;obtain ⟨B2,d2,rfl,_⟩:=Ao (H.row 0 rfl))));exact Zm0
   ·obtain ⟨m,rfl⟩:∃ m,q=m+1:=⟨q - 1,Xl⟩;obtain ⟨g,rfl⟩:=qF (H.row 0 rfl) Xl;have hl:out.length=m+1:=HQ.Ab;obtain ⟨p,hp⟩:∃ p,out[m]?=some p:=⟨_,Fp Xl⟩;have fT:=Aa hp;have HL:=Aa hl;have Yy:Hid (p.ok w):=QU p (CU hp);have hprg:=Gy (α:=Br) (H.row 0 rfl) hp;have jT:=Aa hprg;have e1:((m:Int)+1==0)=false:=by simp<;>omega
    have e2:(m:Int)+1 - 1=m:=by omega
    have m0:(0:Int)≤m:=by omega
    have e3:IntKind.i64.wrap (m:Int)=m:=IB _ Xl;have m1:(m:Int)<(m:Int)+1:=by omega
    have HC:=Aa (fun w' (hb:Ai w w')=>Qq p f w' ⟨Yy.ks.mono hb,Yy.ag⟩ ⟨QA.ks.mono hb,QA.ag⟩);have uR:=Aa H.to;have HXB:=H.blk 1 rfl;clear hp hl hprg;go_upto_region 6 with fail;refine Am ?_;(try simp only [Act.put,LP]);repeat (first
     |((with_reducible show wpQuiet _ _ _ _ (⟨some 25,_,_,_,_,_⟩::_) _);refine Ah (by first|rfl|go_simp) Bz (.tmp 24) rfl g (m * 11) rfl p.cs rfl jT.2 jT.1 ?_;simp only [Act.put,LP])
     |((with_reducible show wpQuiet _ _ _ _ (⟨some 26,_,_,_,_,_⟩::_) _);refine Ah (by first|rfl|go_simp) Bz (.tmp 6) rfl x (0) rfl f.cs rfl HXB.lt HXB.range ?_;simp only [Act.put,LP])
     |go_big_quiet_step (((go_at_call 108;rename_i u;exact AB (HC _ (uR.trans u.Av))))))
    refine CS ?_;rintro w5 ⟨⟨_,Gd⟩,rfl⟩;(try dsimp only);replace H:=Aa (H.Av Gd);skip;by_cases hcmp:Dn p.ks.l f.ks.l=0
    ·have d1:(Dn p.ks.l f.ks.l !=0)=false:=by simp [hcmp]
     have HCM:=Aa hcmp;obtain ⟨J,hJ⟩:∃ J,J=p.ag.join f.ag:=⟨_,rfl⟩;have HJ:=Aa (fun w'=>Ah6 p.ag f.ag w' Yy.ag QA.ag);have nE:=l8 Yy.ag QA.ag;have HOV:Hid (J.2=false→O=none):=fun h=>by
      rw [hJ] at h;have h1:=nQ.Ab;rw [HE.Ab,Zw HL fT hcmp h] at h1;exact h1
     have KC:Hid (J.2=true→EF (cons (out.set m ⟨p.ks,J.1⟩)) (cons (X.drop (k+1)))=O):=fun h=>by
      have h1:=nQ.Ab;rw [hJ] at h ⊢;rw [HE.Ab,Zx HL fT hcmp h] at h1;exact h1.symm
     rw [←hJ] at HJ nE;clear hJ hcmp nQ HE HC uR HXB jT;obtain ⟨u,ok⟩:=J;simp only at HJ nE HOV KC;have HUok:=Aa nE;clear nE;go_upto_region 8 with fail;go_cut [8,9] (fun s8 s9 wx=>∃ z:Nat,s8=.pointer (some ⟨z,0,none⟩)∧s9=.bool ok∧Hid (SL No w wx [Ce 97 11 (.slice (some ⟨g,0,none⟩) (m+1) d) (m+1) (out.flatMap AY.cells),Aw x 97 f.cs,Aw z 95 u.cs]));case first=>
      refine Ep (S:=fun _=>True) Za0 trivial fun hHeld=>?_;replace H:=Aa (H.drew);refine Bd Ml ?_;refine Bd KF ?_;refine Bd MN ?_;refine Bd Ky ?_;refine Bd LJ ?_;refine Bd MI ?_;refine EY (rs:=[5,7,12]) Za0 uH ?_;refine (AllReadyH.cons KW (fun KK Ad=>?_) (AllReadyH.cons Lj (fun KK Ad=>?_) (AllReadyH.cons Hw (fun KK Ad=>?_) AllReadyH.nil)))
      ·refine Cw rfl Dz (.tmp 39) (by first|rfl|go_simp) g (m * 11+1) (by first|rfl|go_simp) p.ag.cs (FU (H.row 0 rfl) fT.Ab) rfl ?_;refine Aj Ad trivial fun hHeld=>?_;clear Ad KK;refine Oh Lj Hw (fun KK Ad=>?_) fun KK Ad=>?_
       ·refine Cw rfl Dz (.tmp 41) (by first|rfl|go_simp) _ 1 (by first|rfl|go_simp) f.ag.cs (by intro jj uu hu;have:=(H.blk 1 rfl).range (1+jj) uu (by show (f.ks.v::f.ag.cs.toList)[1+jj]?=_;rw [Oo,FR];exact hu);rwa [FI] at this) rfl ?_;exact Zl4
       ·go_simp;replace H:=Aa (H.alloc Ag.zero.cs 95);(try simp only [LS] at H);exact Zn9
      ·refine Cw rfl Dz (.tmp 41) (by first|rfl|go_simp) _ 1 (by first|rfl|go_simp) f.ag.cs (by intro jj uu hu;have:=(H.blk 1 rfl).range (1+jj) uu (by show (f.ks.v::f.ag.cs.toList)[1+jj]?=_;rw [Oo,FR];exact hu);rwa [FI] at this) rfl ?_;refine Aj Ad trivial fun hHeld=>?_;clear Ad KK;refine Oh KW Hw (fun KK Ad=>?_) fun KK Ad=>?_
       ·refine Cw rfl Dz (.tmp 39) (by first|rfl|go_simp) g (m * 11+1) (by first|rfl|go_simp) p.ag.cs (FU (H.row 0 rfl) fT.Ab) rfl ?_;exact Zl4
       ·go_simp;replace H:=Aa (H.alloc Ag.zero.cs 95);(try simp only [LS] at H);exact Zq4
      ·go_simp;replace H:=Aa (H.alloc Ag.zero.cs 95);(try simp only [LS] at H);refine Aj Ad trivial fun hHeld=>?_;clear Ad KK;refine Oh KW Lj (fun KK Ad=>?_) fun KK Ad=>?_
       ·refine Cw rfl Dz (.tmp 39) (by first|rfl|go_simp) g (m * 11+1) (by first|rfl|go_simp) p.ag.cs (FU (H.row 0 rfl) fT.Ab) rfl ?_;exact Zn9
       ·refine Cw rfl Dz (.tmp 41) (by first|rfl|go_simp) _ 1 (by first|rfl|go_simp) f.ag.cs (by intro jj uu hu;have:=(H.blk 1 rfl).range (1+jj) uu (by show (f.ks.v::f.ag.cs.toList)[1+jj]?=_;rw [Oo,FR];exact hu);rwa [FI] at this) rfl ?_;exact Zq4
     case rest=>
      clear H;obtain ⟨z,rfl,rfl,H⟩:=hcut;cases ok with
      |false=>
       have HO:=Aa (HOV rfl);go_wp2_with fail;go_ret2;exact HPO _ _ (.inl ⟨HO.Ab,rfl,H.to⟩)
      |true=>
       have HE2:=Aa (KC rfl);clear KC HOV;go_upto_region 12 with (first|((with_reducible refine OP 51 ?_);(refine Bf Dz (H.blk 2 rfl) ?_))|((with_reducible refine OS 53 ?_);refine Zo rfl Dz (.tmp 53) (.tmp 51) rfl m rfl (H.row 0 rfl) fT u rfl ?_;intro wq AJ Aq;replace H:=Aa (H.setRow 0 rfl Aq AJ (.inl rfl));(try simp only [LS] at H);clear AJ Aq));(try simp only [Act.put,LP]);replace H:=Aa (H.Fg [0] Za1 uH);(try simp only [LS] at H);have vG:Hid ((out.set m ⟨p.ks,u⟩).length=m+1):=by show _=_;rw [Rn,HL.Ab]
       have Tq:Hid (∀ z ∈ out.set m ⟨p.ks,u⟩,z.ok w):=fun z hz=>by
        rcases Zi hz with h|rfl
        ·exact QU z h
        ·exact ⟨Yy.ks,HUok.Ab⟩
       clear QU;go_wp2_with fail;go_roundg (N - (k+1));case rel=>exact ⟨k+1,m+1,d,some ⟨g,0,none⟩,out.set m ⟨p.ks,u⟩,rfl,Xl,Xl,rfl,by go_num,vG,HE2,Tq,H⟩
       case measure=>rw [Cs.Ab];omega
    ·have d1:(Dn p.ks.l f.ks.l !=0)=true:=by simp [hcmp]
     have HE2:Hid (EF (cons (out++[f])) (cons (X.drop (k+1)))=O):=by
      show _=_;have h:=nQ.Ab;rw [HE.Ab,gJ HL fT hcmp] at h;exact h.symm
     clear HE nQ hcmp HC uR HXB jT e2 m0 m1 e1 HL fT;go_upto_region 12 with (first|((with_reducible refine OP 31 ?_);(refine Bf Bz (H.blk 1 rfl) ?_))|((with_reducible refine OP 32 ?_);(refine AP rfl EI (.tmp 31) rfl (f.cs) rfl (FL f) Xl ?_;replace H:=Aa (H.Co ((Ai.refl _).alloc _) (Nz _ 97 (f.cs) 11 (FL f)));(try simp only [LS] at H)))|((with_reducible refine OP 33 ?_);(refine Az rfl (.tmp 30) (.tmp 32) _ rfl EI 0 (Bj _) _ _ _ rfl (H.row 0 rfl) _ 1 1 f.cs.toList rfl (Rd.BC (H.row 2 rfl)) (JG f) Za4 Xl ?_;intro vq wq AJ Aq AQ;replace H:=Aa (H.setRow 0 rfl Aq AJ AQ);(try simp only [LS] at H);clear AJ Aq AQ;obtain ⟨B2,d2,rfl,_⟩:=Ao (H.row 0 rfl))));exact Zl9
  ·obtain rfl:k=N:=by omega
   have HO:Hid (O=some (cons out)):=by
    show _=_;have h:=HE.Ab;rw [EN Za9] at h;exact h.symm
   have HX0:=Aa (KV ⟨B,q,d,out⟩ wr (SG (x:=⟨B,q,d,out⟩) (H.row 0 rfl) (fun f hf=>⟨(QU f hf).ks.mono H.to,(QU f hf).ag⟩) (by show q * 104≤_;omega)) (by show q≤_;omega));clear HE;go_wp2_with fail;refine HX0.mono ?_;rintro e w9 ⟨v,fs,rfl,hG,hc⟩;have HRS:=Aa (HPO (.returned (.tuple #[v,.int .i64 0])) w9 (.inr ⟨_,v,fs,HO.Ab,rfl,hG.from_ H.to,hc⟩));clear hG hc HX0;go_wp2;go_ret2;exact HRS.Ab
def jQ (l:List CZ) (w:World) (e:Ending) (w':World):Prop:=
 (Nc l=none∧e=.returned (.tuple #[.slice none 0 0,.bool false])∧Ai w w')∨∃ x:Row Br,Nc l=some (cons x.l)∧e=.returned (.tuple #[.slice x.A x.n x.c,.bool true])∧x.ok w'∧Ai w w'
theorem Zs6 {p:Prop} (h:p:=by refine BG Jc fun KK Ad=>?_;refine DV rfl Dz (.tmp 8) (.tmp 52) rfl _ (by first|rfl|go_simp) (H.blk 2 rfl) rfl u.cs rfl (by first|rfl|go_simp) (Iq u) ?_;exact Zi1):p:=h
theorem Zg1 {p:Prop} (h:p:=by refine Aj Ad trivial fun hHeld=>?_;clear Ad KK;refine BG Mk fun KK Ad=>?_;go_simp;refine (HJ _).mono ?_;rintro e' w6 ⟨rfl,hb6⟩;replace H:=Aa (H.Av hb6);clear hb6;refine Aj Ad trivial fun hHeld=>?_;clear Ad KK;refine Bd MH ?_;refine Bd FO ?_;refine Bd Ga ?_;exact Zs6):p:=h
theorem Zk0 {p:Prop} (h:p:=by refine CS ?_;rintro w5 ⟨⟨_,Gd⟩,rfl⟩;(try dsimp only);replace H:=Aa (H.Av Gd);skip;clear uR HXB jT e2 m0 m1 e1 HL fT MW QV;go_upto_region 12 with (first|((with_reducible refine OP 39 ?_);(refine Bf Bz (H.blk 1 rfl) ?_))|((with_reducible refine OP 40 ?_);(refine AP rfl EI (.tmp 39) rfl (f.cs) rfl (FL f) Xl ?_;replace H:=Aa (H.Co ((Ai.refl _).alloc _) (Nz _ 97 (f.cs) 11 (FL f)));(try simp only [LS] at H)))|((with_reducible refine OP 41 ?_);(refine Az rfl (.tmp 38) (.tmp 40) _ rfl EI 0 (Bj _) _ _ _ rfl (H.row 0 rfl) _ 1 1 f.cs.toList rfl (Rd.BC (H.row 2 rfl)) (JG f) Za4 Xl ?_;intro vq wq AJ Aq AQ;replace H:=Aa (H.setRow 0 rfl Aq AJ AQ);(try simp only [LS] at H);clear AJ Aq AQ;obtain ⟨B2,d2,rfl,_⟩:=Ao (H.row 0 rfl))));exact Zl9):p:=h
theorem Zl5 {p:Prop} (h:p:=by
 refine Aj Ad trivial fun hHeld=>?_;clear Ad KK;refine Oh Mk Hw (fun KK Ad=>?_) fun KK Ad=>?_
 ·go_simp;refine (HJ _).mono ?_;rintro e' w6 ⟨rfl,hb6⟩;replace H:=Aa (H.Av hb6);clear hb6;refine Aj Ad trivial fun hHeld=>?_;clear Ad KK;refine Bd MH ?_;refine Bd FO ?_;refine Bd Ga ?_;refine BG Hw fun KK Ad=>?_;go_simp;replace H:=Aa (H.alloc Ag.zero.cs 95);(try simp only [LS] at H);refine Aj Ad trivial fun hHeld=>?_;clear Ad KK;exact Zs6
 ·go_simp;replace H:=Aa (H.alloc Ag.zero.cs 95);(try simp only [LS] at H);exact Zg1
):p:=h
theorem Zo0 {p:Prop} (h:p:=by refine Aj Ad trivial fun hHeld=>?_;clear Ad KK;refine BG Lj fun KK Ad=>?_;refine Cw rfl Dz (.tmp 49) (by first|rfl|go_simp) _ 1 (by first|rfl|go_simp) f.ag.cs (by intro jj uu hu;have:=(H.blk 1 rfl).range (1+jj) uu (by show (f.ks.v::f.ag.cs.toList)[1+jj]?=_;rw [Oo,FR];exact hu);rwa [FI] at this) rfl ?_;exact Zg1):p:=h
theorem Zq5 {p:Prop} (h:p:=by refine Aj Ad trivial fun hHeld=>?_;clear Ad KK;refine BG KW fun KK Ad=>?_;refine Cw rfl Dz (.tmp 47) (by first|rfl|go_simp) g (m * 11+1) (by first|rfl|go_simp) p.ag.cs (FU (H.row 0 rfl) fT.Ab) rfl ?_;exact Zg1):p:=h
theorem wP (w:World) (x:Row Br) (hx:x.ok w) (hn:x.n≤1000000):
 Calls prog 78 #[.slice x.A x.n x.c] w (jQ (cons x.l) w):=by
 have RJ:=N8;have HX:=Aa hx;have hlen:Hid (x.l.length=x.n):=hx.len;obtain ⟨A0,N,c0,X⟩:=x;simp only at *;obtain ⟨O,hO⟩:∃ O,O=Nc (cons X):=⟨_,rfl⟩;have HPO:Hid (∀ e w',((O=none∧e=.returned (.tuple #[.slice none 0 0,.bool false])∧Ai w w')∨∃ x:Row Br,O=some (cons x.l)∧e=.returned (.tuple #[.slice x.A x.n x.c,.bool true])∧x.ok w'∧Ai w w')→jQ (cons X) w e w'):=fun e w' h=>by rw [hO] at h;exact h
 have HE:Hid (EF (cons []) (cons (X.drop 0))=O):=by show _=_;rw [hO];(try rfl)
 clear hO hx;have H:Hid (SL No w w [Ce 97 11 (.slice none 0 0) 0 (([]:List Br).flatMap AY.cells)]):=Aa ((SL.start No w).Dw 97 11);have QU:Hid (∀ f ∈ ([]:List Br),f.ok w):=fun f hf=>by cases hf
 go_enter func78,ntmps78;go_wp2_with fail;go_loopg [4,12] N (fun gg s4 s12 wr=>∃ (k q d:Nat) (B:Option Addr) (out:List Br),gg=N - k∧k≤N∧q≤k∧s4=.slice B q d∧s12=.int .i64 k∧Hid (out.length=q)∧Hid (EF (cons out) (cons (X.drop k))=O)∧Hid (∀ f ∈ out,f.ok w)∧Hid (SL No w wr [Ce 97 11 (.slice B q d) q (out.flatMap AY.cells)]));case atStart=>exact ⟨0,0,0,none,[],rfl,Xl,Xl,rfl,rfl,Aa rfl,HE,QU,H⟩
 case round=>
  clear H HE QU;obtain ⟨k,q,d,B,out,BR,hk,hqk,rfl,rfl,HQ,HE,QU,H⟩:=hrel;have Cs:=Aa BR;clear BR;by_cases hlt:k<N
  ·obtain ⟨fb,fo,f,hA,hfb,lU,hfok,_,hfr,_⟩:=(HX.mono H.to).Z7 hlt;simp only at hA;subst hA;have QA:Hid (f.ok w):=HX.all f (CU lU);have HR:=Aa hfr;have nQ:=Aa (jD lU (cons out));have i0:(0:Int)≤k:=by omega
   have i1:(k:Int)<N:=by omega
   clear lU hfok hfr;go_upto_region 5 with (first|((with_reducible refine OP 15 ?_);(refine Af rfl Bz (.tmp 14) rfl fb (fo+k * 11) rfl f.cs rfl HR.Ab ?_))|((with_reducible refine OS 6 ?_);(refine DX Bz (f.cs) (EA f) ?_;replace H:=Aa (H.alloc (f.cs) 97);(try simp only [LS] at H))));(try simp only [Act.put,LP]);clear hfb HR;generalize wr.heap.size=x at *;generalize World.alloc _ _=w1 at *;by_cases hq0:q=0
   ·have HQ0:=HQ.Ab;rw [hq0] at HQ0;have hout:out=[]:=LD HQ0;have HE2:Hid (EF (cons (out++[f])) (cons (X.drop (k+1)))=O):=by
     show _=_;have h:=nQ.Ab;rw [HE.Ab,hout,show cons ([]:List Br)=[] from rfl,gI] at h;rw [h,hout]
     rfl
    clear HE nQ;have e1:((q:Int)==0)=true:=by rw [hq0];(try rfl)
    clear HQ0 hq0 hout;go_upto_region 6 with fail;refine Am ?_;(try simp only [Act.put,LP]);repeat (go_big_quiet_step (fail))
    refine CS ?_;rintro w5 ⟨⟨_,Gd⟩,rfl⟩;(try dsimp only);replace H:=Aa (H.Av Gd);skip;go_upto_region 12 with (first|((with_reducible refine OP 39 ?_);(refine Bf Bz (H.blk 1 rfl) ?_))|((with_reducible refine OP 40 ?_);(refine AP rfl EI (.tmp 39) rfl (f.cs) rfl (FL f) Xl ?_;replace H:=Aa (H.Co ((Ai.refl _).alloc _) (Nz _ 97 (f.cs) 11 (FL f)));(try simp only [LS] at H)))|((with_reducible refine OP 41 ?_);(refine Az rfl (.tmp 38) (.tmp 40) _ rfl EI 0 (Bj _) _ _ _ rfl (H.row 0 rfl) _ 1 1 f.cs.toList rfl (Rd.BC (H.row 2 rfl)) (JG f) Za4 Xl ?_;intro vq wq AJ Aq AQ;replace H:=Aa (H.setRow 0 rfl Aq AJ AQ);(try simp only [LS] at H);clear AJ Aq AQ;obtain ⟨B2,d2,rfl,_⟩:=Ao (H.row 0 rfl))));exact Zm0
   ·obtain ⟨m,rfl⟩:∃ m,q=m+1:=⟨q - 1,Xl⟩;obtain ⟨g,rfl⟩:=qF (H.row 0 rfl) Xl;have hl:out.length=m+1:=HQ.Ab;obtain ⟨p,hp⟩:∃ p,out[m]?=some p:=⟨_,Fp Xl⟩;have fT:=Aa hp;have HL:=Aa hl;have Yy:Hid (p.ok w):=QU p (CU hp);have hprg:=Gy (α:=Br) (H.row 0 rfl) hp;have jT:=Aa hprg;have e1:((m:Int)+1==0)=false:=by simp<;>omega
    have e2:(m:Int)+1 - 1=m:=by omega
    have m0:(0:Int)≤m:=by omega
    have e3:IntKind.i64.wrap (m:Int)=m:=IB _ Xl;have m1:(m:Int)<(m:Int)+1:=by omega
    have HC:=Aa (fun w' (hb:Ai w w')=>aV p f w' ⟨Yy.ks.mono hb,Yy.ag⟩ ⟨QA.ks.mono hb,QA.ag⟩);have HD:=Aa (fun w' (hb:Ai w w')=>aV f p w' ⟨QA.ks.mono hb,QA.ag⟩ ⟨Yy.ks.mono hb,Yy.ag⟩);have uR:=Aa H.to;have HXB:=H.blk 1 rfl;clear hp hl hprg;have hr:=Ia p.ks.l f.ks.l;have hsw:=Gb p.ks.l f.ks.l;by_cases hcmp:Dn p.ks.l f.ks.l=0
    ·have l1:Fh p.ks.l f.ks.l=false:=by unfold Fh;rw [hcmp];(try rfl)
     have l2:Fh f.ks.l p.ks.l=false:=by unfold Fh;rw [hsw,hcmp];(try rfl)
     have MW:=Aa HC.Ab;have QV:=Aa HD.Ab;rw [l1] at MW;rw [l2] at QV;have HCM:=Aa hcmp;clear l1 l2 HC HD hr hsw;go_upto_region 6 with fail;refine Am ?_;(try simp only [Act.put,LP]);repeat (first
      |((with_reducible show wpQuiet _ _ _ _ (⟨some 25,_,_,_,_,_⟩::_) _);refine Ah (by first|rfl|go_simp) Bz (.tmp 24) rfl g (m * 11) rfl p.cs rfl jT.2 jT.1 ?_;simp only [Act.put,LP])
      |((with_reducible show wpQuiet _ _ _ _ (⟨some 26,_,_,_,_,_⟩::_) _);refine Ah (by first|rfl|go_simp) Bz (.tmp 6) rfl x (0) rfl f.cs rfl HXB.lt HXB.range ?_;simp only [Act.put,LP])
      |((with_reducible show wpQuiet _ _ _ _ (⟨some 30,_,_,_,_,_⟩::_) _);refine Ah (by first|rfl|go_simp) Bz (.tmp 6) rfl x (0) rfl f.cs rfl HXB.lt HXB.range ?_;simp only [Act.put,LP])
      |((with_reducible show wpQuiet _ _ _ _ (⟨some 35,_,_,_,_,_⟩::_) _);refine Ah (by first|rfl|go_simp) Bz (.tmp 34) rfl g (m * 11) rfl p.cs rfl jT.2 jT.1 ?_;simp only [Act.put,LP])
      |((with_reducible show wpQuiet _ _ _ _ (⟨some 27,_,_,_,_,_⟩::_) _);go_big_quiet_step ((go_at_call 39;rename_i u;exact AB (MW _ (uR.trans u.Av)))))
      |((with_reducible show wpQuiet _ _ _ _ (⟨some 36,_,_,_,_,_⟩::_) _);go_big_quiet_step ((go_at_call 39;rename_i u;exact AB (QV _ (uR.trans u.Av)))))
      |go_big_quiet_step (fail))
     refine CS ?_;rintro w5 ⟨⟨_,Gd⟩,rfl⟩;(try dsimp only);replace H:=Aa (H.Av Gd);skip;clear MW QV;obtain ⟨J,hJ⟩:∃ J,J=p.ag.join f.ag:=⟨_,rfl⟩;have HJ:=Aa (fun w'=>RJ p.ag f.ag w' Yy.ag QA.ag);have nE:=l8 Yy.ag QA.ag;have HOV:Hid (J.2=false→O=none):=fun h=>by
      rw [hJ] at h;have h1:=nQ.Ab;rw [HE.Ab,Zw HL fT hcmp h] at h1;exact h1
     have KC:Hid (J.2=true→EF (cons (out.set m ⟨f.ks,J.1⟩)) (cons (X.drop (k+1)))=O):=fun h=>by
      have h1:=nQ.Ab;rw [hJ] at h ⊢;rw [HE.Ab,Zx HL fT hcmp h] at h1;have h2:cons (out.set m ⟨f.ks,(p.ag.join f.ag).1⟩)=cons (out.set m ⟨p.ks,(p.ag.join f.ag).1⟩):=by
       simp only [cons,List.map_set];show (out.map Br.Ac).set m (f.ks.l,_)=(out.map Br.Ac).set m (p.ks.l,_);rw [Qu hcmp]
      rw [h2];exact h1.symm
     rw [←hJ] at HJ nE;clear hJ hcmp nQ HE uR HXB jT;obtain ⟨u,ok⟩:=J;simp only at HJ nE HOV KC;have HUok:=Aa nE;clear nE;go_upto_region 8 with fail;go_cut [8,9] (fun s8 s9 wx=>∃ z:Nat,s8=.pointer (some ⟨z,0,none⟩)∧s9=.bool ok∧Hid (SL No w wx [Ce 97 11 (.slice (some ⟨g,0,none⟩) (m+1) d) (m+1) (out.flatMap AY.cells),Aw x 97 f.cs,Aw z 95 u.cs]));case first=>
      refine Ep (S:=fun _=>True) Za0 trivial fun hHeld=>?_;replace H:=Aa (H.drew);refine Bd Ml ?_;refine Bd KF ?_;refine Bd MN ?_;refine Bd Ky ?_;refine Bd LJ ?_;refine Bd MI ?_;refine EY (rs:=[5,7,12]) Za0 uH ?_;refine (AllReadyH.cons KW (fun KK Ad=>?_) (AllReadyH.cons Lj (fun KK Ad=>?_) (AllReadyH.cons Hw (fun KK Ad=>?_) AllReadyH.nil)))
      ·refine Cw rfl Dz (.tmp 47) (by first|rfl|go_simp) g (m * 11+1) (by first|rfl|go_simp) p.ag.cs (FU (H.row 0 rfl) fT.Ab) rfl ?_;refine Aj Ad trivial fun hHeld=>?_;clear Ad KK;refine Oh Lj Hw (fun KK Ad=>?_) fun KK Ad=>?_
       ·refine Cw rfl Dz (.tmp 49) (by first|rfl|go_simp) _ 1 (by first|rfl|go_simp) f.ag.cs (by intro jj uu hu;have:=(H.blk 1 rfl).range (1+jj) uu (by show (f.ks.v::f.ag.cs.toList)[1+jj]?=_;rw [Oo,FR];exact hu);rwa [FI] at this) rfl ?_;exact Zl5
       ·go_simp;replace H:=Aa (H.alloc Ag.zero.cs 95);(try simp only [LS] at H);exact Zo0
      ·refine Cw rfl Dz (.tmp 49) (by first|rfl|go_simp) _ 1 (by first|rfl|go_simp) f.ag.cs (by intro jj uu hu;have:=(H.blk 1 rfl).range (1+jj) uu (by show (f.ks.v::f.ag.cs.toList)[1+jj]?=_;rw [Oo,FR];exact hu);rwa [FI] at this) rfl ?_;refine Aj Ad trivial fun hHeld=>?_;clear Ad KK;refine Oh KW Hw (fun KK Ad=>?_) fun KK Ad=>?_
       ·refine Cw rfl Dz (.tmp 47) (by first|rfl|go_simp) g (m * 11+1) (by first|rfl|go_simp) p.ag.cs (FU (H.row 0 rfl) fT.Ab) rfl ?_;exact Zl5
       ·go_simp;replace H:=Aa (H.alloc Ag.zero.cs 95);(try simp only [LS] at H);exact Zq5
      ·go_simp;replace H:=Aa (H.alloc Ag.zero.cs 95);(try simp only [LS] at H);refine Aj Ad trivial fun hHeld=>?_;clear Ad KK;refine Oh KW Lj (fun KK Ad=>?_) fun KK Ad=>?_
       ·refine Cw rfl Dz (.tmp 47) (by first|rfl|go_simp) g (m * 11+1) (by first|rfl|go_simp) p.ag.cs (FU (H.row 0 rfl) fT.Ab) rfl ?_;exact Zo0
       ·refine Cw rfl Dz (.tmp 49) (by first|rfl|go_simp) _ 1 (by first|rfl|go_simp) f.ag.cs (by intro jj uu hu;have:=(H.blk 1 rfl).range (1+jj) uu (by show (f.ks.v::f.ag.cs.toList)[1+jj]?=_;rw [Oo,FR];exact hu);rwa [FI] at this) rfl ?_;exact Zq5
     case rest=>
      clear H;obtain ⟨z,rfl,rfl,H⟩:=hcut;cases ok with
      |false=>
       have HO:=Aa (HOV rfl);go_wp2_with fail;go_ret2;exact HPO _ _ (.inl ⟨HO.Ab,rfl,H.to⟩)
      |true=>
       have HE2:=Aa (KC rfl);clear KC HOV;have hbd:∀ w:World,(Instr.build 97 #[(0,.slice f.ks.A f.ks.n f.ks.c),(1,.agg u.cs)]).run prog w=.ok (.agg (Br.mk f.ks u).cs) w:=fun _=>by kernel_rfl
       have cf0:=(H.blk 1 rfl).cell 0
       change _=some (Value.slice f.ks.A f.ks.n f.ks.c) at cf0
       go_upto_region 12 with (first|((with_reducible refine OP 61 ?_);(refine Bf Dz (H.blk 2 rfl) ?_))|((with_reducible refine OP 62 ?_);refine Ro rfl (.tmp 60) (.tmp 61) rfl rfl rfl hbd ?_)|((with_reducible refine OS 63 ?_);refine JA rfl Bz (.tmp 63) (.tmp 62) rfl rfl m rfl (H.row 0 rfl) Xl ⟨f.ks,u⟩ (Br.mk f.ks u).cs rfl rfl (EA _) ?_;intro wq AJ Aq;replace H:=Aa (H.setRow 0 rfl Aq AJ (.inl rfl));(try simp only [LS] at H);clear AJ Aq));(try simp only [Act.put,LP]);clear hbd cf0;replace H:=Aa (H.Fg [0] Za1 uH);(try simp only [LS] at H);have vG:Hid ((out.set m ⟨f.ks,u⟩).length=m+1):=by show _=_;rw [Rn,HL.Ab]
       have Tq:Hid (∀ z ∈ out.set m ⟨f.ks,u⟩,z.ok w):=fun z hz=>by
        rcases Zi hz with h|rfl
        ·exact QU z h
        ·exact ⟨QA.ks,HUok.Ab⟩
       clear QU;go_wp2_with fail;go_roundg (N - (k+1));case rel=>exact ⟨k+1,m+1,d,some ⟨g,0,none⟩,out.set m ⟨f.ks,u⟩,rfl,Xl,Xl,rfl,by go_num,vG,HE2,Tq,H⟩
       case measure=>rw [Cs.Ab];omega
    ·have HE2:Hid (EF (cons (out++[f])) (cons (X.drop (k+1)))=O):=by
      show _=_;have h:=nQ.Ab;rw [HE.Ab,gJ HL fT hcmp] at h;exact h.symm
     clear HE nQ;by_cases h1:Dn p.ks.l f.ks.l=-1
     ·have l1:Fh p.ks.l f.ks.l=true:=by unfold Fh;rw [h1];(try rfl)
      have MW:=Aa HC.Ab;have QV:=Aa HC.Ab;rw [l1] at MW QV;clear l1 HC HD hr hsw h1 hcmp;go_upto_region 6 with fail;refine Am ?_;(try simp only [Act.put,LP]);repeat (first
       |((with_reducible show wpQuiet _ _ _ _ (⟨some 25,_,_,_,_,_⟩::_) _);refine Ah (by first|rfl|go_simp) Bz (.tmp 24) rfl g (m * 11) rfl p.cs rfl jT.2 jT.1 ?_;simp only [Act.put,LP])
       |((with_reducible show wpQuiet _ _ _ _ (⟨some 26,_,_,_,_,_⟩::_) _);refine Ah (by first|rfl|go_simp) Bz (.tmp 6) rfl x (0) rfl f.cs rfl HXB.lt HXB.range ?_;simp only [Act.put,LP])
       |((with_reducible show wpQuiet _ _ _ _ (⟨some 27,_,_,_,_,_⟩::_) _);go_big_quiet_step ((go_at_call 39;rename_i u;exact AB (MW _ (uR.trans u.Av)))))
       |go_big_quiet_step (fail))
      exact Zk0
     ·have l1:Fh p.ks.l f.ks.l=false:=by
       unfold Fh;exact Xt.2 h1
      have l2:Fh f.ks.l p.ks.l=true:=by
       unfold Fh;rw [hsw];have:Dn p.ks.l f.ks.l=1:=by omega
       rw [this]
       rfl
      have MW:=Aa HC.Ab;have QV:=Aa HD.Ab;rw [l1] at MW;rw [l2] at QV;clear l1 l2 HC HD hr hsw h1 hcmp;go_upto_region 6 with fail;refine Am ?_;(try simp only [Act.put,LP]);repeat (first
       |((with_reducible show wpQuiet _ _ _ _ (⟨some 25,_,_,_,_,_⟩::_) _);refine Ah (by first|rfl|go_simp) Bz (.tmp 24) rfl g (m * 11) rfl p.cs rfl jT.2 jT.1 ?_;simp only [Act.put,LP])
       |((with_reducible show wpQuiet _ _ _ _ (⟨some 26,_,_,_,_,_⟩::_) _);refine Ah (by first|rfl|go_simp) Bz (.tmp 6) rfl x (0) rfl f.cs rfl HXB.lt HXB.range ?_;simp only [Act.put,LP])
       |((with_reducible show wpQuiet _ _ _ _ (⟨some 30,_,_,_,_,_⟩::_) _);refine Ah (by first|rfl|go_simp) Bz (.tmp 6) rfl x (0) rfl f.cs rfl HXB.lt HXB.range ?_;simp only [Act.put,LP])
       |((with_reducible show wpQuiet _ _ _ _ (⟨some 35,_,_,_,_,_⟩::_) _);refine Ah (by first|rfl|go_simp) Bz (.tmp 34) rfl g (m * 11) rfl p.cs rfl jT.2 jT.1 ?_;simp only [Act.put,LP])
       |((with_reducible show wpQuiet _ _ _ _ (⟨some 27,_,_,_,_,_⟩::_) _);go_big_quiet_step ((go_at_call 39;rename_i u;exact AB (MW _ (uR.trans u.Av)))))
       |((with_reducible show wpQuiet _ _ _ _ (⟨some 36,_,_,_,_,_⟩::_) _);go_big_quiet_step ((go_at_call 39;rename_i u;exact AB (QV _ (uR.trans u.Av)))))
       |go_big_quiet_step (fail))
      exact Zk0
  ·obtain rfl:k=N:=by omega
   have HO:Hid (O=some (cons out)):=by
    show _=_;have h:=HE.Ab;rw [EN Za9] at h;exact h.symm
   have HRS:=Aa (HPO (.returned (.tuple #[.slice B q d,.bool true])) wr (.inr ⟨⟨B,q,d,out⟩,HO.Ab,rfl,SG (x:=⟨B,q,d,out⟩) (H.row 0 rfl) (fun f hf=>⟨(QU f hf).ks.mono H.to,(QU f hf).ag⟩) (by show q * 104≤_;omega),H.to⟩));clear HE;go_wp2_with fail;go_ret2;exact HRS.Ab
def nH (O:Option (List CZ)) (w:World) (v:Value) (k:Int):Prop:=
 (O=none∧v=.slice none 0 0∧k=12)∨∃ x:Row Br,O=some (cons x.l)∧v=.slice x.A x.n x.c∧k=0∧x.ok w∧x.n≤1000000
def YQ (O:Option (List CZ)) (w:World) (v:Value) (b:Bool):Prop:=
 (O=none∧v=.slice none 0 0∧b=false)∨∃ x:Row Br,O=some (cons x.l)∧v=.slice x.A x.n x.c∧b=true∧x.ok w∧x.n≤1000000
theorem Zv9 {p:Prop} (h:p:=by
 rcases h with h|⟨x,h1,h2,h3,h4,h5⟩
 ·exact .inl h
 ·exact .inr ⟨x,h1,h2,h3,h4.mono hb,h5⟩
):p:=h
theorem nH.mono {O:Option (List CZ)} {w w':World} {v:Value} {k:Int} (h:nH O w v k) (hb:Ai w w'):nH O w' v k:=by
 exact Zv9
theorem YQ.mono {O:Option (List CZ)} {w w':World} {v:Value} {k:Bool} (h:YQ O w v k) (hb:Ai w w'):YQ O w' v k:=by
 exact Zv9
def nI (O:Option (List CZ)) (w:World) (e:Ending) (w':World):Prop:=∃ v k,e=.returned (.tuple #[v,.int .i64 k])∧nH O w' v k∧Ai w w'
def Al0 (O:Option (List CZ)) (w:World) (e:Ending) (w':World):Prop:=∃ v b,e=.returned (.tuple #[v,.bool b])∧YQ O w' v b∧Ai w w'
theorem lY {acc r:List CZ} {f:CZ} (h:GN acc f=some r):r.length≤acc.length+1:=by
 unfold GN at h;split at h
 ·injection h with h;subst h;simp
 ·rename_i p hp;split at h
  ·split at h
   ·injection h with h;subst h;rw [Cn,Zd];simp
   ·cases h
  ·injection h with h;subst h;simp
theorem lZ (l:List CZ):∀ (acc r:List CZ),EF acc l=some r→r.length≤acc.length+l.length:=by
 induction l with
 |nil=>intro acc r h;injection h with h;subst h;simp
 |cons f l ih=>
  intro acc r h;rw [EF] at h;split at h
  ·cases h
  ·rename_i a ha;have h1:=lY ha;have h2:=ih _ _ h;rw [Eo];omega
theorem jE {l r:List CZ} (h:Nc l=some r):r.length≤l.length:=by
 have:=lZ l [] r h;simpa using this
theorem Y6 (w:World) (x:Row Br) (hx:x.ok w) (hn:x.n≤1000000):Calls prog 68 #[.slice x.A x.n x.c] w (nI (Nc (cons x.l)) w):=by
 refine (Y7 w x hx hn).mono ?_;rintro e w' (⟨h1,h2,h3⟩|⟨r,v,fs,h1,h2,h3,h4⟩)
 ·exact ⟨_,_,h2,.inl ⟨h1,rfl,rfl⟩,h3⟩
 ·have hl:=jE h1;rw [←h4,AR,AR,hx.len] at hl;obtain ⟨X,q1,q2,q3,q4,_⟩:=h3.run Xl;refine ⟨v,0,h2,.inr ⟨X,?_,q1,rfl,q4,Xl⟩,h3.Av⟩;rw [h1,q2,h4]
theorem ZO (w:World) (x:Row Br) (hx:x.ok w) (hn:x.n≤1000000):Calls prog 78 #[.slice x.A x.n x.c] w (Al0 (Nc (cons x.l)) w):=by
 refine (wP w x hx hn).mono ?_;rintro e w' (⟨h1,h2,h3⟩|⟨X,h1,h2,h3,h4⟩)
 ·exact ⟨_,_,h2,.inl ⟨h1,rfl,rfl⟩,h3⟩
 ·have hl:=jE h1;rw [AR,AR,hx.len,h3.len] at hl;exact ⟨_,_,h2,.inr ⟨X,h1,rfl,rfl,h3,Xl⟩,h4⟩
theorem uA (x:Row Br) (w:World) (hx:x.ok w) (hn:x.n≤5000):Calls prog 40 #[.slice x.A x.n x.c] w (nI (Nc (BK (cons x.l))) w):=by
 have HK:=Aa (V6 32 4 Xl Xl Xl Xl x w hx hn);have hxl:Hid (x.l.length=x.n):=hx.len;obtain ⟨A,N,c,X⟩:=x;simp only at *;clear hx;go_enter func40,ntmps40;go_wp2_with fail;refine HK.mono ?_;rintro e w1 ⟨v,fs,rfl,hG,hc⟩;have hfl:fs.length=N:=by have h:=CW List.length hc;rw [AR,FD,AR] at h;rw [h];exact hxl.Ab
 have HB:=Aa hG.Av;obtain ⟨Y,rfl,hYl,hYn,hYok,_⟩:=hG.run Xl;have HF:=Aa (Y6 w1 Y hYok Xl);rw [hYl,hc] at HF;clear hG hc hfl hYl hYn hYok HK;obtain ⟨YA,yn,yc,yl⟩:=Y;simp only [Row.v] at *;go_wp2_with fail;refine HF.mono ?_;rintro e w2 ⟨v,k,rfl,hF,hb⟩;have HRS:Hid (nI (Nc (BK (cons X))) w (.returned (.tuple #[v,.int .i64 k])) w2):=⟨v,k,rfl,hF,HB.trans hb⟩;clear hF hb HF;go_wp2;go_ret2;exact HRS.Ab
theorem Fa {n:Nat} {k:Int} (h:k≠0):Xh n (CC.nil,k)=(CC.nil,k):=by unfold Xh;rw [Ak h]
theorem Row.rd.Ad4 {w:World} {x:Row (Row Int)} (h:x.rd w) {k:Nat} (hk:k<x.n):∃ b o y,x.A=some ⟨b,o,none⟩∧x.l[k]?=some y∧y.ok w∧w.cell? ⟨b,o+k,none⟩=some (.slice y.A y.n y.c):=by
 obtain ⟨b,o,y,e,hy,hc⟩:=Oz rfl h.r hk;exact ⟨b,o,y,e,hy,h.all y (CU hy),hc _ rfl⟩
theorem Zb8 {p:Prop} (h:p:=by rw [HU.Ab]):p:=h
theorem Ze5 {p:Prop} (h:p:=by show _=_;refine (Yk (CC.nil,12) (KX.trans ?_)).symm.trans (Fa Za1);rw [Bp Yj.Ab];refine Ex Vg.Ab ?_;rw [Ic.Ab,Bp Tn.Ab];exact Fs Zb8):p:=h
theorem Zt2 {p:Prop} (h:p:=by
 show _=_;refine (Yk (⟨⟨ds.map Dm.Ac,ms⟩,fa,P0,Q0,P1,Q1,P2,Q2⟩,0) (HRR.trans ?_)).symm.trans ?_
 ·rw [EN (by rw [CQ,hrl.Ab];omega)]
  rfl
 ·rfl
):p:=h
theorem Zu8 {p:Prop} (h:p:=by show _=_;refine (Yk (CC.nil,2) (HRR.trans ?_)).symm.trans (Fa Za1);rw [Bp Yj.Ab];exact PG (by have:=Vg.Ab;omega)):p:=h
theorem Zh8 {p:Prop} (h:p:=by
 go_wp2_with fail;have Yk:Hid (∀ o,EG mn ⟨⟨ds.map Dm.Ac,ms⟩,fa,p0,q0,p1,q1,p2,q2⟩ (rs.map (·.l))=o→Xh rn o=O):=fun o ho=>by rw [HO4.Ab,ho]
 have HRR:Hid (EG mn ⟨⟨ds.map Dm.Ac,ms⟩,fa,p0,q0,p1,q1,p2,q2⟩ (rs.map (·.l))=EG mn ⟨⟨ds.map Dm.Ac,ms⟩,fa,p0,q0,p1,q1,p2,q2⟩ ((rs.map (·.l)).drop 0)):=rfl;clear HO4;go_loopg [8,36] rn (fun gg s8 i wr=>∃ (k:Nat) (P0 Q0 P1 Q1 P2 Q2:Int) (ob:Bool),gg=rn - k∧k≤rn∧s8=.bool ob∧i=.int .i64 k∧Hid (SL No w wr [Aw x 63 #[.slice A n c,.slice MA mn mc,.int .i64 fa,.int .i64 p0,.int .i64 q0,.int .i64 p1,.int .i64 q1,.int .i64 p2,.int .i64 q2],Aw y 63 #[.slice none 0 0,.slice none 0 0,.int .i64 0,.int .i64 0,.int .i64 0,.int .i64 0,.int .i64 0,.int .i64 0,.int .i64 0],Aw z 63 #[.slice B m d,.slice MB mm md,.int .i64 fa,.int .i64 P0,.int .i64 Q0,.int .i64 P1,.int .i64 Q1,.int .i64 P2,.int .i64 Q2],Kj ⟨⟨B,m,d,es⟩,⟨MB,mm,md,mt⟩⟩])∧Hid (EG mn ⟨⟨ds.map Dm.Ac,ms⟩,fa,p0,q0,p1,q1,p2,q2⟩ (rs.map (·.l))=EG mn ⟨⟨ds.map Dm.Ac,ms⟩,fa,P0,Q0,P1,Q1,P2,Q2⟩ ((rs.map (·.l)).drop k))∧Hid (AZ P0∧AZ Q0∧AZ P1∧AZ Q1∧AZ P2∧AZ Q2));case atStart=>exact ⟨0,p0,q0,p1,q1,p2,q2,true,rfl,Xl,rfl,rfl,H,HRR,HI0⟩
 case round=>
  clear H HRR HI0;obtain ⟨k,P0,Q0,P1,Q1,P2,Q2,ob,BR,hk,rfl,rfl,H,HRR,hI⟩:=hrel;have Cs:=Aa BR;clear BR;by_cases hlt:k<rn
  ·obtain ⟨bb,oo,yr,hA,hyk,Pw,q1'⟩:=(HRW.mono H.to).Ad4 (k:=k) hlt;simp only at hA;subst hA;have Yj:Hid ((rs.map (·.l))[k]?=some yr.l):=by show _=_;rw [Ee,hyk];(try rfl)
   have HYR:=Aa (fun w' (hb:Ai w w')=>(vF yr (CU hyk) w' hb));have Vg:Hid (yr.l.length=yr.n):=Pw.zS.len;have y63:=Pw.zS.n63;have i0:(0:Int)≤k:=by omega
   have i1:(k:Int)<rn:=by omega
   clear hyk Pw;obtain ⟨YA,yn,yc,ys⟩:=yr;simp only at *;have cm0:=(H.blk 0 rfl).Ap 1;by_cases hyn:yn=mn
   ·obtain rfl:mn=yn:=hyn.symm;have e1:(((mn:Nat):Int) !=mn)=false:=by simp
    have e2:decide ((3:Int)<mn)=false:=by simp<;>omega
    go_wp2_with fail;clear cm0 e1 e2 q1';have Ic:Hid (Ea ⟨⟨ds.map Dm.Ac,ms⟩,fa,P0,Q0,P1,Q1,P2,Q2⟩ 0 ys=Ea ⟨⟨ds.map Dm.Ac,ms⟩,fa,P0,Q0,P1,Q1,P2,Q2⟩ 0 (ys.drop 0)):=rfl;have hI0:=hI;have KX:=HRR;clear hI HRR;generalize hC1:(⟨⟨ds.map Dm.Ac,ms⟩,fa,P0,Q0,P1,Q1,P2,Q2⟩:CC)=C1 at KX Ic;have MW:=Aa hC1;clear hC1;replace Ic:Hid (Ea C1 0 ys=Ea ⟨⟨ds.map Dm.Ac,ms⟩,fa,P0,Q0,P1,Q1,P2,Q2⟩ 0 (ys.drop 0)):=by show _=_;rw [MW.Ab];exact Ic.Ab
    go_loopg [8,55] mn (fun gg s8 i wr=>∃ (j:Nat) (P0 Q0 P1 Q1 P2 Q2:Int) (ob:Bool),gg=mn - j∧j≤mn∧s8=.bool ob∧i=.int .i64 j∧Hid (SL No w wr [Aw x 63 #[.slice A n c,.slice MA mn mc,.int .i64 fa,.int .i64 p0,.int .i64 q0,.int .i64 p1,.int .i64 q1,.int .i64 p2,.int .i64 q2],Aw y 63 #[.slice none 0 0,.slice none 0 0,.int .i64 0,.int .i64 0,.int .i64 0,.int .i64 0,.int .i64 0,.int .i64 0,.int .i64 0],Aw z 63 #[.slice B m d,.slice MB mm md,.int .i64 fa,.int .i64 P0,.int .i64 Q0,.int .i64 P1,.int .i64 Q1,.int .i64 P2,.int .i64 Q2],Kj ⟨⟨B,m,d,es⟩,⟨MB,mm,md,mt⟩⟩])∧Hid (Ea C1 0 ys=Ea ⟨⟨ds.map Dm.Ac,ms⟩,fa,P0,Q0,P1,Q1,P2,Q2⟩ j (ys.drop j))∧Hid (AZ P0∧AZ Q0∧AZ P1∧AZ Q1∧AZ P2∧AZ Q2));case atStart=>exact ⟨0,P0,Q0,P1,Q1,P2,Q2,ob,rfl,Xl,rfl,rfl,H,Ic,hI0⟩
    case round=>
     clear H Ic hI0 MW;obtain ⟨j,P0,Q0,P1,Q1,P2,Q2,ob,hgj,hj,rfl,rfl,H,Ic,hI⟩:=hrel;have Lt:=Aa hgj;clear hgj;by_cases hjlt:j<mn
     ·obtain ⟨b2,o2,v,hA,hyv,hv,q2'⟩:=(HYR _ H.to).Pv (k:=j) hjlt;simp only at hA;subst hA;have Tn:=Aa hyv;have HV:=Aa hv;clear hyv hv;have j0:(0:Int)≤j:=by omega
      have j1:(j:Int)<mn:=by omega
      go_upto_region 16 with fail;clear q2';obtain rfl|rfl|rfl:j=0∨j=1∨j=2:=by omega
      ·rw [show ((0:Nat):Int)=0 from rfl];have hu:=JH (v:=v) (hI.1) (hI.2.1);have HG:=Aa (fun w=>JI P0 Q0 v w (hI.1) (hI.2.1) HV.Ab);have HU:Hid (Lm ⟨⟨ds.map Dm.Ac,ms⟩,fa,P0,Q0,P1,Q1,P2,Q2⟩ 0 v=(⟨⟨ds.map Dm.Ac,ms⟩,fa,(BO P0 Q0 v).1.1,(BO P0 Q0 v).1.2,P1,Q1,P2,Q2⟩,(BO P0 Q0 v).2)):=rfl;generalize BO P0 Q0 v=G at *;obtain ⟨⟨u1,u2⟩,ok⟩:=G;simp only at HG HU hu;go_wp2_with ((with_reducible refine OP 65 ?_);(refine Af rfl CO (.tmp 64) rfl z (3) rfl #[.int .i64 P0,.int .i64 Q0] rfl ((H.blk 2 rfl).part 3 _ rfl) ?_));refine (HG _).mono ?_;rintro e w6 ⟨rfl,hb6⟩;replace H:=Aa (H.Av hb6);clear hb6 HG;cases ok with
       |true=>
        have HR2:Hid (Ea C1 0 ys=Ea ⟨⟨ds.map Dm.Ac,ms⟩,fa,u1,u2,P1,Q1,P2,Q2⟩ (0+1) (ys.drop (0+1))):=by
         show _=_;rw [Ic.Ab,Bp Tn.Ab,Fq Zb8,HU.Ab]
        have hI2:Hid (AZ u1∧AZ u2∧AZ P1∧AZ Q1∧AZ P2∧AZ Q2):=⟨hu.1,hu.2,hI.2.2.1,hI.2.2.2.1,hI.2.2.2.2.1,hI.2.2.2.2.2⟩;clear Ic HU;go_wp2_with ((with_reducible refine OS 71 ?_);refine Bq rfl CO (.tmp 71) (.tmp 68) rfl z 3 rfl (H.blk 2 rfl) #[.int .i64 u1,.int .i64 u2] rfl uH rfl Za2 ?_;intro wq bq Aq;replace bq:Bh wq z 63 #[.slice B m d,.slice MB mm md,.int .i64 fa,.int .i64 u1,.int .i64 u2,.int .i64 P1,.int .i64 Q1,.int .i64 P2,.int .i64 Q2]:=bq;replace H:=Aa (H.AA 2 rfl Aq bq);(try simp only [LS] at H);clear Aq bq);go_roundg (mn - (0+1));case rel=>exact ⟨0+1,u1,u2,P1,Q1,P2,Q2,true,rfl,Xl,rfl,rfl,H,HR2,hI2⟩
        case measure=>rw [Lt.Ab];omega
       |false=>
        have Om:Hid (O=(CC.nil,12)):=by
         exact Ze5
        go_wp2_with (first|((with_reducible refine OS 71 ?_);refine Bq rfl CO (.tmp 71) (.tmp 68) rfl z 3 rfl (H.blk 2 rfl) #[.int .i64 u1,.int .i64 u2] rfl uH rfl Za2 ?_;intro wq bq Aq;replace bq:Bh wq z 63 #[.slice B m d,.slice MB mm md,.int .i64 fa,.int .i64 u1,.int .i64 u2,.int .i64 P1,.int .i64 Q1,.int .i64 P2,.int .i64 Q2]:=bq;replace H:=Aa (H.AA 2 rfl Aq bq);(try simp only [LS] at H);clear Aq bq)|((with_reducible refine OS 4 ?_);(refine Cj BI H 1 rfl (#[.slice none 0 0,.slice none 0 0,.int .i64 0,.int .i64 0,.int .i64 0,.int .i64 0,.int .i64 0,.int .i64 0,.int .i64 0]) Za2 ?_;clear H;intro wq H;(try simp only [LS] at H))));refine Bc (Au rfl BI rfl (H.blk 1 rfl) rfl) rfl ?_;rw [Om.Ab];exact Da H.to
      ·rw [show ((1:Nat):Int)=1 from rfl];have hu:=JH (v:=v) (hI.2.2.1) (hI.2.2.2.1);have HG:=Aa (fun w=>JI P1 Q1 v w (hI.2.2.1) (hI.2.2.2.1) HV.Ab);have HU:Hid (Lm ⟨⟨ds.map Dm.Ac,ms⟩,fa,P0,Q0,P1,Q1,P2,Q2⟩ 1 v=(⟨⟨ds.map Dm.Ac,ms⟩,fa,P0,Q0,(BO P1 Q1 v).1.1,(BO P1 Q1 v).1.2,P2,Q2⟩,(BO P1 Q1 v).2)):=rfl;generalize BO P1 Q1 v=G at *;obtain ⟨⟨u1,u2⟩,ok⟩:=G;simp only at HG HU hu;go_wp2_with ((with_reducible refine OP 65 ?_);(refine Af rfl CO (.tmp 64) rfl z (5) rfl #[.int .i64 P1,.int .i64 Q1] rfl ((H.blk 2 rfl).part 5 _ rfl) ?_));refine (HG _).mono ?_;rintro e w6 ⟨rfl,hb6⟩;replace H:=Aa (H.Av hb6);clear hb6 HG;cases ok with
       |true=>
        have HR2:Hid (Ea C1 0 ys=Ea ⟨⟨ds.map Dm.Ac,ms⟩,fa,P0,Q0,u1,u2,P2,Q2⟩ (1+1) (ys.drop (1+1))):=by
         show _=_;rw [Ic.Ab,Bp Tn.Ab,Fq Zb8,HU.Ab]
        have hI2:Hid (AZ P0∧AZ Q0∧AZ u1∧AZ u2∧AZ P2∧AZ Q2):=⟨hI.1,hI.2.1,hu.1,hu.2,hI.2.2.2.2.1,hI.2.2.2.2.2⟩;clear Ic HU;go_wp2_with ((with_reducible refine OS 71 ?_);refine Bq rfl CO (.tmp 71) (.tmp 68) rfl z 5 rfl (H.blk 2 rfl) #[.int .i64 u1,.int .i64 u2] rfl uH rfl Za2 ?_;intro wq bq Aq;replace bq:Bh wq z 63 #[.slice B m d,.slice MB mm md,.int .i64 fa,.int .i64 P0,.int .i64 Q0,.int .i64 u1,.int .i64 u2,.int .i64 P2,.int .i64 Q2]:=bq;replace H:=Aa (H.AA 2 rfl Aq bq);(try simp only [LS] at H);clear Aq bq);go_roundg (mn - (1+1));case rel=>exact ⟨1+1,P0,Q0,u1,u2,P2,Q2,true,rfl,Xl,rfl,rfl,H,HR2,hI2⟩
        case measure=>rw [Lt.Ab];omega
       |false=>
        have Om:Hid (O=(CC.nil,12)):=by
         exact Ze5
        go_wp2_with (first|((with_reducible refine OS 71 ?_);refine Bq rfl CO (.tmp 71) (.tmp 68) rfl z 5 rfl (H.blk 2 rfl) #[.int .i64 u1,.int .i64 u2] rfl uH rfl Za2 ?_;intro wq bq Aq;replace bq:Bh wq z 63 #[.slice B m d,.slice MB mm md,.int .i64 fa,.int .i64 P0,.int .i64 Q0,.int .i64 u1,.int .i64 u2,.int .i64 P2,.int .i64 Q2]:=bq;replace H:=Aa (H.AA 2 rfl Aq bq);(try simp only [LS] at H);clear Aq bq)|((with_reducible refine OS 4 ?_);(refine Cj BI H 1 rfl (#[.slice none 0 0,.slice none 0 0,.int .i64 0,.int .i64 0,.int .i64 0,.int .i64 0,.int .i64 0,.int .i64 0,.int .i64 0]) Za2 ?_;clear H;intro wq H;(try simp only [LS] at H))));refine Bc (Au rfl BI rfl (H.blk 1 rfl) rfl) rfl ?_;rw [Om.Ab];exact Da H.to
      ·rw [show ((2:Nat):Int)=2 from rfl];have hu:=JH (v:=v) (hI.2.2.2.2.1) (hI.2.2.2.2.2);have HG:=Aa (fun w=>JI P2 Q2 v w (hI.2.2.2.2.1) (hI.2.2.2.2.2) HV.Ab);have HU:Hid (Lm ⟨⟨ds.map Dm.Ac,ms⟩,fa,P0,Q0,P1,Q1,P2,Q2⟩ 2 v=(⟨⟨ds.map Dm.Ac,ms⟩,fa,P0,Q0,P1,Q1,(BO P2 Q2 v).1.1,(BO P2 Q2 v).1.2⟩,(BO P2 Q2 v).2)):=rfl;generalize BO P2 Q2 v=G at *;obtain ⟨⟨u1,u2⟩,ok⟩:=G;simp only at HG HU hu;go_wp2_with ((with_reducible refine OP 65 ?_);(refine Af rfl CO (.tmp 64) rfl z (7) rfl #[.int .i64 P2,.int .i64 Q2] rfl ((H.blk 2 rfl).part 7 _ rfl) ?_));refine (HG _).mono ?_;rintro e w6 ⟨rfl,hb6⟩;replace H:=Aa (H.Av hb6);clear hb6 HG;cases ok with
       |true=>
        have HR2:Hid (Ea C1 0 ys=Ea ⟨⟨ds.map Dm.Ac,ms⟩,fa,P0,Q0,P1,Q1,u1,u2⟩ (2+1) (ys.drop (2+1))):=by
         show _=_;rw [Ic.Ab,Bp Tn.Ab,Fq Zb8,HU.Ab]
        have hI2:Hid (AZ P0∧AZ Q0∧AZ P1∧AZ Q1∧AZ u1∧AZ u2):=⟨hI.1,hI.2.1,hI.2.2.1,hI.2.2.2.1,hu.1,hu.2⟩;clear Ic HU;go_wp2_with ((with_reducible refine OS 71 ?_);refine Bq rfl CO (.tmp 71) (.tmp 68) rfl z 7 rfl (H.blk 2 rfl) #[.int .i64 u1,.int .i64 u2] rfl uH rfl Za2 ?_;intro wq bq Aq;replace bq:Bh wq z 63 #[.slice B m d,.slice MB mm md,.int .i64 fa,.int .i64 P0,.int .i64 Q0,.int .i64 P1,.int .i64 Q1,.int .i64 u1,.int .i64 u2]:=bq;replace H:=Aa (H.AA 2 rfl Aq bq);(try simp only [LS] at H);clear Aq bq);go_roundg (mn - (2+1));case rel=>exact ⟨2+1,P0,Q0,P1,Q1,u1,u2,true,rfl,Xl,rfl,rfl,H,HR2,hI2⟩
        case measure=>rw [Lt.Ab];omega
       |false=>
        have Om:Hid (O=(CC.nil,12)):=by
         exact Ze5
        go_wp2_with (first|((with_reducible refine OS 71 ?_);refine Bq rfl CO (.tmp 71) (.tmp 68) rfl z 7 rfl (H.blk 2 rfl) #[.int .i64 u1,.int .i64 u2] rfl uH rfl Za2 ?_;intro wq bq Aq;replace bq:Bh wq z 63 #[.slice B m d,.slice MB mm md,.int .i64 fa,.int .i64 P0,.int .i64 Q0,.int .i64 P1,.int .i64 Q1,.int .i64 u1,.int .i64 u2]:=bq;replace H:=Aa (H.AA 2 rfl Aq bq);(try simp only [LS] at H);clear Aq bq)|((with_reducible refine OS 4 ?_);(refine Cj BI H 1 rfl (#[.slice none 0 0,.slice none 0 0,.int .i64 0,.int .i64 0,.int .i64 0,.int .i64 0,.int .i64 0,.int .i64 0,.int .i64 0]) Za2 ?_;clear H;intro wq H;(try simp only [LS] at H))));refine Bc (Au rfl BI rfl (H.blk 1 rfl) rfl) rfl ?_;rw [Om.Ab];exact Da H.to
     ·obtain rfl:j=mn:=by omega
      have zJ:Hid (EG j ⟨⟨ds.map Dm.Ac,ms⟩,fa,p0,q0,p1,q1,p2,q2⟩ (rs.map (·.l))=EG j ⟨⟨ds.map Dm.Ac,ms⟩,fa,P0,Q0,P1,Q1,P2,Q2⟩ ((rs.map (·.l)).drop (k+1))):=by
       show _=_;rw [KX.Ab,Bp Yj.Ab];refine Sg (Vg.Ab) ?_;rw [Ic.Ab,EN (by have:=Vg.Ab;omega)]
       rfl
      clear KX Ic;go_wp2_with fail;go_roundg (rn - (k+1));case rel=>exact ⟨k+1,P0,Q0,P1,Q1,P2,Q2,ob,rfl,Xl,rfl,by go_num,H,zJ,hI⟩
      case measure=>rw [Cs.Ab];omega
   ·have e1:(((yn:Nat):Int) !=mn)=true:=by simp;omega
    have Om:Hid (O=(CC.nil,2)):=by
     exact Zu8
    clear hyn;go_wp2_with ((with_reducible refine OS 4 ?_);(refine Cj BI H 1 rfl (#[.slice none 0 0,.slice none 0 0,.int .i64 0,.int .i64 0,.int .i64 0,.int .i64 0,.int .i64 0,.int .i64 0,.int .i64 0]) Za2 ?_;clear H;intro wq H;(try simp only [LS] at H)));refine Bc (Au rfl BI rfl (H.blk 1 rfl) rfl) rfl ?_;rw [Om.Ab];exact Da H.to
  ·obtain rfl:k=rn:=by omega
   have Om:Hid (O=(⟨⟨ds.map Dm.Ac,ms⟩,fa+k,P0,Q0,P1,Q1,P2,Q2⟩,0)):=by
    exact Zt2
   clear HRR;have cz2:=(H.blk 2 rfl).Ap 2;have fz2:=(H.blk 2 rfl).frozen 2;go_wp2_with (first|((with_reducible refine OP 83 ?_);replace H:=Aa (H.setCell 2 rfl 2 (.int .i64 (fa+k)));(try simp only [LS] at H);clear cz2 fz2;refine Bf BI (H.blk 2 rfl) ?_)|((with_reducible refine OS 4 ?_);(refine Cj BI H 1 rfl (#[.slice B m d,.slice MB mm md,.int .i64 (fa+k),.int .i64 P0,.int .i64 Q0,.int .i64 P1,.int .i64 Q1,.int .i64 P2,.int .i64 Q2]) Za2 ?_;clear H;intro wq H;(try simp only [LS] at H))));refine Bc (Au rfl BI rfl (H.blk 1 rfl) rfl) rfl ?_;rw [Om.Ab];exact ⟨⟨⟨⟨B,m,d,es⟩,⟨MB,mm,md,mt⟩⟩,fa+k,P0,Q0,P1,Q1,P2,Q2⟩,rfl,CW (fun s=>(⟨s,fa+k,P0,Q0,P1,Q1,P2,Q2⟩:CC)) HDC.Ab,⟨(H.at_ 3 rfl).rd,by show _≤fa+(k:Int)∧fa+(k:Int)≤_;omega,hI.1,hI.2.1,hI.2.2.1,hI.2.2.2.1,hI.2.2.2.2.1,hI.2.2.2.2.2⟩,GH (H.at_ 3 rfl),H.to,H.get 3 rfl,H.new 3 rfl⟩
):p:=h
theorem Zb5 {p:Prop} (h:p:=by exact ⟨(H.blk 0 rfl).cell 0,(H.blk 0 rfl).cell 1,(H.blk 0 rfl).cell 2,(H.blk 0 rfl).cell 3,(H.blk 0 rfl).cell 4,(H.blk 0 rfl).cell 5,(H.blk 0 rfl).cell 6,(H.blk 0 rfl).cell 7,(H.blk 0 rfl).cell 8⟩):p:=h
theorem Zk9 {p:Prop} (h:p:=by refine Aj Ad Zb5 fun hHeld=>?_;clear Ad KK;refine BG MH fun KK Ad=>?_;generalize w3.heap.size=z at *;generalize World.alloc w3 _=w4 at *;refine Jp rfl BI (.tmp 7) (.tmp 33) rfl _ rfl (H.blk 3 rfl) rfl (#[.slice B m d,.slice MB mm md,.int .i64 fa,.int .i64 p0,.int .i64 q0,.int .i64 p1,.int .i64 q1,.int .i64 p2,.int .i64 q2]) rfl rfl Za2 ?_;intro wq bq Aq;replace H:=Aa (H.AA 3 rfl Aq bq);(try simp only [LS] at H);clear Aq bq;refine Aj Ad Zb5 fun hHeld=>?_;clear Ad KK;refine BZ ?_;clear hHeld;replace H:=Aa (H.Fg [0,1,3,2] Za1 uH);(try simp only [LS] at H);exact Zh8):p:=h
theorem Zn4 {p:Prop} (h:p:=by go_wp2_with ((with_reducible refine OS 4 ?_);(refine Cj BI H 1 rfl (#[.slice none 0 0,.slice none 0 0,.int .i64 0,.int .i64 0,.int .i64 0,.int .i64 0,.int .i64 0,.int .i64 0,.int .i64 0]) Za2 ?_;clear H;intro wq H;(try simp only [LS] at H)));refine Bc (Au rfl BI rfl (H.blk 1 rfl) rfl) rfl ?_;rw [dY.Ab];exact Da H.to):p:=h
theorem Zf2 {p:Prop} (h:p:=by rw [CQ,hrl.Ab];exact h4):p:=h
theorem Qv (s:Ct) (r:Row (Row Int)) (w:World) (hs:s.rd w) (hm:C9 s.sc) (hr:r.rd w) (hrn:r.n≤1000000):
 Calls prog 59 #[.agg s.cs,.slice r.A r.n r.c] w (Wo (Fx s.Ac (r.l.map (·.l))) w):=by
 have HC:=Aa (fun w' (hb:Ai w w')=>Qw s w' (hs.mono hb) hm);have HK:=Aa (fun hE w' (hb:Ai w w')=>VY s.sc w' (hs.sc.mono hb) hE);have HRW:=Aa hr;have vF:Hid (∀ y ∈ r.l,∀ w',Ai w w'→y.rd w'):=fun y hy w' hb=>(hr.all y hy).zS.mono hb
 have hrl:Hid (r.l.length=r.n):=hr.len;have WZ:Hid (s.sc.ms.l.length=s.sc.ms.n):=hs.sc.ms.len;have H:=Aa (((SL.start No w).alloc s.cs 63).alloc #[.slice none 0 0,.slice none 0 0,.int .i64 0,.int .i64 0,.int .i64 0,.int .i64 0,.int .i64 0,.int .i64 0,.int .i64 0] 63);(try simp only [LS] at H);have hfa:=hs.fa;unfold AZ at hfa;have HI0:Hid (AZ s.p0∧AZ s.q0∧AZ s.p1∧AZ s.q1∧AZ s.p2∧AZ s.q2):=⟨hs.p0,hs.q0,hs.p1,hs.q1,hs.p2,hs.q2⟩;generalize hO:Fx s.Ac (r.l.map (·.l))=O;have HO:=Aa hO;clear hO;obtain ⟨⟨⟨A,n,c,ds⟩,⟨MA,mn,mc,ms⟩⟩,fa,p0,q0,p1,q1,p2,q2⟩:=s;obtain ⟨RA,rn,rc,rs⟩:=r;simp only [Ct.cs,El.cs,Ct.Ac,El.Ac] at *;obtain ⟨f1,f2⟩:=hfa;clear hs hm hr;go_enter func59,ntmps59;go_upto_region 1 with fail;generalize w.heap.size+1=y at *;generalize w.heap.size=x at *;generalize World.alloc (World.alloc _ _) _=w1 at *;go_wp2_with ((with_reducible refine OP 13 ?_);(refine Bf BI (H.blk 0 rfl) ?_));refine (HC _ H.to).mono ?_;rintro e w2 ⟨rfl,hb2⟩;replace H:=Aa (H.Av hb2);clear hb2 HC;by_cases hE:Bu ⟨⟨ds.map Dm.Ac,ms⟩,fa,p0,q0,p1,q1,p2,q2⟩=0
 ·obtain ⟨g1,g2,g3⟩:=MM hE;have Y0:mn≤3:=by have h:ms.length≤3:=(BH g1).2.2.2.2.1;have:=WZ.Ab;omega
  replace HK:=Aa (HK g1);simp only at g2 g3;by_cases h4:4000<fa+rn
  ·have dY:Hid (O=(CC.nil,6)):=by have h:=HO.Ab;unfold Fx at h;rw [Ak Zb9,Al Zf2] at h;exact h.symm
   have e1:decide (4000 - fa<(rn:Int))=true:=PS Xl;rw [hE];have c2:=(H.blk 0 rfl).Ap 2;clear hE g1 HK HO;exact Zn4
  ·have HO4:Hid (O=Xh rn (EG mn ⟨⟨ds.map Dm.Ac,ms⟩,fa,p0,q0,p1,q1,p2,q2⟩ (rs.map (·.l)))):=by have h:=HO.Ab;unfold Fx at h;rw [Ak Zb9,Ak Zf2] at h;rw [←h,CQ,hrl.Ab];show Xh rn (EG ms.length _ _)=_;rw [WZ.Ab]
   have e1:decide (4000 - fa<(rn:Int))=false:=WB Xl;rw [hE];have c2:=(H.blk 0 rfl).Ap 2;clear hE g1 HO;go_upto_region 6 with fail;clear c2 e1;refine Ep (S:=fun w=>w.cell? ⟨x,0,none⟩=some (.slice A n c)∧w.cell? ⟨x,1,none⟩=some (.slice MA mn mc)∧w.cell? ⟨x,2,none⟩=some (.int .i64 fa)∧w.cell? ⟨x,3,none⟩=some (.int .i64 p0)∧w.cell? ⟨x,4,none⟩=some (.int .i64 q0)∧w.cell? ⟨x,5,none⟩=some (.int .i64 p1)∧w.cell? ⟨x,6,none⟩=some (.int .i64 q1)∧w.cell? ⟨x,7,none⟩=some (.int .i64 p2)∧w.cell? ⟨x,8,none⟩=some (.int .i64 q2)) Za0 Zb5 fun hHeld=>?_;replace H:=Aa (H.drew);refine Bd Ml ?_;refine Bd KF ?_;refine Bd Ky ?_;refine Bd LJ ?_;refine Bd KW ?_;refine Bd MI ?_;refine Oh MN Mk (fun KK Ad=>?_) fun KK Ad=>?_
   ·go_simp;refine (HK _ H.to).mono ?_;rintro e w3 ⟨D,rfl,hD,hb3,hN⟩;replace H:=Aa (H.add hb3 _ hN.1 hN.2);(try simp only [LS] at H);have HDC:=Aa hD;clear hN hD hb3;obtain ⟨⟨B,m,d,es⟩,⟨MB,mm,md,mt⟩⟩:=D;simp only [El.cs,El.Ac] at *;have hbd:∀ w:World,(Instr.build 63 #[(0,.agg #[.slice B m d,.slice MB mm md]),(1,.int .i64 fa),(2,.agg #[.int .i64 p0,.int .i64 q0,.int .i64 p1,.int .i64 q1,.int .i64 p2,.int .i64 q2])]).run prog w=.ok (.agg #[.slice B m d,.slice MB mm md,.int .i64 fa,.int .i64 p0,.int .i64 q0,.int .i64 p1,.int .i64 q1,.int .i64 p2,.int .i64 q2]) w:=fun _=>by kernel_rfl
    refine Aj Ad Zb5 fun hHeld=>?_;clear Ad KK;refine Oh Lj Mk (fun KK Ad=>?_) fun KK Ad=>?_
    ·go_simp;refine Aj Ad Zb5 fun hHeld=>?_;clear Ad KK;refine BG Mk fun KK Ad=>?_;go_simp;replace H:=Aa (H.alloc #[.slice none 0 0,.slice none 0 0,.int .i64 0,.int .i64 0,.int .i64 0,.int .i64 0,.int .i64 0,.int .i64 0,.int .i64 0] 63);(try simp only [LS] at H);exact Zk9
    ·go_simp;replace H:=Aa (H.alloc #[.slice none 0 0,.slice none 0 0,.int .i64 0,.int .i64 0,.int .i64 0,.int .i64 0,.int .i64 0,.int .i64 0,.int .i64 0] 63);(try simp only [LS] at H);refine Aj Ad Zb5 fun hHeld=>?_;clear Ad KK;refine BG Lj fun KK Ad=>?_;go_simp;exact Zk9
   ·go_simp;replace H:=Aa (H.alloc #[.slice none 0 0,.slice none 0 0,.int .i64 0,.int .i64 0,.int .i64 0,.int .i64 0,.int .i64 0,.int .i64 0,.int .i64 0] 63);(try simp only [LS] at H);refine Aj Ad Zb5 fun hHeld=>?_;clear Ad KK;refine BG MN fun KK Ad=>?_;go_simp;refine (HK _ H.to).mono ?_;rintro e w3 ⟨D,rfl,hD,hb3,hN⟩;replace H:=Aa (H.add hb3 _ hN.1 hN.2);(try simp only [LS] at H);have HDC:=Aa hD;clear hN hD hb3;obtain ⟨⟨B,m,d,es⟩,⟨MB,mm,md,mt⟩⟩:=D;simp only [El.cs,El.Ac] at *;have hbd:∀ w:World,(Instr.build 63 #[(0,.agg #[.slice B m d,.slice MB mm md]),(1,.int .i64 fa),(2,.agg #[.int .i64 p0,.int .i64 q0,.int .i64 p1,.int .i64 q1,.int .i64 p2,.int .i64 q2])]).run prog w=.ok (.agg #[.slice B m d,.slice MB mm md,.int .i64 fa,.int .i64 p0,.int .i64 q0,.int .i64 p1,.int .i64 q1,.int .i64 p2,.int .i64 q2]) w:=fun _=>by kernel_rfl
    refine Aj Ad Zb5 fun hHeld=>?_;clear Ad KK;refine BG Lj fun KK Ad=>?_;go_simp;refine Aj Ad Zb5 fun hHeld=>?_;clear Ad KK;refine BG MH fun KK Ad=>?_;have hdz:w2.drew.heap.size=w2.heap.size:=rfl;rw [hdz] at H;clear hdz;generalize w2.heap.size=z at *;refine Jp rfl BI (.tmp 7) (.tmp 33) rfl _ rfl (H.blk 2 rfl) rfl (#[.slice B m d,.slice MB mm md,.int .i64 fa,.int .i64 p0,.int .i64 q0,.int .i64 p1,.int .i64 q1,.int .i64 p2,.int .i64 q2]) rfl rfl Za2 ?_;intro wq bq Aq;replace H:=Aa (H.AA 2 rfl Aq bq);(try simp only [LS] at H);clear Aq bq;refine Aj Ad Zb5 fun hHeld=>?_;clear Ad KK;refine BZ ?_;clear hHeld;skip;exact Zh8
 ·have dY:Hid (O=(CC.nil,Bu ⟨⟨ds.map Dm.Ac,ms⟩,fa,p0,q0,p1,q1,p2,q2⟩)):=by have h:=HO.Ab;unfold Fx at h;rw [Al hE] at h;exact h.symm
  have dE:(Bu ⟨⟨ds.map Dm.Ac,ms⟩,fa,p0,q0,p1,q1,p2,q2⟩==0)=false:=by simpa using hE
  generalize Bu ⟨⟨ds.map Dm.Ac,ms⟩,fa,p0,q0,p1,q1,p2,q2⟩=E at *;clear hE HO HK;exact Zn4
def Ct.ints (s:Ct):Prop:=AZ s.fa∧AZ s.p0∧AZ s.q0∧AZ s.p1∧AZ s.q1∧AZ s.p2∧AZ s.q2
theorem Ct.rd.ints {s:Ct} {w:World} (h:s.rd w):s.ints:=⟨h.fa,h.p0,h.q0,h.p1,h.q1,h.p2,h.q2⟩
theorem Ct.ints.rd {s:Ct} {w:World} (h:s.ints) (ho:UX s.sc w):s.rd w:=⟨ho.rd,h.1,h.2.1,h.2.2.1,h.2.2.2.1,h.2.2.2.2.1,h.2.2.2.2.2.1,h.2.2.2.2.2.2⟩
def Rcat (w0:World) (s:List UInt8) (B g z:Nat) (o:PR CC) (k:Int) (w':World):Prop:=
 k=cZ o∧∃ (D:Ct) (q:List UInt8),SL No w0 w' (Kl B s q [Aw g 63 D.cs,Aw z 63 #[.slice none 0 0,.slice none 0 0,.int .i64 0,.int .i64 0,.int .i64 0,.int .i64 0,.int .i64 0,.int .i64 0,.int .i64 0],Kj D.sc])∧(∀ d r,o=.ok (d,r)→D.Ac=d)∧D.ints
theorem Af9 {k:Int} {l:List UInt8} (h:NT l=.error k):k≠0:=by
 unfold NT at h;split at h
 ·rename_i h1;injection h with h;subst h;exact ZY h1
 ·rename_i s l1 h1;unfold zY at h;split at h
  ·rename_i h2;injection h with h;subst h;have:=EE h2;omega
  ·rename_i fa l2 h2;unfold zX at h;split at h
   ·rename_i h3;injection h with h;subst h;refine KP (p:=Mw) (fun l k h=>?_) h3;unfold Mw at h;split at h
    ·rename_i h4;injection h with h;subst h;have:=aY h4;omega
    ·split at h
     ·rename_i h4;injection h with h;subst h;have:=aY h4;omega
     ·cases h
   ·unfold iL at h;split at h
    ·cases h
    ·rename_i hE;injection h with h;subst h;exact hE
theorem mK (w0:World) (B g z:Nat) (s:List UInt8) (w:World) (h:SL No w0 w (Kl B s s [Aw g 63 #[.slice none 0 0,.slice none 0 0,.int .i64 0,.int .i64 0,.int .i64 0,.int .i64 0,.int .i64 0,.int .i64 0,.int .i64 0],Aw z 63 #[.slice none 0 0,.slice none 0 0,.int .i64 0,.int .i64 0,.int .i64 0,.int .i64 0,.int .i64 0,.int .i64 0,.int .i64 0]])):
 Calls prog 125 #[.pointer (some ⟨B+1,0,none⟩),.pointer (some ⟨g,0,none⟩)] w (Nu B s (Rcat w0 s B g z (NT s))):=by
 have HT:=Aa (XG (B+1) s s w (h.Fv 0 rfl));have H:=Aa h;clear h;go_enter func125,ntmps125;go_wp2_with fail;cases ho:GU s with
 |error k=>
  have HE:Hid (NT s=.error k):=by show _=_;unfold NT;rw [ho]
  rw [ho] at HT;refine HT.mono ?_;rintro e w1 ⟨rfl,hg,l1,hr⟩;replace H:=Aa ((H.readAll hg hr).add (Ai.refl _) _ (Ko w1) Mv);(try simp only [LS] at H);clear ho hg hr HT;go_wp2_with fail;refine ⟨rfl,?_⟩;exact SL.err H ⟨by rw [HE.Ab];(try rfl),Ct.nil,l1,H.Ab,(fun _ _ h=>by rw [HE.Ab] at h;cases h),⟨BN,BN,BN,BN,BN,BN,BN⟩⟩
 |ok q=>
  obtain ⟨sc,l1⟩:=q;have dZ:Hid (NT s=zY sc (DD 4000 l1)):=by show _=_;unfold NT;rw [ho]
  have hsc:=(iF ho).1;rw [ho] at HT;refine HT.mono ?_;rintro e w1 ⟨D,rfl,EW,hg,hr,hnew⟩;replace H:=Aa (H.ZR hg hr (Kj D) hnew.1 hnew.2);(try simp only [LS] at H);have OU:=Aa EW;have WZ:Hid (D.ms.l.length=D.ms.n):=hnew.1.now.rd.ms.len;clear ho hg hr hnew EW HT;obtain ⟨⟨B',m',d',es⟩,⟨MB,mn,md,ms⟩⟩:=D;simp only [El.cs,El.Ac] at *;have hmn:Hid (sc.ms.length=mn):=by show _=_;rw [←OU.Ab];exact WZ.Ab
  have Y0:mn≤3:=by have:=hmn.Ab;have:=(BH hsc).2.2.2.2.1;omega
  clear WZ hsc;go_wp2_with ((with_reducible refine OS 7 ?_);refine Bq rfl Bb (.tmp 7) (.tmp 6) rfl g 0 rfl (H.blk 3 rfl) #[.slice B' m' d',.slice MB mn md] rfl uH rfl Za2 ?_;intro wq bq Aq;replace bq:Bh wq g 63 #[.slice B' m' d',.slice MB mn md,.int .i64 0,.int .i64 0,.int .i64 0,.int .i64 0,.int .i64 0,.int .i64 0,.int .i64 0]:=bq;replace H:=Aa (H.AA 3 rfl Aq bq);(try simp only [LS] at H);clear Aq bq);have HN:=Aa (IM (B+1) s l1 4000 _ (H.Fv 0 rfl) Xl Xl);cases hx:DD 4000 l1 with
  |error k=>
   have HE:Hid (NT s=.error k):=by show _=_;rw [dZ.Ab,hx];(try rfl)
   rw [hx] at HN;refine HN.mono ?_;rintro e w3 ⟨rfl,hg3,l3,hr3⟩;replace H:=Aa (H.Cb 0 rfl hg3 hr3);(try simp only [LS] at H);clear hx hg3 hr3 HN;go_wp2_with fail;refine ⟨rfl,?_⟩;exact SL.err H ⟨by rw [HE.Ab];(try rfl),⟨⟨⟨B',m',d',es⟩,⟨MB,mn,md,ms⟩⟩,0,0,0,0,0,0,0⟩,l3,H.Ab,(fun _ _ h=>by rw [HE.Ab] at h;cases h),⟨BN,BN,BN,BN,BN,BN,BN⟩⟩
  |ok q=>
   obtain ⟨fa,l2⟩:=q;have hfa:=(ES hx).2.1;have HE2:Hid (NT s=zX sc fa (Bw Mw mn [] l2)):=by show _=_;rw [dZ.Ab,hx,←hmn.Ab];(try rfl)
   rw [hx] at HN;refine HN.mono ?_;rintro e w3 ⟨rfl,hg3,hr3⟩;replace H:=Aa (H.Cb 0 rfl hg3 hr3);(try simp only [LS] at H);clear hx hg3 hr3 HN dZ;have cf:=(H.blk 3 rfl).Ap 2;have ff:=(H.blk 3 rfl).frozen 2;have cm:=(H.blk 3 rfl).Ap 1;have ifa:AZ (fa:Int):=by unfold AZ;omega
   go_wp2_with fail;replace H:=Aa (H.setCell 3 rfl 2 (.int .i64 (fa:Nat)));(try simp only [LS] at H);clear cf ff cm;have HP0:Hid (Bw Mw mn [] l2=Bw Mw (mn - 0) [] l2):=rfl;have HI0:Hid (Ct.ints ⟨⟨⟨B',m',d',es⟩,⟨MB,mn,md,ms⟩⟩,fa,(([]:List (Int × Int)).getD 0 (0,0)).1,(([]:List (Int × Int)).getD 0 (0,0)).2,(([]:List (Int × Int)).getD 1 (0,0)).1,(([]:List (Int × Int)).getD 1 (0,0)).2,(([]:List (Int × Int)).getD 2 (0,0)).1,(([]:List (Int × Int)).getD 2 (0,0)).2⟩):=⟨ifa,BN,BN,BN,BN,BN,BN⟩;go_loopg [15] mn (fun gg i wr=>∃ (k:Nat) (ts:List (Int × Int)) (l':List UInt8),gg=mn - k∧k≤mn∧i=.int .i64 k∧Hid (ts.length=k)∧Hid (SL No w0 wr (Kl B s l' [Aw g 63 #[.slice B' m' d',.slice MB mn md,.int .i64 (fa:Nat),.int .i64 (ts.getD 0 (0,0)).1,.int .i64 (ts.getD 0 (0,0)).2,.int .i64 (ts.getD 1 (0,0)).1,.int .i64 (ts.getD 1 (0,0)).2,.int .i64 (ts.getD 2 (0,0)).1,.int .i64 (ts.getD 2 (0,0)).2],Aw z 63 #[.slice none 0 0,.slice none 0 0,.int .i64 0,.int .i64 0,.int .i64 0,.int .i64 0,.int .i64 0,.int .i64 0,.int .i64 0],Kj ⟨⟨B',m',d',es⟩,⟨MB,mn,md,ms⟩⟩]))∧Hid (Bw Mw mn [] l2=Bw Mw (mn - k) ts l')∧Hid (Ct.ints ⟨⟨⟨B',m',d',es⟩,⟨MB,mn,md,ms⟩⟩,fa,(ts.getD 0 (0,0)).1,(ts.getD 0 (0,0)).2,(ts.getD 1 (0,0)).1,(ts.getD 1 (0,0)).2,(ts.getD 2 (0,0)).1,(ts.getD 2 (0,0)).2⟩));case atStart=>exact ⟨0,[],l2,rfl,Xl,rfl,rfl,H,HP0,HI0⟩
   case round=>
    clear H HP0 HI0;obtain ⟨k,ts,l',BR,hk,rfl,hts,H,HP,HI⟩:=hrel;have Cs:=Aa BR;clear BR;by_cases hlt:k<mn
    ·have j1:(k:Int)<mn:=by omega
     obtain rfl|rfl|rfl:k=0∨k=1∨k=2:=by omega
     ·obtain rfl:ts=[]:=LD hts.Ab;rw [show ((0:Nat):Int)=0 from rfl] at j1 ⊢;have HA:=Aa (fun w (hR:Ir w (B+1) s l')=>Qn (B+1) s l' w hR);rw [GX (show 0<mn by omega)] at HP;cases ha:GY l' with
      |error k1=>
       rw [ha] at HA;have HE:Hid (NT s=.error k1):=by show _=_;rw [HE2.Ab,HP.Ab];unfold Mw;rw [ha];(try rfl)
       clear ha HP;go_wp2_with fail;refine (HA _ (H.Fv 0 rfl)).mono ?_;rintro e w5 ⟨rfl,hg5,l5,Tj⟩;replace H:=Aa (H.Cb 0 rfl hg5 Tj);(try simp only [LS] at H);clear hg5 Tj HA;replace HE2:=HE;go_wp2_with fail;refine ⟨rfl,?_⟩;exact SL.err H ⟨by rw [HE.Ab];(try rfl),⟨⟨⟨B',m',d',es⟩,⟨MB,mn,md,ms⟩⟩,fa,([].getD 0 (0,0)).1,([].getD 0 (0,0)).2,([].getD 1 (0,0)).1,([].getD 1 (0,0)).2,([].getD 2 (0,0)).1,([].getD 2 (0,0)).2⟩,l5,H.Ab,(fun _ _ h=>by rw [HE.Ab] at h;cases h),HI.Ab⟩
      |ok q=>
       obtain ⟨a,l5⟩:=q;have ia:=(KR ha).2;rw [ha] at HA;go_wp2_with fail;refine (HA _ (H.Fv 0 rfl)).mono ?_;rintro e w5 ⟨rfl,hg5,Tj⟩;replace H:=Aa (H.Cb 0 rfl hg5 Tj);(try simp only [LS] at H);clear hg5 Tj HA;have HA:=Aa (fun w (hR:Ir w (B+1) s l5)=>Qn (B+1) s l5 w hR);cases hb:GY l5 with
       |error k1=>
        rw [hb] at HA;have HE:Hid (NT s=.error k1):=by show _=_;rw [HE2.Ab,HP.Ab];unfold Mw;rw [ha];simp only;rw [hb];(try rfl)
        clear ha hb HP;go_wp2_with fail;refine (HA _ (H.Fv 0 rfl)).mono ?_;rintro e w6 ⟨rfl,rJ,l6,rD⟩;replace H:=Aa (H.Cb 0 rfl rJ rD);(try simp only [LS] at H);clear rJ rD HA;go_wp2_with fail;refine ⟨rfl,?_⟩;exact SL.err H ⟨by rw [HE.Ab];(try rfl),⟨⟨⟨B',m',d',es⟩,⟨MB,mn,md,ms⟩⟩,fa,([].getD 0 (0,0)).1,([].getD 0 (0,0)).2,([].getD 1 (0,0)).1,([].getD 1 (0,0)).2,([].getD 2 (0,0)).1,([].getD 2 (0,0)).2⟩,l6,H.Ab,(fun _ _ h=>by rw [HE.Ab] at h;cases h),HI.Ab⟩
       |ok q=>
        obtain ⟨b,l6⟩:=q;have ib:=(KR hb).2;rw [hb] at HA;have Xq:Hid (Bw Mw mn [] l2=Bw Mw (mn - (0+1)) [(a,b)] l6):=by show _=_;rw [HP.Ab];unfold Mw;rw [ha];simp only;rw [hb];(try rfl)
        have HI2:Hid (Ct.ints ⟨⟨⟨B',m',d',es⟩,⟨MB,mn,md,ms⟩⟩,fa,([(a,b)].getD 0 (0,0)).1,([(a,b)].getD 0 (0,0)).2,([(a,b)].getD 1 (0,0)).1,([(a,b)].getD 1 (0,0)).2,([(a,b)].getD 2 (0,0)).1,([(a,b)].getD 2 (0,0)).2⟩):=⟨HI.1,ia,ib,HI.2.2.2.1,HI.2.2.2.2.1,HI.2.2.2.2.2.1,HI.2.2.2.2.2.2⟩;clear ha hb HP;go_wp2_with fail;refine (HA _ (H.Fv 0 rfl)).mono ?_;rintro e w6 ⟨rfl,rJ,rD⟩;replace H:=Aa (H.Cb 0 rfl rJ rD);(try simp only [LS] at H);clear rJ rD HA;go_wp2_with ((with_reducible refine OS 25 ?_);refine Bq rfl CO (.tmp 25) (.tmp 23) rfl g 3 rfl (H.blk 3 rfl) #[.int .i64 a,.int .i64 b] rfl uH rfl Za2 ?_;intro wq bq Aq;replace bq:Bh wq g 63 #[.slice B' m' d',.slice MB mn md,.int .i64 (fa:Nat),.int .i64 ([(a,b)].getD 0 (0,0)).1,.int .i64 ([(a,b)].getD 0 (0,0)).2,.int .i64 ([(a,b)].getD 1 (0,0)).1,.int .i64 ([(a,b)].getD 1 (0,0)).2,.int .i64 ([(a,b)].getD 2 (0,0)).1,.int .i64 ([(a,b)].getD 2 (0,0)).2]:=bq;replace H:=Aa (H.AA 3 rfl Aq bq);(try simp only [LS] at H);clear Aq bq);go_roundg (mn - (0+1));case rel=>exact ⟨0+1,[(a,b)],l6,rfl,Xl,rfl,rfl,H,Xq,HI2⟩
        case measure=>rw [Cs.Ab];omega
     ·obtain ⟨t0,rfl⟩:∃ t0,ts=[t0]:=by match ts,hts.Ab with|[x],_=>exact ⟨x,rfl⟩
      rw [show ((1:Nat):Int)=1 from rfl] at j1 ⊢;have HA:=Aa (fun w (hR:Ir w (B+1) s l')=>Qn (B+1) s l' w hR);rw [GX (show 1<mn by omega)] at HP;cases ha:GY l' with
      |error k1=>
       rw [ha] at HA;have HE:Hid (NT s=.error k1):=by show _=_;rw [HE2.Ab,HP.Ab];unfold Mw;rw [ha];(try rfl)
       clear ha HP;go_wp2_with fail;refine (HA _ (H.Fv 0 rfl)).mono ?_;rintro e w5 ⟨rfl,hg5,l5,Tj⟩;replace H:=Aa (H.Cb 0 rfl hg5 Tj);(try simp only [LS] at H);clear hg5 Tj HA;replace HE2:=HE;go_wp2_with fail;refine ⟨rfl,?_⟩;exact SL.err H ⟨by rw [HE.Ab];(try rfl),⟨⟨⟨B',m',d',es⟩,⟨MB,mn,md,ms⟩⟩,fa,([t0].getD 0 (0,0)).1,([t0].getD 0 (0,0)).2,([t0].getD 1 (0,0)).1,([t0].getD 1 (0,0)).2,([t0].getD 2 (0,0)).1,([t0].getD 2 (0,0)).2⟩,l5,H.Ab,(fun _ _ h=>by rw [HE.Ab] at h;cases h),HI.Ab⟩
      |ok q=>
       obtain ⟨a,l5⟩:=q;have ia:=(KR ha).2;rw [ha] at HA;go_wp2_with fail;refine (HA _ (H.Fv 0 rfl)).mono ?_;rintro e w5 ⟨rfl,hg5,Tj⟩;replace H:=Aa (H.Cb 0 rfl hg5 Tj);(try simp only [LS] at H);clear hg5 Tj HA;have HA:=Aa (fun w (hR:Ir w (B+1) s l5)=>Qn (B+1) s l5 w hR);cases hb:GY l5 with
       |error k1=>
        rw [hb] at HA;have HE:Hid (NT s=.error k1):=by show _=_;rw [HE2.Ab,HP.Ab];unfold Mw;rw [ha];simp only;rw [hb];(try rfl)
        clear ha hb HP;go_wp2_with fail;refine (HA _ (H.Fv 0 rfl)).mono ?_;rintro e w6 ⟨rfl,rJ,l6,rD⟩;replace H:=Aa (H.Cb 0 rfl rJ rD);(try simp only [LS] at H);clear rJ rD HA;go_wp2_with fail;refine ⟨rfl,?_⟩;exact SL.err H ⟨by rw [HE.Ab];(try rfl),⟨⟨⟨B',m',d',es⟩,⟨MB,mn,md,ms⟩⟩,fa,([t0].getD 0 (0,0)).1,([t0].getD 0 (0,0)).2,([t0].getD 1 (0,0)).1,([t0].getD 1 (0,0)).2,([t0].getD 2 (0,0)).1,([t0].getD 2 (0,0)).2⟩,l6,H.Ab,(fun _ _ h=>by rw [HE.Ab] at h;cases h),HI.Ab⟩
       |ok q=>
        obtain ⟨b,l6⟩:=q;have ib:=(KR hb).2;rw [hb] at HA;have Xq:Hid (Bw Mw mn [] l2=Bw Mw (mn - (1+1)) [t0,(a,b)] l6):=by show _=_;rw [HP.Ab];unfold Mw;rw [ha];simp only;rw [hb];(try rfl)
        have HI2:Hid (Ct.ints ⟨⟨⟨B',m',d',es⟩,⟨MB,mn,md,ms⟩⟩,fa,([t0,(a,b)].getD 0 (0,0)).1,([t0,(a,b)].getD 0 (0,0)).2,([t0,(a,b)].getD 1 (0,0)).1,([t0,(a,b)].getD 1 (0,0)).2,([t0,(a,b)].getD 2 (0,0)).1,([t0,(a,b)].getD 2 (0,0)).2⟩):=⟨HI.1,HI.2.1,HI.2.2.1,ia,ib,HI.2.2.2.2.2.1,HI.2.2.2.2.2.2⟩;clear ha hb HP;go_wp2_with fail;refine (HA _ (H.Fv 0 rfl)).mono ?_;rintro e w6 ⟨rfl,rJ,rD⟩;replace H:=Aa (H.Cb 0 rfl rJ rD);(try simp only [LS] at H);clear rJ rD HA;go_wp2_with ((with_reducible refine OS 25 ?_);refine Bq rfl CO (.tmp 25) (.tmp 23) rfl g 5 rfl (H.blk 3 rfl) #[.int .i64 a,.int .i64 b] rfl uH rfl Za2 ?_;intro wq bq Aq;replace bq:Bh wq g 63 #[.slice B' m' d',.slice MB mn md,.int .i64 (fa:Nat),.int .i64 ([t0,(a,b)].getD 0 (0,0)).1,.int .i64 ([t0,(a,b)].getD 0 (0,0)).2,.int .i64 ([t0,(a,b)].getD 1 (0,0)).1,.int .i64 ([t0,(a,b)].getD 1 (0,0)).2,.int .i64 ([t0,(a,b)].getD 2 (0,0)).1,.int .i64 ([t0,(a,b)].getD 2 (0,0)).2]:=bq;replace H:=Aa (H.AA 3 rfl Aq bq);(try simp only [LS] at H);clear Aq bq);go_roundg (mn - (1+1));case rel=>exact ⟨1+1,[t0,(a,b)],l6,rfl,Xl,rfl,rfl,H,Xq,HI2⟩
        case measure=>rw [Cs.Ab];omega
     ·obtain ⟨t0,t1,rfl⟩:∃ t0 t1,ts=[t0,t1]:=by match ts,hts.Ab with|[x,y],_=>exact ⟨x,y,rfl⟩
      rw [show ((2:Nat):Int)=2 from rfl] at j1 ⊢;have HA:=Aa (fun w (hR:Ir w (B+1) s l')=>Qn (B+1) s l' w hR);rw [GX (show 2<mn by omega)] at HP;cases ha:GY l' with
      |error k1=>
       rw [ha] at HA;have HE:Hid (NT s=.error k1):=by show _=_;rw [HE2.Ab,HP.Ab];unfold Mw;rw [ha];(try rfl)
       clear ha HP;go_wp2_with fail;refine (HA _ (H.Fv 0 rfl)).mono ?_;rintro e w5 ⟨rfl,hg5,l5,Tj⟩;replace H:=Aa (H.Cb 0 rfl hg5 Tj);(try simp only [LS] at H);clear hg5 Tj HA;replace HE2:=HE;go_wp2_with fail;refine ⟨rfl,?_⟩;exact SL.err H ⟨by rw [HE.Ab];(try rfl),⟨⟨⟨B',m',d',es⟩,⟨MB,mn,md,ms⟩⟩,fa,([t0,t1].getD 0 (0,0)).1,([t0,t1].getD 0 (0,0)).2,([t0,t1].getD 1 (0,0)).1,([t0,t1].getD 1 (0,0)).2,([t0,t1].getD 2 (0,0)).1,([t0,t1].getD 2 (0,0)).2⟩,l5,H.Ab,(fun _ _ h=>by rw [HE.Ab] at h;cases h),HI.Ab⟩
      |ok q=>
       obtain ⟨a,l5⟩:=q;have ia:=(KR ha).2;rw [ha] at HA;go_wp2_with fail;refine (HA _ (H.Fv 0 rfl)).mono ?_;rintro e w5 ⟨rfl,hg5,Tj⟩;replace H:=Aa (H.Cb 0 rfl hg5 Tj);(try simp only [LS] at H);clear hg5 Tj HA;have HA:=Aa (fun w (hR:Ir w (B+1) s l5)=>Qn (B+1) s l5 w hR);cases hb:GY l5 with
       |error k1=>
        rw [hb] at HA;have HE:Hid (NT s=.error k1):=by show _=_;rw [HE2.Ab,HP.Ab];unfold Mw;rw [ha];simp only;rw [hb];(try rfl)
        clear ha hb HP;go_wp2_with fail;refine (HA _ (H.Fv 0 rfl)).mono ?_;rintro e w6 ⟨rfl,rJ,l6,rD⟩;replace H:=Aa (H.Cb 0 rfl rJ rD);(try simp only [LS] at H);clear rJ rD HA;go_wp2_with fail;refine ⟨rfl,?_⟩;exact SL.err H ⟨by rw [HE.Ab];(try rfl),⟨⟨⟨B',m',d',es⟩,⟨MB,mn,md,ms⟩⟩,fa,([t0,t1].getD 0 (0,0)).1,([t0,t1].getD 0 (0,0)).2,([t0,t1].getD 1 (0,0)).1,([t0,t1].getD 1 (0,0)).2,([t0,t1].getD 2 (0,0)).1,([t0,t1].getD 2 (0,0)).2⟩,l6,H.Ab,(fun _ _ h=>by rw [HE.Ab] at h;cases h),HI.Ab⟩
       |ok q=>
        obtain ⟨b,l6⟩:=q;have ib:=(KR hb).2;rw [hb] at HA;have Xq:Hid (Bw Mw mn [] l2=Bw Mw (mn - (2+1)) [t0,t1,(a,b)] l6):=by show _=_;rw [HP.Ab];unfold Mw;rw [ha];simp only;rw [hb];(try rfl)
        have HI2:Hid (Ct.ints ⟨⟨⟨B',m',d',es⟩,⟨MB,mn,md,ms⟩⟩,fa,([t0,t1,(a,b)].getD 0 (0,0)).1,([t0,t1,(a,b)].getD 0 (0,0)).2,([t0,t1,(a,b)].getD 1 (0,0)).1,([t0,t1,(a,b)].getD 1 (0,0)).2,([t0,t1,(a,b)].getD 2 (0,0)).1,([t0,t1,(a,b)].getD 2 (0,0)).2⟩):=⟨HI.1,HI.2.1,HI.2.2.1,HI.2.2.2.1,HI.2.2.2.2.1,ia,ib⟩;clear ha hb HP;go_wp2_with fail;refine (HA _ (H.Fv 0 rfl)).mono ?_;rintro e w6 ⟨rfl,rJ,rD⟩;replace H:=Aa (H.Cb 0 rfl rJ rD);(try simp only [LS] at H);clear rJ rD HA;go_wp2_with ((with_reducible refine OS 25 ?_);refine Bq rfl CO (.tmp 25) (.tmp 23) rfl g 7 rfl (H.blk 3 rfl) #[.int .i64 a,.int .i64 b] rfl uH rfl Za2 ?_;intro wq bq Aq;replace bq:Bh wq g 63 #[.slice B' m' d',.slice MB mn md,.int .i64 (fa:Nat),.int .i64 ([t0,t1,(a,b)].getD 0 (0,0)).1,.int .i64 ([t0,t1,(a,b)].getD 0 (0,0)).2,.int .i64 ([t0,t1,(a,b)].getD 1 (0,0)).1,.int .i64 ([t0,t1,(a,b)].getD 1 (0,0)).2,.int .i64 ([t0,t1,(a,b)].getD 2 (0,0)).1,.int .i64 ([t0,t1,(a,b)].getD 2 (0,0)).2]:=bq;replace H:=Aa (H.AA 3 rfl Aq bq);(try simp only [LS] at H);clear Aq bq);go_roundg (mn - (2+1));case rel=>exact ⟨2+1,[t0,t1,(a,b)],l6,rfl,Xl,rfl,rfl,H,Xq,HI2⟩
        case measure=>rw [Cs.Ab];omega
    ·obtain rfl:k=mn:=by omega
     have HE3:Hid (NT s=iL (mkCC sc fa ts) l'):=by show _=_;rw [HE2.Ab,HP.Ab,PU];(try rfl)
     clear HP HE2;have Nh:=Aa (fun w' h=>Qw ⟨⟨⟨B',m',d',es⟩,⟨MB,k,md,ms⟩⟩,fa,(ts.getD 0 (0,0)).1,(ts.getD 0 (0,0)).2,(ts.getD 1 (0,0)).1,(ts.getD 1 (0,0)).2,(ts.getD 2 (0,0)).1,(ts.getD 2 (0,0)).2⟩ w' h);rw [show Ct.Ac ⟨⟨⟨B',m',d',es⟩,⟨MB,k,md,ms⟩⟩,fa,(ts.getD 0 (0,0)).1,(ts.getD 0 (0,0)).2,(ts.getD 1 (0,0)).1,(ts.getD 1 (0,0)).2,(ts.getD 2 (0,0)).1,(ts.getD 2 (0,0)).2⟩=mkCC sc fa ts from by rw [←OU.Ab];rfl] at Nh;generalize hmk:mkCC sc fa ts=M at Nh HE3;have HM:=Aa hmk;clear hmk;go_wp2_with ((with_reducible refine OP 27 ?_);(refine Bf BI (H.blk 3 rfl) ?_));refine (Nh _ (HI.rd (H.at_ 5 rfl)) (GH (H.at_ 5 rfl))).mono ?_;rintro e w5 ⟨rfl,hb5⟩;replace H:=Aa (H.Av hb5);clear hb5 Nh;by_cases hE0:Bu M=0
     ·have HE:Hid (NT s=.ok (M,l')):=by show _=_;rw [HE3.Ab];unfold iL;rw [Al hE0]
      rw [hE0];clear hE0 HE3;go_wp2_with fail;refine (Mq (B+1) s l' 0 _ (H.Fv 0 rfl)).mono ?_;rintro e w6 ⟨rfl,rfl⟩;go_wp2_with fail;go_end0;exact SL.ok H ⟨by rw [HE.Ab];(try rfl),⟨⟨⟨B',m',d',es⟩,⟨MB,k,md,ms⟩⟩,fa,(ts.getD 0 (0,0)).1,(ts.getD 0 (0,0)).2,(ts.getD 1 (0,0)).1,(ts.getD 1 (0,0)).2,(ts.getD 2 (0,0)).1,(ts.getD 2 (0,0)).2⟩,l',H.Ab,(fun d r h=>by rw [HE.Ab] at h;injection h with h;injection h with h _;rw [←h,←HM.Ab,←OU.Ab];(try rfl)),HI.Ab⟩
     ·have HE:Hid (NT s=.error (Bu M)):=by show _=_;rw [HE3.Ab];unfold iL;rw [Ak hE0]
      have HW:Hid (Gr (Bu M)=Bu M):=by show _=_;unfold Gr;rw [Ak hE0]
      have dE:(Bu M==0)=false:=by simpa using hE0
      generalize Bu M=E at *;clear HE3;go_wp2_with fail;refine (JB (B+1) s l' E _ (H.Fv 0 rfl)).mono ?_;rintro e w6 ⟨rfl,rfl⟩;rw [HW.Ab];go_wp2_with fail;refine ⟨rfl,?_⟩;exact SL.err H ⟨by rw [HE.Ab];(try rfl),⟨⟨⟨B',m',d',es⟩,⟨MB,k,md,ms⟩⟩,fa,(ts.getD 0 (0,0)).1,(ts.getD 0 (0,0)).2,(ts.getD 1 (0,0)).1,(ts.getD 1 (0,0)).2,(ts.getD 2 (0,0)).1,(ts.getD 2 (0,0)).2⟩,l',H.Ab,(fun _ _ h=>by rw [HE.Ab] at h;cases h),HI.Ab⟩
theorem Zn5 {p:Prop} (h:p:=by go_wp2_with ((with_reducible refine OS 2 ?_);(refine Cj BI H 1 rfl (#[.slice none 0 0,.slice none 0 0,.int .i64 0,.int .i64 0,.int .i64 0,.int .i64 0,.int .i64 0,.int .i64 0,.int .i64 0]) Za2 ?_;clear H;intro wq H;(try simp only [LS] at H)));refine Bc (Au rfl BI rfl (H.blk 1 rfl) rfl) rfl ?_;rw [HT.Ab];exact Da H.to):p:=h
theorem mJ (s:List UInt8) (w:World) (hs:s.length≤140737488351232):
 Calls prog 82 #[.string ⟨s.toArray⟩] w (Wo (Nr s) w):=by
 have hmf:∀ (fn:Fn) (first cap:Array Value) (w:World),(Instr.makeFunc fn first cap).run prog w=.ok (.func fn first cap) w:=fun _ _ _ _=>rfl
 have H:=Aa (((SL.start No w).alloc #[.slice none 0 0,.slice none 0 0,.int .i64 0,.int .i64 0,.int .i64 0,.int .i64 0,.int .i64 0,.int .i64 0,.int .i64 0] 63).alloc #[.slice none 0 0,.slice none 0 0,.int .i64 0,.int .i64 0,.int .i64 0,.int .i64 0,.int .i64 0,.int .i64 0,.int .i64 0] 63);(try simp only [LS] at H);go_enter func82,ntmps82;go_wp2_with fail;replace H:=Aa (H.Fg [1,0] Za1 uH);(try simp only [LS] at H);generalize hzg:w.heap.size+1=g at *;clear hzg;generalize w.heap.size=z at *;generalize (w.alloc (.cells #[.slice none 0 0,.slice none 0 0,.int .i64 0,.int .i64 0,.int .i64 0,.int .i64 0,.int .i64 0,.int .i64 0,.int .i64 0] 63)).alloc (.cells #[.slice none 0 0,.slice none 0 0,.int .i64 0,.int .i64 0,.int .i64 0,.int .i64 0,.int .i64 0,.int .i64 0,.int .i64 0] 63)=W at *;refine (YP 125 #[.pointer (some ⟨g,0,none⟩)] s W hs (Rcat w s W.heap.size g z (NT s)) (mH func125 Za0 Za0) (fun w4 h1 h2 h3 h4 h5=>mK w W.heap.size g z s w4 (H.begin h1 h3 h4 h5))).mono ?_;rintro e w5 ⟨k,w4,rfl,⟨hk,D,q,hS,hD,hI⟩,Gn,_⟩;replace H:=Aa (hS.ended Gn);(try simp only [LS] at H);clear hS Gn;generalize W.heap.size=B at *;cases hT:NT s with
 |error k'=>
  have HT:Hid (Nr s=(CC.nil,k')):=by show _=_;unfold Nr;rw [hT]
  have hk':=Af9 hT;rw [hT] at hk;have hk2:k=k':=hk;subst hk2;have dk:(k==0)=false:=by simpa using hk'
  have dk2:(k !=0)=true:=by simpa using hk'
  clear hT hk hk' hD;exact Zn5
 |ok q=>
  obtain ⟨t,l⟩:=q;rw [hT] at hk;obtain rfl:=hD _ _ hT;by_cases hl:l=[]
  ·have HT:Hid (Nr s=(D.Ac,0)):=by show _=_;unfold Nr;rw [hT];simp [hl]
   have hk2:k=0:=by rw [hk];show (if l=[] then (0:Int) else 3)=0;rw [Al hl]
   subst hk2;have HI:=Aa hI;clear hT hk hl hD hI;go_wp2_with (first|((with_reducible refine OP 13 ?_);(refine Bf BI (H.blk 0 rfl) ?_))|((with_reducible refine OS 2 ?_);(refine Cj BI H 1 rfl (D.cs) (Oc D) ?_;clear H;intro wq H;(try simp only [LS] at H))));refine Bc (Au rfl BI rfl (H.blk 1 rfl) rfl) rfl ?_;rw [HT.Ab];exact ⟨D,rfl,rfl,HI.rd (H.at_ 2 rfl),GH (H.at_ 2 rfl),H.to,H.get 2 rfl,H.new 2 rfl⟩
  ·have HT:Hid (Nr s=(CC.nil,3)):=by show _=_;unfold Nr;rw [hT];simp [hl]
   have hk2:k=3:=by rw [hk];show (if l=[] then (0:Int) else 3)=3;rw [Ak hl]
   subst hk2;clear hT hk hl hD;exact Zn5
end Go.Proofs.YtijplolmkcdflaaGreat
namespace Go.Proofs.YtijplolmkcdflaaGreat
open Tryz
open Go.RowKit Go.ChangeShapes Go.WideShapes Go.Deep
theorem ZJ (a:CC):XH a a=true:=(K6 a a).2 rfl
abbrev exSC:SC:=⟨[exDC],[[109]]⟩
end Go.Proofs.YtijplolmkcdflaaGreat
