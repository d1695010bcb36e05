/- What follows was written short by a program: the walks that lead to YtijplolmkcdflaaGreatModelPlays. -/
import Derived.Handy
import Derived.RangeFuncNested
import Derived.RangeFuncBound
import Derived.RangeFuncCalls
import Derived.RangeFuncLeaves
import Derived.Shelf.Abstract
import Derived.Shelf.RegionOpen
import Derived.OwnWalkIn
import Derived.TacticsInMore
import Derived.LoopNIn
import Derived.LoopIn
import Derived.RangeFuncBox
import Derived.Sort.QuietIn
import Derived.Maps.AppendAt
import Derived.Test.YtijplolmkcdflaaGreatS4
set_option maxHeartbeats 8000000
set_option maxRecDepth 100000
set_option linter.unusedVariables false
set_option linter.unusedSimpArgs false
namespace Go.Proofs.YtijplolmkcdflaaGreat
open Tryz
open Go.RowKit
theorem Ul (s:String) (g:Nat) (w:World):(receiverAt 264 (.val (.pointer (some ⟨g,0,none⟩))) false (some s)).run prog w=(loadVar 266 ⟨g,0,none⟩).run prog w:=by kernel_rfl
theorem Uy (g:Nat) {v:Value} {w:World} (h:w.cell? ⟨g,0,none⟩=some v):(loadVar 266 ⟨g,0,none⟩).run prog w=.ok v w:=by
 simp [loadVar,go_sem,h]
theorem U6 (n:Nat) (v:Value) (w:World):(Go.method (n+1) 264 v "Len").run prog w=((receiverAt 264 (.val v) false (some ((("Len":String).splitOn ".").getLastD "Len"))) >>=fun r=>pure (184,r)).run prog w:=by kernel_rfl
theorem aS (n g:Nat) {v:Value} {w:World} (h:w.cell? ⟨g,0,none⟩=some v):(Go.method (n+1) 264 (.pointer (some ⟨g,0,none⟩)) "Len").run prog w=.ok (184,v) w:=by
 rw [U6,KH,Ul,Uy g h]
 rfl
theorem xJ (n:Nat) (v:Value) (w:World):(Go.method (n+1) 264 v "Less").run prog w=((receiverAt 264 (.val v) false (some ((("Less":String).splitOn ".").getLastD "Less"))) >>=fun r=>pure (222,r)).run prog w:=by kernel_rfl
theorem Pt (n g:Nat) {v:Value} {w:World} (h:w.cell? ⟨g,0,none⟩=some v):(Go.method (n+1) 264 (.pointer (some ⟨g,0,none⟩)) "Less").run prog w=.ok (222,v) w:=by
 rw [xJ,KH,Ul,Uy g h]
 rfl
theorem xI (n:Nat) (v:Value) (w:World):(Go.method (n+1) 264 v "Swap").run prog w=((receiverAt 264 (.val v) false (some ((("Swap":String).splitOn ".").getLastD "Swap"))) >>=fun r=>pure (225,r)).run prog w:=by kernel_rfl
theorem Ps (n g:Nat) {v:Value} {w:World} (h:w.cell? ⟨g,0,none⟩=some v):(Go.method (n+1) 264 (.pointer (some ⟨g,0,none⟩)) "Swap").run prog w=.ok (225,v) w:=by
 rw [xI,KH,Ul,Uy g h]
 rfl
theorem U5 (n:Nat) (v:Value) (w:World):(Go.method (n+1) 264 v "Push").run prog w=.ok (224,v) w:=by kernel_rfl
theorem Ag9 (n:Nat) (v:Value) (w:World):(Go.method (n+1) 264 v "Pop").run prog w=.ok (223,v) w:=by kernel_rfl
structure EJ where
 left:Row Br
 no:Nat
abbrev EJ.cs (h:EJ):Array Value:=#[.slice h.left.A h.left.n h.left.c,.int .i64 h.no]
structure EJ.ok (w:World) (h:EJ):Prop where
 left:h.left.ok w
 n1:1≤h.left.n
 no:h.no≤1000000
theorem EJ.ok.mono {w w':World} {h:EJ} (k:h.ok w) (hb:Ai w w'):h.ok w':=⟨k.left.mono hb,k.n1,k.no⟩
theorem Np (h:EJ):h.cs.all (·.oneCell')=true:=by simp [Value.oneCell']
instance At3:AY EJ where
 size:=2
 bytes:=32
 cells h:=h.cs.toList
 ok w h:=h.ok w
 len _:=rfl
 pos:=by omega
 mono hb h:=h.mono hb
abbrev EJ.Ac (h:EJ):Hd:=(cons h.left.l,h.no)
theorem Le:Ep prog 269 2:=⟨⟨_,underlying269,rfl⟩,by kernel_rfl⟩
theorem jX:Cy prog 266 269 2 32:=Cy.mk' (z:=.agg #[.slice none 0 0,.int .i64 0]) underlying266 Za0 rfl Xl
abbrev Js (g:Nat) (A:Option Addr) (n c:Nat) (L:List EJ) (rest:List FM):List FM:=Aw g 266 #[.slice A n c]::Ce 269 2 (.slice A n c) n (L.flatMap AY.cells)::rest
theorem SL.tl {S:Nat→Prop} {w0 w:World} {r:FM} {l:List FM} (h:SL S w0 w (r::l)):SL S w0 w l:=h.pick l (·+1) (fun i q hq=>by simpa using hq) (fun i j _ _ e=>by omega)
theorem Zv4 {p:Prop} (h:p:=by
 rcases h.2 with ⟨h0,h1⟩|⟨g',cap,cur,hv,_⟩
 ·omega
 ·injection hv with hv1 _ _;exact ⟨g',hv1⟩
):p:=h
theorem qG {w:World} {e:TypeId} {size n c:Nat} {A:Option Addr} {xs:List Value} (h:w.ownsRow 0 e size (.slice A n c) n xs) (hn:0<n):∃ g,A=some ⟨g,0,none⟩:=by
 exact Zv4
theorem Py {w:World} {A:Option Addr} {n c k:Nat} {L:List EJ} (h:w.ownsRow 0 269 2 (.slice A n c) n (L.flatMap AY.cells)) (hk:k<n):
 ∃ b a,A=some ⟨b,0,none⟩∧b<w.heap.size∧L[k]?=some a∧w.rangeAt b (k * 2) a.cs.toList∧w.cell? ⟨b,k * 2,none⟩=some (.slice a.left.A a.left.n a.left.c)∧w.cell? ⟨b,k * 2+1,none⟩=some (.int .i64 a.no):=by
 obtain ⟨g,rfl⟩:=qG h Xl;have hl:L.length=n:=Il (Rd.BC h);have ha:=Fp (show k<L.length by omega);obtain ⟨h1,h2⟩:=Gy h ha;exact ⟨g,_,rfl,h2,ha,h1,h1 0 _ rfl,h1 1 _ rfl⟩
theorem cons_cons {l:List Br} {f:Br} (h:l[0]?=some f):∃ t,cons l=f.Ac::t:=by
 cases l with
 |nil=>simp at h
 |cons a l=>injection h with h;subst h;exact ⟨_,rfl⟩
theorem Ah2 {a b:EJ} {f g:Br} (hf:a.left.l[0]?=some f) (hg:b.left.l[0]?=some g):Fb a.Ac b.Ac=(decide (Dn f.ks.l g.ks.l=-1)||(decide (Dn f.ks.l g.ks.l=0) && decide (a.no<b.no))):=by
 obtain ⟨s,hs⟩:=cons_cons hf;obtain ⟨t,ht⟩:=cons_cons hg;simp only [Fb,EJ.Ac,hs,ht]
 rfl
theorem VP (A:Option Addr) (n c:Nat) (w:World):Calls prog 184 #[.slice A n c] w fun e w'=>e=.returned (.int .i64 n)∧w=w':=by
 go_enter func184,ntmps184;go_wp2;go_ret;exact ⟨rfl,rfl⟩
theorem iX (A:Option Addr) (n c i k:Nat) (L:List EJ) (a b:EJ) (w:World) (h:w.ownsRow 0 269 2 (.slice A n c) n (L.flatMap AY.cells)) (hn:n≤1000000) (ha:L[i]?=some a) (hb:L[k]?=some b) (oa:a.ok w) (ob:b.ok w):
 Calls prog 222 #[.slice A n c,.int .i64 i,.int .i64 k] w fun e w'=>e=.returned (.bool (Fb a.Ac b.Ac))∧Ai w w':=by
 have hl:L.length=n:=Il (Rd.BC h);have hi:=(CB.1 ha).1;have hk:=(CB.1 hb).1;obtain ⟨g,a',rfl,hg,ha',_,tQ,ca1⟩:=Py h (k:=i) Xl;rw [ha] at ha';injection ha' with ha';subst ha';obtain ⟨g',b',e,_,hb',_,cb0,cb1⟩:=Py h (k:=k) Xl;rw [hb] at hb';injection hb' with hb';subst hb';injection e with e;injection e with e;subst e;obtain ⟨ba,oo,f,hA,hba,hf0,hf,_,hrf,_⟩:=oa.left.Z7 oa.n1;obtain ⟨bb,pp,f2,hB,hbb,hf2,hf2k,_,hrf2,_⟩:=ob.left.Z7 ob.n1;have HL:Hid (Fb a.Ac b.Ac=(decide (Dn f.ks.l f2.ks.l=-1)||(decide (Dn f.ks.l f2.ks.l=0) && decide (a.no<b.no)))):=Ah2 hf0 hf2;have HC:=Aa (fun w' (hb:Ai w w')=>Qq f f2 w' ⟨hf.ks.mono hb,hf.ag⟩ ⟨hf2k.ks.mono hb,hf2k.ag⟩);have HR1:=Aa hrf;have HR2:=Aa hrf2;have H:=Aa (SL.start No w);have HCR:=Aa (Ia f.ks.l f2.ks.l);have n1a:=oa.n1;have n1b:=ob.n1;have ga:=oa.no;have gb:=ob.no;obtain ⟨⟨LA,ln,lc,ll⟩,no⟩:=a;obtain ⟨⟨MA,mn,mc,ml⟩,no2⟩:=b;simp only at *;subst hA hB;clear hf0 hf hrf hf2 hf2k hrf2 h ha hb oa ob;have i0:(0:Int)≤i:=by omega
 have i1:(i:Int)<n:=by omega
 have k0:(0:Int)≤k:=by omega
 have k1:(k:Int)<n:=by omega
 have l1:(0:Int)<ln:=by omega
 have m1:(0:Int)<mn:=by omega
 go_enter func222,ntmps222;generalize Dn f.ks.l f2.ks.l=C at *;go_upto_region 1 with fail;have Aw3:=fun u:Over w=>Over.cell tQ u
 have Aw2:=fun u:Over w=>Over.cell cb0 u
 refine Am ?_;(try simp only [Act.put,LP]);repeat (first
  |((with_reducible show wpQuiet _ _ _ _ (⟨some 14,_,_,_,_,_⟩::_) _);refine Ah (by first|rfl|go_simp) Bz (.tmp 13) rfl ba (oo) rfl _ rfl hba HR1.Ab ?_;simp only [Act.put,LP])
  |((with_reducible show wpQuiet _ _ _ _ (⟨some 21,_,_,_,_,_⟩::_) _);refine Ah (by first|rfl|go_simp) Bz (.tmp 20) rfl bb (pp) rfl _ rfl hbb HR2.Ab ?_;simp only [Act.put,LP])
  |go_big_quiet_step (((go_at_call 108;rename_i u;exact AB (HC _ u.Av)))))
 refine CS ?_;rintro w5 ⟨⟨_,Gd⟩,rfl⟩;(try dsimp only);replace H:=Aa (H.Av Gd);clear Aw3 Aw2 tQ cb0;have da1:w5.cell? ⟨g,i * 2+1,none⟩=some (.int .i64 no):=by rw [Vl (Gd.block g hg)];exact ca1
 have db1:w5.cell? ⟨g,k * 2+1,none⟩=some (.int .i64 no2):=by rw [Vl (Gd.block g hg)];exact cb1
 clear ca1 cb1 Gd;rcases HCR.Ab with rfl|rfl|rfl
 ·replace HL:Hid (_=true):=HL;go_upto_region 2 with fail;have cO:=fun u:Over w5=>Over.cell da1 u
  have cK:=fun u:Over w5=>Over.cell db1 u
  refine Am ?_;(try simp only [Act.put,LP]);repeat (go_big_quiet_step (fail))
  refine CS ?_;rintro w5 ⟨⟨_,Gd⟩,rfl⟩;(try dsimp only);replace H:=Aa (H.Av Gd);clear cO cK da1 db1;go_wp2;go_ret;rw [HL.Ab];exact ⟨by first|rfl|(simp;done),H.to⟩
 ·by_cases hq:no<no2
  ·replace HL:=Aa (HL.trans (show _=true by simp [hq]));have q1:(no:Int)<no2:=by omega
   go_upto_region 2 with fail;have cO:=fun u:Over w5=>Over.cell da1 u
   have cK:=fun u:Over w5=>Over.cell db1 u
   refine Am ?_;(try simp only [Act.put,LP]);repeat (go_big_quiet_step (fail))
   refine CS ?_;rintro w5 ⟨⟨_,Gd⟩,rfl⟩;(try dsimp only);replace H:=Aa (H.Av Gd);clear cO cK da1 db1;go_wp2;go_ret;rw [HL.Ab];exact ⟨by first|rfl|(simp;done),H.to⟩
  ·replace HL:=Aa (HL.trans (show _=false by simp [hq]));have q1:¬ (no:Int)<no2:=by omega
   go_upto_region 2 with fail;have cO:=fun u:Over w5=>Over.cell da1 u
   have cK:=fun u:Over w5=>Over.cell db1 u
   refine Am ?_;(try simp only [Act.put,LP]);repeat (go_big_quiet_step (fail))
   refine CS ?_;rintro w5 ⟨⟨_,Gd⟩,rfl⟩;(try dsimp only);replace H:=Aa (H.Av Gd);clear cO cK da1 db1;go_wp2;go_ret;rw [HL.Ab];exact ⟨by first|rfl|(simp;done),H.to⟩
 ·replace HL:Hid (_=false):=HL;go_upto_region 2 with fail;have cO:=fun u:Over w5=>Over.cell da1 u
  have cK:=fun u:Over w5=>Over.cell db1 u
  refine Am ?_;(try simp only [Act.put,LP]);repeat (go_big_quiet_step (fail))
  refine CS ?_;rintro w5 ⟨⟨_,Gd⟩,rfl⟩;(try dsimp only);replace H:=Aa (H.Av Gd);clear cO cK da1 db1;go_wp2;go_ret;rw [HL.Ab];exact ⟨by first|rfl|(simp;done),H.to⟩
section
variable {P : Program} {w : World}
theorem Cw {ops:Array Oper} {o:Oper} {a:Act} {K:Act→World→Prop} {Q:Exit→Act→World→Prop} {X:Prop} (hgd:o.guard=none) {ty:TypeId} {n:Nat} (R:Ep P ty n) (x:Operand) (ho:o.op=.load ty x)
 (b off:Nat) (hx:a.eval x=.pointer (some ⟨b,off,none⟩)) (cs:Array Value) (hr:w.rangeAt b off cs.toList) (hn:cs.size=n)
 (h:K (a.put o.dst (.agg cs)) w):if Region.wanted o (yielded ops a.tmps)=true then Oper.wp P o a w K Q else X:=by
 have hw:Region.wanted o (yielded ops a.tmps)=true:=by simp [Region.wanted,hgd]
 rw [Al hw];obtain ⟨d,hu,hd⟩:=R.hu;exact wp_load_mid ty x ho b off hx cs.toList d hr hu hd Zb6 Zb3
theorem Lc {α:Type} [AY α] {base:Nat} {e:TypeId} {g n c:Nat} {l:List α} {ops:Array Oper} {o:Oper} {a:Act} {K:Act→World→Prop} {Q:Exit→Act→World→Prop} {X:Prop} (hgd:o.guard=none) {ty:TypeId} {size:Nat} (R:Ep P ty size) (x y:Operand) (ho:o.op=.store ty x y) (hsz:size=AY.size α)
 (k:Nat) (hx:a.eval x=.pointer (some ⟨g,k * AY.size α,none⟩)) (h:w.ownsRow base e (AY.size α) (.slice (some ⟨g,0,none⟩) n c) n (l.flatMap AY.cells)) (hk:k<n) (f:α) (cs:Array Value) (hcs:cs.toList=AY.cells f) (hy:a.eval y=.agg cs) (h1:cs.all (·.oneCell')=true)
 (hn:∀ w',w'.ownsRow base e (AY.size α) (.slice (some ⟨g,0,none⟩) n c) n ((l.set k f).flatMap AY.cells)→w.grownBy w' (some g)→K (a.put o.dst undef) w'):if Region.wanted o (yielded ops a.tmps)=true then Oper.wp P o a w K Q else X:=by
 have hw:Region.wanted o (yielded ops a.tmps)=true:=by simp [Region.wanted,hgd]
 have hss:cs.size=AY.size α:=by have:=CW List.length hcs;rw [Array.length_toList,AY.len] at this;exact this
 rw [Al hw];refine Uc ty x y ho g (k * AY.size α) cs hx hy (by rw [hss];exact SF h hk) (by rw [R.hi,hss,hsz]) h1 ?_;rw [hcs];exact hn _ (Uu h hk f) (Dy w g _ _)
end
theorem Zl1 {p:Prop} (h:p:=by refine Aj Ad trivial fun hHeld=>?_;clear Ad KK;refine BG Hw fun KK Ad=>?_;go_simp;refine Aj Ad trivial fun hHeld=>?_;clear Ad KK;refine BG Jc fun KK Ad=>?_;refine Lc rfl Le (.tmp 18) (.tmp 13) rfl rfl i (by first|rfl|go_simp) (H.row 1 rfl) Xl y y.cs rfl (by first|rfl|go_simp) (Np _) ?_;intro wq AJ Aq;replace H:=Aa (H.setRow 1 rfl Aq AJ (.inl rfl));(try simp only [LS] at H);clear AJ Aq;refine Aj Ad trivial fun hHeld=>?_;clear Ad KK;refine BG Jw fun KK Ad=>?_;go_simp;refine Aj Ad trivial fun hHeld=>?_;clear Ad KK;refine BG bV fun KK Ad=>?_;refine Lc rfl Le (.tmp 19) (.tmp 17) rfl rfl k (by first|rfl|go_simp) (H.row 1 rfl) Xl x x.cs rfl (by first|rfl|go_simp) (Np _) ?_;intro wq AJ Aq;replace H:=Aa (H.setRow 1 rfl Aq AJ (.inl rfl));(try simp only [LS] at H);clear AJ Aq;refine Aj Ad trivial fun hHeld=>?_;clear Ad KK;refine BZ ?_;clear hHeld;go_wp2;go_returns;exact ⟨rfl,H.Ab⟩):p:=h
theorem Zb0 {p:Prop} (h:p:=by assumption):p:=h
theorem Px (w0 w:World) (g:Nat) (A:Option Addr) (n c i k:Nat) (L:List EJ) (rest:List FM) (x y:EJ) (h:SL No w0 w (Js g A n c L rest)) (hn:n≤1000000) (ha:L[i]?=some x) (hb:L[k]?=some y):
 Calls prog 225 #[.slice A n c,.int .i64 i,.int .i64 k] w fun e w'=>e=.returned (.tuple #[])∧SL No w0 w' (Js g A n c ((L.set i y).set k x) rest):=by
 have hl:L.length=n:=Il (Rd.BC (h.row 1 rfl));have hi:=(CB.1 ha).1;have hk:=(CB.1 hb).1;obtain ⟨b,rfl⟩:=qG (h.row 1 rfl) Xl;have H:=Aa h;clear h;have i0:(0:Int)≤i:=by omega
 have i1:(i:Int)<n:=by omega
 have k0:(0:Int)≤k:=by omega
 have k1:(k:Int)<n:=by omega
 go_enter func225,ntmps225;go_upto_region 0 with fail;refine Eo (S:=fun _=>True) Za0 trivial fun hHeld=>?_;replace H:=Aa (H.drew);refine Bd Ml ?_;refine Bd KF ?_;refine Bd MN ?_;refine Bd Ky ?_;refine Bd LJ ?_;refine Bd KW ?_;refine Bd MI ?_;refine Bd Mk ?_;refine Bd MH ?_;refine Bd FO ?_;refine Oh Lj Ga (fun KK Ad=>?_) fun KK Ad=>?_
 ·refine Cw rfl Le (.tmp 12) (by first|rfl|go_simp) b (k * 2) (by first|rfl|go_simp) y.cs (Gy (H.row 1 rfl) Zb0).1 rfl ?_;refine Aj Ad trivial fun hHeld=>?_;clear Ad KK;refine BG Ga fun KK Ad=>?_;refine Cw rfl Le (.tmp 16) (by first|rfl|go_simp) b (i * 2) (by first|rfl|go_simp) x.cs (Gy (H.row 1 rfl) Zb0).1 rfl ?_;exact Zl1
 ·refine Cw rfl Le (.tmp 16) (by first|rfl|go_simp) b (i * 2) (by first|rfl|go_simp) x.cs (Gy (H.row 1 rfl) Zb0).1 rfl ?_;refine Aj Ad trivial fun hHeld=>?_;clear Ad KK;refine BG Lj fun KK Ad=>?_;refine Cw rfl Le (.tmp 12) (by first|rfl|go_simp) b (k * 2) (by first|rfl|go_simp) y.cs (Gy (H.row 1 rfl) Zb0).1 rfl ?_;exact Zl1
theorem tY (v:Value) (w:World):(Instr.typeAssert (.iface 269 v) 20 269 true).run prog w=.ok (.tuple #[v,.bool true]) w:=by kernel_rfl
theorem Zj1 {p:Prop} (h:p:=by
 refine Aj Ad trivial fun hHeld=>?_;clear Ad KK;refine BG MI fun KK Ad=>?_;refine AX rfl (.tmp 14) (.tmp 16) _ rfl jX 0 (Bj _) _ n _ rfl (H.row 3 rfl) _ 1 1 h.cs.toList rfl (AV (H.blk 0 rfl) rfl) (fun u hu=>Nb.1 (Np h) u Zc2) Za4 Xl ?_;intro vq wq AJ Aq AQ;replace H:=Aa (H.setRow 3 rfl Aq AJ AQ);(try simp only [LS] at H);clear AJ Aq AQ;obtain ⟨A2,c2,rfl,_⟩:=Ao (H.row 3 rfl);refine Aj Ad trivial fun hHeld=>?_;clear Ad KK;refine BG Lj fun KK Ad=>?_;go_simp;refine Aj Ad trivial fun hHeld=>?_;clear Ad KK;refine BG Mk fun KK Ad=>?_;have c8:=(H.blk 2 rfl).Ap 0;have f8:=(H.blk 2 rfl).frozen 0;go_simp;replace H:=Aa (H.setCell 2 rfl 0 (.slice A2 (n+1) c2));(try simp only [LS] at H);clear c8 f8;refine Aj Ad trivial fun hHeld=>?_;clear Ad KK;refine BZ ?_;clear hHeld;go_wp2;go_returns;refine ⟨rfl,A2,c2,?_⟩;have hf:L.flatMap AY.cells++h.cs.toList=(L++[h]).flatMap AY.cells:=by simp [AY.cells]
 have H2:=H.tl.tl;rw [hf] at H2;exact H2
):p:=h
theorem Zp1 {p:Prop} (h:p:=by refine Aj Ad trivial fun hHeld=>?_;clear Ad KK;refine BG KW fun KK Ad=>?_;refine BU rfl jX (.tmp 15) rfl (h.cs) (by first|rfl|go_simp) rfl Xl ?_;replace H:=Aa ((H.alloc (h.cs) 269).rot);(try simp only [LS] at H);generalize World.alloc _ _=w2 at *;exact Zj1):p:=h
theorem X5 (w0 w:World) (g:Nat) (A:Option Addr) (n c:Nat) (L:List EJ) (rest:List FM) (h:EJ) (hh:SL No w0 w (Js g A n c L rest)) (hn:n≤1000000):
 Calls prog 224 #[.pointer (some ⟨g,0,none⟩),.iface 269 (.agg h.cs)] w fun e w'=>e=.returned (.tuple #[])∧∃ (A':Option Addr) (c':Nat),SL No w0 w' (Js g A' (n+1) c' (L++[h]) rest):=by
 have H:=Aa hh;clear hh;go_enter func224,ntmps224;have hta:∀ w,(Instr.typeAssert (.iface 269 (.agg h.cs)) 20 269 true).run prog w=.ok (.tuple #[.agg h.cs,.bool true]) w:=fun w=>tY _ w
 go_upto_region 1 with ((with_reducible refine OS 4 ?_);refine DX Le h.cs (Np _) ?_;replace H:=Aa ((H.alloc h.cs 269).rot);(try simp only [LS] at H));(try simp only [Act.put,LP]);generalize w.heap.size=x at *;generalize World.alloc _ _=w1 at *;refine Eo (S:=fun _=>True) Za0 trivial fun hHeld=>?_;replace H:=Aa (H.drew);refine Bd Ml ?_;refine Bd KF ?_;refine Bd MN ?_;refine Oh Ky LJ (fun KK Ad=>?_) fun KK Ad=>?_
 ·have c3:=(H.blk 1 rfl).Ap 0;go_simp;clear c3;refine Aj Ad trivial fun hHeld=>?_;clear Ad KK;refine BG LJ fun KK Ad=>?_;refine Cw rfl Le (.tmp 4) (by first|rfl|go_simp) _ 0 (by first|rfl|go_simp) h.cs (H.blk 0 rfl).range rfl ?_;exact Zp1
 ·refine Cw rfl Le (.tmp 4) (by first|rfl|go_simp) _ 0 (by first|rfl|go_simp) h.cs (H.blk 0 rfl).range rfl ?_;refine Aj Ad trivial fun hHeld=>?_;clear Ad KK;refine Oh Ky KW (fun KK Ad=>?_) fun KK Ad=>?_
  ·have c3:=(H.blk 1 rfl).Ap 0;go_simp;clear c3;exact Zp1
  ·refine BU rfl jX (.tmp 15) rfl (h.cs) (by first|rfl|go_simp) rfl Xl ?_;replace H:=Aa ((H.alloc (h.cs) 269).rot);(try simp only [LS] at H);generalize World.alloc _ _=w2 at *;refine Aj Ad trivial fun hHeld=>?_;clear Ad KK;refine BG Ky fun KK Ad=>?_;have c3:=(H.blk 2 rfl).Ap 0;go_simp;clear c3;exact Zj1
theorem Ag0 {w:World} {base:Nat} {e:TypeId} {size n c k:Nat} {A:Option Addr} {xs:List Value} (h:w.ownsRow base e size (.slice A n c) n xs) (hk:k≤n):w.ownsRow base e size (.slice A k c) k (xs.take (k * size)):=by
 have hm:k * size≤n * size:=QF _ hk;refine ⟨by rw [FK,h.1];omega,?_⟩;rcases h.2 with ⟨h0,h1⟩|⟨g,cap,cur,hv,hb,hh,hn,hx,hs,ht⟩
 ·have hk0:k=0:=by omega
  subst hk0;injection h0 with h2 _ h3;subst h2 h3;exact .inl ⟨rfl,rfl⟩
 ·injection hv with h2 _ h3;subst h2 h3;refine .inr ⟨g,c,cur,rfl,hb,hh,Xl,hx,hs,?_⟩;rw [←ht,List.take_take,Vi hm]
theorem yD (L:List EJ) (k:Nat):(L.take k).flatMap AY.cells=(L.flatMap AY.cells).take (k * 2):=by
 induction L generalizing k with
 |nil=>simp
 |cons a L ih=>
  cases k with
  |zero=>simp
  |succ k=>
   have ha:(AY.cells a).length=2:=rfl;rw [Pn,Df,Df,ih,show (k+1) * 2=(AY.cells a).length+k * 2 by rw [ha];omega,List.take_length_add_append]
theorem Ai2 (w0 w:World) (g:Nat) (A:Option Addr) (m c:Nat) (L:List EJ) (rest:List FM) (h:SL No w0 w (Js g A (m+1) c L rest)) (hn:m≤1000000):
 Calls prog 223 #[.pointer (some ⟨g,0,none⟩)] w fun e w'=>(∃ v,e=.returned v)∧SL No w0 w' (Js g A m c (L.take m) rest):=by
 have hc:m+1≤c:=by
  rcases (h.row 1 rfl).2 with ⟨_,h1⟩|⟨_,cap,_,hv,_,_,h2,_⟩
  ·omega
  ·injection hv with _ _ h3;omega
 obtain ⟨b,a,rfl,hb,ha,hrg,_,_⟩:=Py (h.row 1 rfl) (k:=m) Xl;have HR:=Aa hrg;have H:=Aa h;clear h hrg ha;have cg:=(H.blk 0 rfl).Ap 0;have fg:=(H.blk 0 rfl).frozen 0;have i0:(0:Int)≤m:=by omega
 have i1:(m:Int)<(m+1:Nat):=by omega
 have e1:((m+1:Nat):Int) - 1=m:=by omega
 go_enter func223,ntmps223;go_upto_region 3 with (first|((with_reducible refine OP 13 ?_);(refine Af rfl Le (.tmp 12) rfl b (m * 2) rfl a.cs rfl HR.Ab ?_))|((with_reducible refine OS 4 ?_);refine DX Le a.cs (Np _) ?_;replace H:=Aa ((H.alloc a.cs 269).rot);(try simp only [LS] at H)));(try simp only [Act.put,LP]);clear cg fg;generalize w.heap.size=x at *;generalize World.alloc _ _=w1 at *;have cg:=(H.blk 1 rfl).Ap 0;have fg:=(H.blk 1 rfl).frozen 0;go_upto_region 4 with fail;replace H:=Aa (H.setCell 1 rfl 0 (.slice (some ⟨b,0,none⟩) m c));(try simp only [LS] at H);clear cg fg;generalize World.setCell _ _ _=w2 at *;have H2:=Aa (H.setRow (w':=w2) 2 rfl (e':=269) (size':=2) (n':=m) (v':=.slice (some ⟨b,0,none⟩) m c) (xs':=((L.take m).flatMap AY.cells)) (Fr.grown (Fr.refl _ _)) (by rw [yD];exact Ag0 (H.row 2 rfl) Xl) (.inl rfl));clear H;go_wp2_with ((with_reducible refine OP 21 ?_);refine CY rfl Le (.tmp 4) rfl _ rfl (H2.blk 0 rfl) rfl ?_);go_returns;exact ⟨⟨_,rfl⟩,H2.tl⟩
theorem VI {L:List EJ} {i j:Nat} {a b:EJ}:((L.set i a).set j b).map EJ.Ac=TG (L.map EJ.Ac) i j b.Ac a.Ac:=by rw [List.map_set,List.map_set];(try rfl)
theorem Qk {L:List EJ} {i:Nat} {a:EJ} (h:L[i]?=some a):(L.map EJ.Ac)[i]?=some a.Ac:=by rw [Ed,h];(try rfl)
theorem dC {L:List EJ} {w:World} (h:∀ x ∈ L,x.ok w):∀ x ∈ L.map EJ.Ac,x.1≠[]:=fun x hx e=>by
 obtain ⟨y,hy,rfl⟩:=Kc.1 hx;have h1:=(h y hy).n1;have h2:=(h y hy).left.len;have h3:(cons y.left.l).length=0:=by rw [show cons y.left.l=[] from e];(try rfl)
 rw [AR] at h3;omega
theorem Zf7 {p:Prop} (h:p:=by rw [HLn.Ab];omega):p:=h
theorem Ac4 (w0 w:World) (g:Nat) (A:Option Addr) (n c j0:Nat) (L0:List EJ) (rest:List FM) (h:SL No w0 w (Js g A n c L0 rest)) (hn:n≤1000000) (hok:∀ x ∈ L0,x.ok w0) (hj:j0<n) (hu:fK (L0.map EJ.Ac) j0):
 Calls prog 199 #[.iface 264 (.pointer (some ⟨g,0,none⟩)),.int .i64 j0] w fun e w'=>e=.returned (.tuple #[])∧∃ L,L.Perm L0∧Heap (L.map EJ.Ac) n∧SL No w0 w' (Js g A n c L rest):=by
 have H:=Aa h;have KC:=Aa hok;have hl0:L0.length=n:=Il (Rd.BC (h.row 1 rfl));have HU:=Aa hu;have HP:Hid (L0.Perm L0):=List.Perm.refl _;have HL0:=Aa hl0;clear h hok hu hl0;go_enter func199,ntmps199;go_wp2_with fail;go_loopg [1,4] j0 (fun gg s1 s4 wr=>∃ (j:Nat) (L:List EJ),gg=j∧j<n∧s1=.int .i64 j∧Hid (L.Perm L0)∧Hid (fK (L.map EJ.Ac) j)∧Hid (SL No w0 wr (Js g A n c L rest)));case atStart=>exact ⟨j0,L0,rfl,hj,rfl,HP,HU,H⟩
 case round=>
  clear H HU HP hj;obtain ⟨j,L,BR,hj,rfl,HP,HU,H⟩:=hrel;have Cs:=Aa BR;clear BR;have HLn:Hid (L.length=n):=Il (Rd.BC (H.row 1 rfl));by_cases hj0:j=0
  ·subst hj0;have HH:Hid (Heap (L.map EJ.Ac) n):=by have h:=Ac3 HU.Ab;rw [CQ,HLn.Ab] at h;exact h
   go_wp2_with fail;go_returns;exact ⟨rfl,L,HP.Ab,HH.Ab,H.Ab⟩
  ·obtain ⟨k,rfl⟩:∃ k,j=k+1:=⟨j - 1,Xl⟩;have e1:((k+1:Nat):Int) - 1=k:=by omega
   have e2:(k:Int).tdiv 2=((k / 2:Nat):Int):=rfl;have e3:¬ ((k / 2:Nat):Int)=((k+1:Nat):Int):=by omega
   have e4:((((k / 2:Nat):Int))==((k+1:Nat):Int))=false:=by simp<;>omega
   obtain ⟨x,hx⟩:∃ x,L[k+1]?=some x:=⟨_,Fp (by rw [HLn.Ab];exact hj)⟩;obtain ⟨y,hy⟩:∃ y,L[k / 2]?=some y:=⟨_,Fp Zf7⟩;have HX:=Aa hx;have HY:=Aa hy;have HLs:=Aa (fun w' (hb:Ai w0 w') (ho:w'.ownsRow 0 269 2 (.slice A n c) n (L.flatMap AY.cells))=>iX A n c (k+1) (k / 2) L x y w' ho hn hx hy ((KC x (HP.mem_iff.1 (CU hx))).mono hb) ((KC y (HP.mem_iff.1 (CU hy))).mono hb));clear hx hy;have cm:=(H.blk 0 rfl).Ap 0;have mm:=fun k=>Pt k g cm
   clear cm;go_wp2_with fail;clear mm;refine (HLs _ H.to (H.row 1 rfl)).mono ?_;rintro e w2 ⟨rfl,hb2⟩;replace H:=Aa (H.Av hb2);clear hb2 HLs;cases hL:Fb x.Ac y.Ac with
   |false=>
    have HH:Hid (Heap (L.map EJ.Ac) n):=by have h:=Al9 HU (Qk HX.Ab) (Qk HY.Ab) hL;rw [CQ,HLn.Ab] at h;exact h
    clear hL;go_wp2_with fail;go_returns;exact ⟨rfl,L,HP.Ab,HH.Ab,H.Ab⟩
   |true=>
    have HU2:Hid (fK (((L.set (k / 2) x).set (k+1) y).map EJ.Ac) (k / 2)):=by show fK _ _;rw [VI];exact Am0 (j:=k+1) Xl HU (dC (w:=w0) fun z hz=>KC z (HP.mem_iff.1 hz)) (Qk HX.Ab) (Qk HY.Ab) hL
    have Xq:Hid (((L.set (k / 2) x).set (k+1) y).Perm L0):=(swap_perm Xl HY HX.Ab).trans HP.Ab;clear hL HU HP;have cm:=(H.blk 0 rfl).Ap 0;have mm:=fun k=>Ps k g cm
    clear cm;go_wp2_with fail;clear mm;refine (Px w0 _ g A n c (k / 2) (k+1) L rest y x H hn HY HX.Ab).mono ?_;rintro e w3 ⟨rfl,hh3⟩;replace H:=Aa hh3;clear hh3;go_wp2_with fail;go_roundg (k / 2);case rel=>exact ⟨k / 2,_,rfl,Xl,by go_num,Xq,HU2,H⟩
    case measure=>rw [Cs.Ab];omega
theorem Vn {L:List EJ} {m k:Nat} {x:EJ} (h:L[k]?=some x) (hk:k<m):((L.take m).map EJ.Ac)[k]?=some x.Ac:=Qk (by rw [Jk hk];exact h)
theorem tmem {L:List EJ} {m k:Nat} {x:EJ} (h:L[k]?=some x) (hk:k<m):x ∈ L.take m:=CU (by rw [Jk hk];exact h)
theorem tne {L:List EJ} {w:World} {m k:Nat} {x:EJ} (h:∀ z ∈ L.take m,z.ok w) (hx:L[k]?=some x) (hk:k<m):x.Ac.1≠[]:=dC h _ (List.mem_map_of_mem (tmem hx hk))
theorem UA (a:Hd):Fb a a=false:=by
 cases hq:Fb a a with
 |false=>rfl
 |true=>have:=MF hq;rw [this] at hq;cases hq
theorem Zk7 {p:Prop} (h:p:=by
 have HT:Hid ((((L.set i x).set j1 y).take m).map EJ.Ac=TG ((L.take m).map EJ.Ac) i j1 y.Ac x.Ac):=by show _=_;rw [LQ,LQ,VI]
 have HU2:Hid (Lv ((((L.set i x).set j1 y).take m).map EJ.Ac) m j1):=by
  show Lv _ _ _;rw [HT.Ab];exact Xf (by rw [CQ,FK,HLn.Ab];omega) Xl Xl HPj1 HU (dC (w:=w0) KC.Ab) (Vn Wn Xl) (Vn HY Xl) hL HM.Ab
 have Xq:Hid ((((L.set i x).set j1 y).take m).Perm (L0.take m)):=by
  show List.Perm _ _;rw [LQ,LQ];exact (swap_perm Xl (by rw [Jk Xl];exact HY.Ab) (by rw [Jk Xl];exact Wn.Ab)).trans HP.Ab
 have HD2:Hid (((L.set i x).set j1 y).drop m=L0.drop m):=by show _=_;rw [Wx Xl,Wx Xl,HD.Ab]
 have Xr:Hid (∀ z ∈ ((L.set i x).set j1 y).take m,z.ok w0):=fun z hz=>KC z ((HP.mem_iff).2 (Xq.mem_iff.1 hz))
 clear hL HT;have cm:=(H.blk 0 rfl).Ap 0;have mm:=fun k=>Ps k g cm
 clear cm;go_wp2_with fail;clear mm;refine (Px w0 _ g A n c i j1 L rest y x H hn HY Wn.Ab).mono ?_;rintro e w3 ⟨rfl,hh3⟩;replace H:=Aa hh3;clear hh3;go_wp2_with fail;go_roundg (m - j1);case rel=>exact ⟨j1,_,rfl,Xl,by go_num,Xq,HD2,Xr,HU2,H⟩
 case measure=>rw [Cs.Ab];omega
):p:=h
theorem Zo5 {p:Prop} (h:p:=by
 have HH:Hid (Heap ((L.take m).map EJ.Ac) m):=SY HU (fun k a b h0 hk hp ha hb=>by
  rw [Vn HY Xl] at hb;injection hb with hb;subst hb;exact JE (tne KC Wn Xl) hL (HM k a h0 hk hp ha))
 clear hL;go_wp2_with fail;go_returns;exact ⟨⟨_,rfl⟩,L,HP.Ab,HD.Ab,HH.Ab,H.Ab⟩
):p:=h
theorem sV (w0 w:World) (g:Nat) (A:Option Addr) (n m c i0:Nat) (L0:List EJ) (rest:List FM) (h:SL No w0 w (Js g A n c L0 rest)) (hn:n≤1000000) (hm:m≤n) (hok:∀ x ∈ L0.take m,x.ok w0) (hi:i0≤m) (hu:Lv ((L0.take m).map EJ.Ac) m i0):
 Calls prog 200 #[.iface 264 (.pointer (some ⟨g,0,none⟩)),.int .i64 i0,.int .i64 m] w fun e w'=>(∃ b,e=.returned (.bool b))∧∃ L,(L.take m).Perm (L0.take m)∧L.drop m=L0.drop m∧Heap ((L.take m).map EJ.Ac) m∧SL No w0 w' (Js g A n c L rest):=by
 have H:=Aa h;have KC:=Aa hok;have HU:=Aa hu;have HP:Hid ((L0.take m).Perm (L0.take m)):=List.Perm.refl _;clear h hok hu;go_enter func200,ntmps200;go_wp2_with fail;go_loopg [7,8,9,10] (m - i0) (fun gg s7 s8 s9 s10 wr=>∃ (i:Nat) (L:List EJ),gg=m - i∧i≤m∧s7=.int .i64 i∧Hid ((L.take m).Perm (L0.take m))∧Hid (L.drop m=L0.drop m)∧Hid (∀ x ∈ L.take m,x.ok w0)∧Hid (Lv ((L.take m).map EJ.Ac) m i)∧Hid (SL No w0 wr (Js g A n c L rest)));case atStart=>exact ⟨i0,L0,rfl,hi,rfl,HP,Aa rfl,KC,HU,H⟩
 case round=>
  clear H HU HP KC hi;obtain ⟨i,L,BR,hi,rfl,HP,HD,KC,HU,H⟩:=hrel;have Cs:=Aa BR;clear BR;have HLn:Hid (L.length=n):=Il (Rd.BC (H.row 1 rfl));obtain ⟨j1,hj1⟩:∃ j1,j1=2 * i+1:=⟨_,rfl⟩;have e1:2 * (i:Int)+1=(j1:Int):=by omega
  have b1:j1≤2000001:=by omega
  have l1:i<j1:=by omega
  have HJ1:=Aa hj1;have HPj1:Hid ((j1 - 1) / 2=i):=by show _=_;omega
  clear hj1;have e1p:(0:Int)≤j1:=by omega
  by_cases hb1:m≤j1
  ·have HH:Hid (Heap ((L.take m).map EJ.Ac) m):=SY HU (fun k a b h0 hk hp ha hb=>by have:=HJ1.Ab;omega);go_wp2_with fail;go_returns;exact ⟨⟨_,rfl⟩,L,HP.Ab,HD.Ab,HH.Ab,H.Ab⟩
  ·obtain ⟨y,hy⟩:∃ y,L[i]?=some y:=⟨_,Fp Zf7⟩;obtain ⟨x,hx⟩:∃ x,L[j1]?=some x:=⟨_,Fp Zf7⟩;have HY:=Aa hy;have Wn:=Aa hx;have HLs:=Aa (fun (p q:Nat) (a b:EJ) (ha:L[p]?=some a) (hb:L[q]?=some b) (hp:p<m) (hq:q<m) w' (hb2:Ai w0 w') (ho:w'.ownsRow 0 269 2 (.slice A n c) n (L.flatMap AY.cells))=>iX A n c p q L a b w' ho hn ha hb ((KC a (tmem ha hp)).mono hb2) ((KC b (tmem hb hq)).mono hb2));clear hx hy;obtain ⟨j2,hj2⟩:∃ j2,j2=j1+1:=⟨_,rfl⟩;have e2:(j1:Int)+1=(j2:Int):=by omega
   have l2:j1<j2:=by omega
   have b2:j2≤2000002:=by omega
   have HJ2:=Aa hj2;have HPj2:Hid ((j2 - 1) / 2=i):=by show _=_;have:=HJ1.Ab;omega
   clear hj2;by_cases hb2:j2<m
   ·obtain ⟨x2,hx2⟩:∃ x,L[j2]?=some x:=⟨_,Fp Zf7⟩;have uJ:=Aa hx2;clear hx2;have cm:=(H.blk 0 rfl).Ap 0;have mm:=fun k=>Pt k g cm
    clear cm;go_wp2_with fail;clear mm;refine (HLs j2 j1 x2 x uJ Wn Xl Xl _ H.to (H.row 1 rfl)).mono ?_;rintro e w2 ⟨rfl,hb2⟩;replace H:=Aa (H.Av hb2);clear hb2;cases hq:Fb x2.Ac x.Ac with
    |true=>
     have HM:Hid (∀ k c,0<k→k<m→(k - 1) / 2=i→((L.take m).map EJ.Ac)[k]?=some c→Fb c x2.Ac=false):=fun k c h0 hk hp hc=>by
      rcases (show k=j1∨k=j2 by have:=HJ1.Ab;have:=HJ2.Ab;omega) with rfl|rfl
      ·rw [Vn Wn Xl] at hc;injection hc with hc;subst hc;exact MF hq
      ·rw [Vn uJ Xl] at hc;injection hc with hc;subst hc;exact UA _
     clear hq;have cm:=(H.blk 0 rfl).Ap 0;have mm:=fun k=>Pt k g cm
     clear cm;go_wp2_with fail;clear mm;refine (HLs j2 i x2 y uJ HY Xl Xl _ H.to (H.row 1 rfl)).mono ?_;rintro e w2 ⟨rfl,hb2⟩;replace H:=Aa (H.Av hb2);clear hb2;cases hL:Fb x2.Ac y.Ac with
     |false=>
      have HH:Hid (Heap ((L.take m).map EJ.Ac) m):=SY HU (fun k a b h0 hk hp ha hb=>by
       rw [Vn HY Xl] at hb;injection hb with hb;subst hb;exact JE (tne KC uJ Xl) hL (HM k a h0 hk hp ha))
      clear hL;go_wp2_with fail;go_returns;exact ⟨⟨_,rfl⟩,L,HP.Ab,HD.Ab,HH.Ab,H.Ab⟩
     |true=>
      have HT:Hid ((((L.set i x2).set j2 y).take m).map EJ.Ac=TG ((L.take m).map EJ.Ac) i j2 y.Ac x2.Ac):=by show _=_;rw [LQ,LQ,VI]
      have HU2:Hid (Lv ((((L.set i x2).set j2 y).take m).map EJ.Ac) m j2):=by
       show Lv _ _ _;rw [HT.Ab];exact Xf (by rw [CQ,FK,HLn.Ab];omega) Xl Xl HPj2 HU (dC (w:=w0) KC.Ab) (Vn uJ Xl) (Vn HY Xl) hL HM.Ab
      have Xq:Hid ((((L.set i x2).set j2 y).take m).Perm (L0.take m)):=by
       show List.Perm _ _;rw [LQ,LQ];exact (swap_perm Xl (by rw [Jk Xl];exact HY.Ab) (by rw [Jk Xl];exact uJ.Ab)).trans HP.Ab
      have HD2:Hid (((L.set i x2).set j2 y).drop m=L0.drop m):=by show _=_;rw [Wx Xl,Wx Xl,HD.Ab]
      have Xr:Hid (∀ z ∈ ((L.set i x2).set j2 y).take m,z.ok w0):=fun z hz=>KC z ((HP.mem_iff).2 (Xq.mem_iff.1 hz))
      clear hL HT;have cm:=(H.blk 0 rfl).Ap 0;have mm:=fun k=>Ps k g cm
      clear cm;go_wp2_with fail;clear mm;refine (Px w0 _ g A n c i j2 L rest y x2 H hn HY uJ.Ab).mono ?_;rintro e w3 ⟨rfl,hh3⟩;replace H:=Aa hh3;clear hh3;go_wp2_with fail;go_roundg (m - j2);case rel=>exact ⟨j2,_,rfl,Xl,by go_num,Xq,HD2,Xr,HU2,H⟩
      case measure=>rw [Cs.Ab];omega
    |false=>
     have HM:Hid (∀ k c,0<k→k<m→(k - 1) / 2=i→((L.take m).map EJ.Ac)[k]?=some c→Fb c x.Ac=false):=fun k c h0 hk hp hc=>by
      rcases (show k=j1∨k=j2 by have:=HJ1.Ab;have:=HJ2.Ab;omega) with rfl|rfl
      ·rw [Vn Wn Xl] at hc;injection hc with hc;subst hc;exact UA _
      ·rw [Vn uJ Xl] at hc;injection hc with hc;subst hc;exact hq
     clear hq;have cm:=(H.blk 0 rfl).Ap 0;have mm:=fun k=>Pt k g cm
     clear cm;go_wp2_with fail;clear mm;refine (HLs j1 i x y Wn HY Xl Xl _ H.to (H.row 1 rfl)).mono ?_;rintro e w2 ⟨rfl,hb2⟩;replace H:=Aa (H.Av hb2);clear hb2;cases hL:Fb x.Ac y.Ac with
     |false=>
      exact Zo5
     |true=>
      exact Zk7
   ·have HM:Hid (∀ k c,0<k→k<m→(k - 1) / 2=i→((L.take m).map EJ.Ac)[k]?=some c→Fb c x.Ac=false):=fun k c h0 hk hp hc=>by
     obtain rfl:k=j1:=by have:=HJ1.Ab;have:=HJ2.Ab;omega
     rw [Vn Wn Xl] at hc;injection hc with hc;subst hc;exact UA _
    have cm:=(H.blk 0 rfl).Ap 0;have mm:=fun k=>Pt k g cm
    clear cm;go_wp2_with fail;clear mm;refine (HLs j1 i x y Wn HY Xl Xl _ H.to (H.row 1 rfl)).mono ?_;rintro e w2 ⟨rfl,hb2⟩;replace H:=Aa (H.Av hb2);clear hb2;cases hL:Fb x.Ac y.Ac with
    |false=>
     exact Zo5
    |true=>
     exact Zk7
theorem xO (w0 w:World) (g:Nat) (A:Option Addr) (n c:Nat) (L:List EJ) (rest:List FM) (a:EJ) (h:SL No w0 w (Js g A n c L rest)) (hn:n≤999999) (hok:∀ x ∈ L,x.ok w0) (ha:a.ok w0) (hh:Heap (L.map EJ.Ac) n):
 Calls prog 183 #[.iface 264 (.pointer (some ⟨g,0,none⟩)),.iface 269 (.agg a.cs)] w fun e w'=>e=.returned (.tuple #[])∧∃ (A':Option Addr) (c':Nat) (L':List EJ),L'.Perm (L++[a])∧Heap (L'.map EJ.Ac) (n+1)∧SL No w0 w' (Js g A' (n+1) c' L' rest):=by
 have hl:L.length=n:=Il (Rd.BC (h.row 1 rfl));have KC:Hid (∀ x ∈ L++[a],x.ok w0):=fun x hx=>(Eb.1 hx).elim (hok x) (fun h=>by rw [Ee] at h;subst h;exact ha)
 have HU:Hid (fK ((L++[a]).map EJ.Ac) n):=by
  constructor
  ·intro k x y h0 hk hP hx hy;rw [CQ,Cn,List.length_singleton] at hk;rw [Cf,QH (by rw [CQ];omega)] at hx hy;exact hh k x y h0 Xl (fun h=>h) hx hy
  ·intro k x y h0 h1 hk hx hy;have:=(CB.1 hx).1;rw [CQ,Cn,List.length_singleton] at this;omega
 have HP:=Aa (X5 w0 w g A n c L rest a h Xl);clear h hok ha hh hl;go_enter func183,ntmps183;have mm:=fun k w=>U5 k (.pointer (some ⟨g,0,none⟩)) w
 go_wp2_with fail;clear mm;refine HP.mono ?_;rintro e w2 ⟨rfl,A2,c2,h2⟩;have H:=Aa h2;clear h2 HP;have cm:=(H.blk 0 rfl).Ap 0;have mm:=fun k=>aS k g cm
 clear cm;go_wp2_with fail;clear mm;refine (VP _ _ _ _).mono ?_;rintro e w3 ⟨rfl,rfl⟩;have e1:((n+1:Nat):Int) - 1=n:=by omega
 go_wp2_with fail;refine (Ac4 w0 _ g A2 (n+1) c2 n (L++[a]) rest H Xl KC Xl HU.Ab).mono ?_;rintro e w4 ⟨rfl,L',hp,hh,hs⟩;have HR:Hid (∃ (A':Option Addr) (c':Nat) (L':List EJ),L'.Perm (L++[a])∧Heap (L'.map EJ.Ac) (n+1)∧SL No w0 w4 (Js g A' (n+1) c' L' rest)):=⟨A2,c2,L',hp,hh,hs⟩;clear hp hh hs;go_wp2;go_returns;exact ⟨rfl,HR.Ab⟩
theorem X7 (w0 w:World) (g:Nat) (A:Option Addr) (n c:Nat) (L:List EJ) (rest:List FM) (h:SL No w0 w (Js g A n c L rest)) (hn:n≤1000000) (h1:1≤n) (hok:∀ x ∈ L,x.ok w0) (hu:Lv (L.map EJ.Ac) n 0):
 Calls prog 186 #[.iface 264 (.pointer (some ⟨g,0,none⟩)),.int .i64 0] w fun e w'=>e=.returned (.tuple #[])∧∃ (L':List EJ),L'.Perm L∧Heap (L'.map EJ.Ac) n∧SL No w0 w' (Js g A n c L' rest):=by
 have hl:L.length=n:=Il (Rd.BC (h.row 1 rfl));have ht:L.take n=L:=EU Xl;have HDn:=Aa (sV w0 w g A n n c 0 L rest h hn (Ci _) (by rw [ht];exact hok) (Bj _) (by rw [ht];exact hu));have KC:=Aa hok;have HT:=Aa ht;have H:=Aa h;clear h hok hu hl ht;go_enter func186,ntmps186;have cm:=(H.blk 0 rfl).Ap 0;have mm:=fun k=>aS k g cm
 clear cm;go_wp2_with fail;clear mm;refine (VP _ _ _ _).mono ?_;rintro e w3 ⟨rfl,rfl⟩;go_wp2_with fail;refine HDn.mono ?_;rintro e w4 ⟨⟨b,rfl⟩,L',hp,hd,hh,hs⟩;have hl2:L'.length=n:=Il (Rd.BC (hs.row 1 rfl));have ht2:L'.take n=L':=EU Xl;rw [ht2,HT.Ab] at hp;rw [ht2] at hh;have HP:=Aa hp;have HH:=Aa hh;have HU:Hid (fK (L'.map EJ.Ac) 0):=⟨fun k x y h0 hk hP hx hy=>by
  rw [CQ,hl2] at hk;exact hh k x y h0 hk (fun h=>h) hx hy,fun k x y h0=>by omega⟩
 have Xr:Hid (∀ x ∈ L',x.ok w0):=fun x hx=>KC x (hp.mem_iff.1 hx)
 clear H HDn hp hd hh hl2 ht2;have H:=Aa hs;clear hs;cases b with
 |true=>
  go_wp2;go_returns;exact ⟨rfl,L',HP.Ab,HH.Ab,H.Ab⟩
 |false=>
  go_wp2_with fail;refine (Ac4 w0 _ g A n c 0 L' rest H hn Xr Xl HU.Ab).mono ?_;rintro e w5 ⟨rfl,L2,hp2,hh2,hs2⟩;have HR:Hid (∃ (L2:List EJ),L2.Perm L∧Heap (L2.map EJ.Ac) n∧SL No w0 w5 (Js g A n c L2 rest)):=⟨L2,hp2.trans HP.Ab,hh2,hs2⟩;clear hp2 hh2 hs2;go_wp2;go_returns;exact ⟨rfl,HR.Ab⟩
theorem X6 (w0 w:World) (g:Nat) (A:Option Addr) (m c:Nat) (L:List EJ) (rest:List FM) (r:EJ) (h:SL No w0 w (Js g A (m+1) c L rest)) (hn:m≤999999) (hr:L[0]?=some r) (hok:∀ k x,0<k→L[k]?=some x→x.ok w0) (hh:Heap (L.map EJ.Ac) (m+1)):
 Calls prog 185 #[.iface 264 (.pointer (some ⟨g,0,none⟩))] w fun e w'=>(∃ v,e=.returned v)∧∃ (L':List EJ),(L'++[r]).Perm L∧Heap (L'.map EJ.Ac) m∧SL No w0 w' (Js g A m c L' rest):=by
 have hl:L.length=m+1:=Il (Rd.BC (h.row 1 rfl));obtain ⟨z,hz⟩:∃ z,L[m]?=some z:=⟨_,Fp Xl⟩;obtain ⟨L1,hL1⟩:∃ L1,L1=(L.set 0 z).set m r:=⟨_,rfl⟩;have get1:∀ k,L1[k]?=if k=m then some r else if k=0 then some z else L[k]?:=fun k=>by
  rw [hL1];by_cases e1:k=m
  ·rw [Al e1,e1,NK Za3]
  ·rw [Ak e1,Ou (fun h=>e1 h.symm)];by_cases e2:k=0
   ·rw [Al e2,e2,NK Xl]
   ·rw [Ak e2,Ou (fun h=>e2 h.symm)]
 have hl1:L1.length=m+1:=by rw [hL1];simp [hl]
 have hp1:L1.Perm L:=by
  rw [hL1];by_cases e:m=0
  ·subst e;rw [hr] at hz;injection hz with hz;subst hz;rw [List.set_set];rw [show L.set 0 r=L from YZ fun k=>by
    by_cases e:k=0
    ·rw [e,NK Xl,hr]
    ·rw [Ou (fun h=>e h.symm)]]
  ·exact swap_perm Xl hr hz
 have KC:Hid (∀ x ∈ L1.take m,x.ok w0):=fun x hx=>by
  obtain ⟨k,hk⟩:=MZ.1 hx;rw [WE] at hk;split at hk
  ·rename_i hkm;rw [get1,Ak Xl] at hk;split at hk
   ·injection hk with hk;subst hk;exact hok m z Xl hz
   ·exact hok k x Xl hk
  ·cases hk
 have HU:Hid (Lv ((L1.take m).map EJ.Ac) m 0):=by
  constructor
  ·intro k x y h0 hk hP hx hy;rw [Ed,Jk hk,get1,Ak Xl,Ak Xl,←Ed] at hx;rw [Ed,Jk Xl,get1,Ak Xl,Ak hP,←Ed] at hy;exact hh k x y h0 Xl (fun h=>h) hx hy
  ·intro k x y h0;omega
 have HSw:=Aa (Px w0 w g A (m+1) c 0 m L rest r z h Xl hr hz);rw [←hL1] at HSw;have HG:Hid (L1=L1.take m++[r]):=by
  show _=_;have:=Na m L1
  conv=>lhs;rw [←this]
  congr 1
  rw [Eg Xl,EN Xl];have hg:=get1 m;rw [Al rfl,Fp Xl] at hg;injection hg with hg;rw [hg]
 have HP1:=Aa hp1;have H:=Aa h;clear h hok hh hl hr hz hL1 get1 hl1 hp1;go_enter func185,ntmps185;have cm:=(H.blk 0 rfl).Ap 0;have mm:=fun k=>aS k g cm
 clear cm;go_wp2_with fail;clear mm;refine (VP _ _ _ _).mono ?_;rintro e w3 ⟨rfl,rfl⟩;have e1:((m+1:Nat):Int) - 1=m:=by omega
 have cm:=(H.blk 0 rfl).Ap 0;have mm:=fun k=>Ps k g cm
 clear cm;go_wp2_with fail;clear mm;refine HSw.mono ?_;rintro e w4 ⟨rfl,h4⟩;replace H:=Aa h4;clear h4 HSw;go_wp2_with fail;refine (sV w0 _ g A (m+1) m c 0 L1 rest H Xl Xl KC (Bj _) HU.Ab).mono ?_;rintro e w5 ⟨⟨b,rfl⟩,L2,hp,hd,hh,hs⟩;have Xq:=Aa hp;have HH:=Aa hh;clear H HU KC hp hd hh;have H:=Aa hs;clear hs;have mm:=fun k w=>Ag9 k (.pointer (some ⟨g,0,none⟩)) w
 go_wp2_with fail;clear mm;refine (Ai2 w0 _ g A m c L2 rest H Xl).mono ?_;rintro e w6 ⟨⟨v,rfl⟩,h6⟩;have HR:Hid (∃ (L':List EJ),(L'++[r]).Perm L∧Heap (L'.map EJ.Ac) m∧SL No w0 w6 (Js g A m c L' rest)):=⟨L2.take m,((Xq.append_right [r]).trans (by rw [←HG.Ab])).trans HP1.Ab,HH.Ab,h6⟩;clear h6 Xq HH H;go_wp2;go_returns;exact ⟨⟨_,rfl⟩,HR.Ab⟩
section
variable {P : Program}
theorem Ro {ops:Array Oper} {rest:List Oper} {o:Oper} {a:Act} {w:World} {Q:Exit→Act→World→Prop} (hgd:o.guard=none) {t:TypeId} (x y:Operand) {i j:Nat} (ho:o.op=.build t #[(i,x),(j,y)])
 {vx vy v:Value} (hx:a.eval x=vx) (hy:a.eval y=vy) (hr:∀ w,(Instr.build t #[(i,vx),(j,vy)]).run P w=.ok v w)
 (h:wpList P ops Q rest (a.put o.dst v) w):wpList P ops Q (o::rest) a w:=by
 exact Zv7
end
theorem SG {α:Type} [AY α] {w:World} {base:Nat} {e:TypeId} {x:Row α} (h:w.ownsRow base e (AY.size α) (.slice x.A x.n x.c) x.n (x.l.flatMap AY.cells)) (ha:∀ a ∈ x.l,AY.ok w a) (hz:x.n * AY.bytes α≤140737488351232):x.ok w:=by
 exact Zo1
theorem JG (f:Br):∀ u ∈ f.cs.toList,u.oneCell'=true:=fun u hu=>Nb.1 (EA f) u Zc2
abbrev rRun (x:Row Br):FM:=⟨fun g=>(0<x.n∧x.v.ownBlock=some g)∨∃ f ∈ x.l,0<f.ks.n∧f.ks.v.ownBlock=some g,fun w=>x.ok w⟩
theorem oW {α:Type} [AY α] {w w':World} {x:Row α} (h:x.ok w) (hs:w.heap.size≤w'.heap.size) (ha:∀ a ∈ x.l,AY.ok w' a) (hk:∀ g,0<x.n→x.v.ownBlock=some g→w'.heap[g]?=w.heap[g]?):x.ok w':=by
 refine ⟨⟨h.rd.1,fun hn=>?_⟩,ha,h.le,h.cap,h.reach⟩;obtain ⟨ad,e,hb,hc⟩:=h.rd.2 hn;refine ⟨ad,e,Xl,fun j u hu=>?_⟩;rw [←hc j u hu];refine Vl ?_;rw [IV];exact hk _ hn (by show Value.ownBlock (.slice x.A x.n x.c)=_;rw [e];(try rfl))
theorem Ae3 {α:Type} [AY α] {w:World} {x:Row α} (h:x.ok w) {g:Nat} (hn:0<x.n) (hg:x.v.ownBlock=some g):g<w.heap.size:=by
 obtain ⟨ad,e,hb,_⟩:=h.rd.2 hn;have hg:Value.ownBlock (.slice x.A x.n x.c)=some g:=hg;rw [e] at hg;injection hg with hg;omega
theorem X8 {x:Row Br} {w:World} (h:x.ok w):(rRun x).holds w:=by
 refine ⟨?_,fun w' hs hk=>oW h hs (fun f hf=>⟨oW (h.all f hf).ks hs (h.all f hf).ks.all fun g hn hg=>hk g (.inr ⟨f,hf,hn,hg⟩),(h.all f hf).ag⟩) fun g hn hg=>hk g (.inl ⟨hn,hg⟩)⟩;rintro g (⟨hn,hg⟩|⟨f,hf,hn,hg⟩)
 ·exact Ae3 h hn hg
 ·exact Ae3 (h.all f hf).ks hn hg
theorem Kw.run {w0 w:World} {v:Value} {fs:List Br} (h:Kw w0 w v fs) (hn:fs.length≤1000000):∃ X:Row Br,v=X.v∧X.l=fs∧X.n=fs.length∧X.ok w∧UY w0 w (rRun X):=by
 obtain ⟨A,n,c,rfl,hnl⟩:∃ A n c,v=.slice A n c∧n=fs.length:=by
  rcases h.own.2 with ⟨hv,h0⟩|⟨g,cap,cur,hv,_⟩
  ·exact ⟨_,_,_,hv,h0.symm⟩
  ·exact ⟨_,_,_,hv,rfl⟩
 subst hnl;have hok:Row.ok w (⟨A,fs.length,c,fs⟩:Row Br):=SG (x:=⟨A,fs.length,c,fs⟩) h.own h.ok (by show fs.length * 104≤_;omega);refine ⟨⟨A,fs.length,c,fs⟩,rfl,rfl,rfl,hok,X8 hok,?_⟩;rintro g (⟨hn,hg⟩|⟨f,hf,hn,hg⟩)
 ·exact Jh h.own hg
 ·obtain ⟨ad,e,_⟩:=(hok.all f hf).ks.rd.2 hn;have hg:Value.ownBlock (.slice f.ks.A f.ks.n f.ks.c)=some g:=hg;rw [e] at hg;injection hg with hg;have:=h.new f hf hn ad e;omega
def Nq (x:Row Br):Row Br:=⟨if x.c=1 then x.A else x.A.map (·.add 11),x.n - 1,x.c - 1,x.l.drop 1⟩
theorem Am2 {w:World} {x:Row Br} (h:x.ok w) (h1:1≤x.n):(Nq x).ok w:=by
 have hl:=h.len;have hle:=h.le;have hcap:=h.cap;have hre:=h.reach;refine ⟨⟨?_,fun hn=>?_⟩,fun f hf=>h.all f (Tx hf),by show x.n - 1≤x.c - 1;omega,by show x.c - 1≤_;omega,by show (x.n - 1) * 104≤_;have:x.n * 104≤140737488351232:=hre;omega⟩
 ·rw [Fu];show (x.l.drop 1).length * 11=(x.n - 1) * 11;rw [Ih,hl]
 ·have hn:0<x.n - 1:=hn;obtain ⟨ad,e,hb,hc⟩:=h.rd.2 Xl;refine ⟨ad.add 11,by show (if x.c=1 then x.A else x.A.map (·.add 11))=_;rw [Ak Xl,e];(try rfl),by rw [IV];exact hb,fun j u hu=>?_⟩;have hu':(x.l.flatMap AY.cells)[11+j]?=some u:=by
   have hx:x.l=x.l.take 1++x.l.drop 1:=(Na 1 x.l).symm;have ht:((x.l.take 1).flatMap AY.cells).length=11:=by rw [Fu,FK,hl];show min 1 x.n * 11=11;rw [Vi h1]
   rw [hx,EM,Rf (by rw [ht];omega),ht,Nat.add_sub_cancel_left];exact hu
  have:=hc (11+j) u hu';rw [←this]
  congr 1
  unfold Addr.add;by_cases h0:j=0
  ·subst h0;simp
  ·simp [h0,QZ]
theorem Ac5:prog.underlying 54=some (.slice (prog.elem 54)):=by kernel_rfl
theorem vX (x:Row Br) (h1:1≤x.n) (w:World):(Instr.sliceAt 54 (.slice x.A x.n x.c) (some (.int .i64 1)) none none).run prog w=.ok (.slice (Nq x).A (Nq x).n (Nq x).c) w:=by
 have hz:∀ w,(sizeOf (prog.elem 54)).run prog w=.ok 11 w:=fun _=>by kernel_rfl
 rw [run_sliceAt_slice (h:=Ac5),run_slice_l (ht:=Ac5) (h0:=by omega) (h1:=by omega),hz];simp [sliced,Nq]
theorem Aa2 {l:List Br} {f:Br} (h:l[0]?=some f):cons l=f.Ac::cons (l.drop 1):=by
 cases l with
 |nil=>simp at h
 |cons a l=>injection h with h;subst h;rfl
theorem lF {w:World} {base:Nat} {e:TypeId} {size g n c o:Nat} {xs:List Value} (h:w.ownsRow base e size (.slice (some ⟨g,0,none⟩) n c) n xs) (ho:o<n * size) (u:Value):(w.setCell ⟨g,o,none⟩ u).ownsRow base e size (.slice (some ⟨g,0,none⟩) n c) n (xs.set o u):=by
 refine ⟨by rw [Rn];exact h.1,?_⟩;rcases h.2 with ⟨h0,h1⟩|⟨g',cap,cur,hv,hb,hh,hn,hm,hs,hx⟩
 ·cases h0
 ·injection hv with hv1 _ hv2;injection hv1 with hv1;injection hv1 with hv1 _ _;subst hv1 hv2;refine .inr ⟨g,c,cur.setIfInBounds o u,rfl,hb,Bh.Iy (t:=e) (cs:=cur) hh o u,hn,hm,by simpa using hs,?_⟩;rw [←hx,Array.toList_setIfInBounds,LQ]
theorem Ag1 {w:World} {base:Nat} {e:TypeId} {size g n c o:Nat} {xs:List Value} (h:w.ownsRow base e size (.slice (some ⟨g,0,none⟩) n c) n xs) (ho:o<n * size):w.frozen? ⟨g,o,none⟩=false:=by
 rcases h.2 with ⟨h0,h1⟩|⟨g',cap,cur,hv,hb,hh,hn,hm,hs,hx⟩
 ·cases h0
 ·injection hv with hv1 _ hv2;injection hv1 with hv1;injection hv1 with hv1 _ _;subst hv1 hv2;have hb2:Bh w g e cur:=hh;exact hb2.frozen o
theorem Y1 {L:List EJ} {r r':EJ} {m:Nat} (h0:L[0]?=some r) (hh:Heap (L.map EJ.Ac) m):Lv ((L.set 0 r').map EJ.Ac) m 0∧(r'.Ac.1=[]→Heap ((L.set 0 r').map EJ.Ac) m):=by
 have g:∀ k,0<k→((L.set 0 r').map EJ.Ac)[k]?=(L.map EJ.Ac)[k]?:=fun k hk=>by rw [Ed,Ed,Ou Xl]
 refine ⟨⟨fun k a b h0 hk hP ha hb=>?_,fun k a b h=>by omega⟩,fun he k a b hk0 hk _ ha hb=>?_⟩
 ·rw [g _ h0] at ha;rw [g _ Xl] at hb;exact hh k a b h0 hk (fun h=>h) ha hb
 ·by_cases hp:(k - 1) / 2=0
  ·rw [hp,Ed,NK (CB.1 h0).1] at hb;injection hb with hb;subst hb;show Fb a r'.Ac=false;unfold Fb;rw [he];cases a.1<;>rfl
  ·rw [g _ hk0] at ha;rw [g _ Xl] at hb;exact hh k a b hk0 hk (fun h=>h) ha hb
theorem bJ {R:List (List CZ)} {k:Nat} {l:List CZ} (h:R[k]?=some l):Eh 0 (R.take (k+1))=Eh 0 (R.take k)++(if l=[] then [] else [(l,k)]):=by
 have hk:=(CB.1 h).1;rw [Ra,h,Option.toList_some,UB,FK,Vi Xl,FI]
 rfl
theorem Q7 (w:World) (e:TypeId) (size:Nat):(w.alloc (.cells #[] e)).ownsRow w.heap.size e size (.slice (some ⟨w.heap.size,0,none⟩) 0 0) 0 []:=
 ⟨uH,.inr ⟨w.heap.size,0,#[],rfl,Ci _,Bh.new w e #[],Ci _,by unfold maxLen;omega,uH,uH⟩⟩
theorem Nz (w:World) (t:TypeId) (cs:Array Value) (size:Nat) (hs:cs.size=size):(w.alloc (.cells cs t)).ownsRow w.heap.size t size (.slice (some ⟨w.heap.size,0,none⟩) 1 1) 1 cs.toList:=
 ⟨by simp [hs],.inr ⟨w.heap.size,1,cs,rfl,Ci _,PW w _,Ci _,by unfold maxLen;omega,Xl,by rw [EU (by simp [hs])]⟩⟩
theorem eF {P:Program} {ops:Array Oper} {rest:List Oper} {o:Oper} {a:Act} {w:World} {Q:Exit→Act→World→Prop} (hgd:o.guard=none) {t:TypeId} (x:Operand) (lo hi:Option Operand) (ho:o.op=.slice t x lo hi none) {v:Value}
 (hr:∀ w,(Instr.sliceAt t (a.eval x) (lo.map a.eval) (hi.map a.eval) none).run P w=.ok v w) (h:wpList P ops Q rest (a.put o.dst v) w):wpList P ops Q (o::rest) a w:=by
 refine Rk hgd fun K hK=>?_;unfold Oper.wp execOp;simp only [ho,Option.map_none,KH,hr,LC,LB];exact hK _ _ h
theorem Ad6 {L:List EJ} {A A':Option Addr} {n c n' c' no:Nat} {l l':List Br} (h:L[0]?=some ⟨⟨A,n,c,l⟩,no⟩):(L.flatMap AY.cells).set 0 (.slice A' n' c')=(L.set 0 ⟨⟨A',n',c',l'⟩,no⟩).flatMap AY.cells:=by
 cases L with
 |nil=>simp at h
 |cons a L=>injection h with h;subst h;rfl
def D6 (l:List CZ) (w:World) (e:Ending) (w':World):Prop:=∃ v fs,e=.returned v∧Kw w w' v fs∧cons fs=l
theorem Q8 {w:World} {base base':Nat} {e:TypeId} {size n:Nat} {v:Value} {xs:List Value} (h:w.ownsRow base e size v n xs) (hb:base'≤base):w.ownsRow base' e size v n xs:=by
 refine ⟨h.1,?_⟩;rcases h.2 with h0|⟨g,cap,cur,hv,hg,hr⟩
 ·exact .inl h0
 ·exact .inr ⟨g,cap,cur,hv,IA hb hg,hr⟩
theorem Kw.from_ {w w1 w2:World} {v:Value} {fs:List Br} (hb:Ai w w1) (h:Kw w1 w2 v fs):Kw w w2 v fs:=⟨hb.trans h.Av,Q8 h.own hb.size,h.ok,h.away,fun f hf hn ad e=>IA hb.size (h.new f hf hn ad e)⟩
abbrev Gi (x:List (Row Br)):List (List CZ):=x.map fun r=>cons r.l
theorem WU (w:World) (x:Row (Row Br)) (hx:x.ok w) (hn:x.n≤5000) (ht:(Gi x.l).flatten.length≤100000) (hs:∀ r ∈ Gi x.l,Yi r):
 Calls prog 152 #[.slice x.A x.n x.c] w (D6 (BK (Gi x.l).flatten) w):=by
 have HX:=Aa hx;have hlen:Hid (x.l.length=x.n):=hx.len;obtain ⟨A0,N,c0,X⟩:=x;simp only at *;obtain ⟨R,hR⟩:∃ R,R=Gi X:=⟨_,rfl⟩;have HRl:Hid (R.length=N):=by show _=_;rw [hR,CQ];exact hlen.Ab
 have nP:Hid (∀ (k:Nat) (y:Row Br),X[k]?=some y→R[k]?=some (cons y.l)):=fun k y h=>by rw [hR,Ed,h];(try rfl)
 rw [←hR] at ht hs ⊢;have HS0:=Aa hs;have HT:=Aa ht;clear hR hx ht hs;go_enter func152,ntmps152;go_upto_region 2 with fail;have H:=Aa ((((SL.start No w).Co ((Ai.refl _).alloc _) (Q7 w 269 2)).alloc #[.slice (some ⟨w.heap.size,0,none⟩) 0 0] 266).rot);(try simp only [LS] at H);generalize w.heap.size+1=g at *;generalize World.alloc (World.alloc _ _) _=w1 at *;generalize (some (⟨w.heap.size,0,none⟩:Addr))=A at *;have HP:Hid ((List.map EJ.Ac ([]:List EJ)).Perm (Eh 0 (R.take 0))):=by rw [Pm];exact List.Perm.nil
 have HH:Hid (Heap (List.map EJ.Ac ([]:List EJ)) 0):=fun k a b h0 hk=>by omega
 have KC:Hid (∀ h ∈ ([]:List EJ),h.ok w):=fun h hh=>by cases hh
 replace H:Hid (SL No w w1 (Js g A 0 0 [] [])):=H;go_wp2_with fail;go_loopg [12,4,5] N (fun gg s12 s4 s5 wr=>∃ (k m c:Nat) (A:Option Addr) (L:List EJ),gg=N - k∧k≤N∧m≤k∧s12=.int .i64 k∧Hid ((L.map EJ.Ac).Perm (Eh 0 (R.take k)))∧Hid (Heap (L.map EJ.Ac) m)∧Hid (∀ h ∈ L,h.ok w)∧Hid (SL No w wr (Js g A m c L [])));case atStart=>exact ⟨0,0,0,A,[],rfl,Xl,Xl,rfl,HP,HH,KC,H⟩
 case round=>
  clear H HP HH KC;obtain ⟨k,m,c,A,L,BR,hk,hmk,rfl,HP,HH,KC,H⟩:=hrel;have Cs:=Aa BR;clear BR;by_cases hlt:k<N
  ·obtain ⟨bb,oo,y,hA,hyk,q1⟩:=Oz rfl (HX.mono H.to).rd (k:=k) hlt;simp only at hA;subst hA;have q1:=q1 _ rfl;have Pw:y.ok w:=HX.all y (CU hyk);have HRk:=Aa (nP k y hyk);have hyl:(cons y.l).length=y.n:=by rw [AR];exact Pw.len
   have i0:(0:Int)≤k:=by omega
   have i1:(k:Int)<N:=by omega
   clear hyk;obtain ⟨YA,yn,yc,yl⟩:=y;simp only [Row.v] at *;by_cases hy0:0<yn
   ·have d1:decide ((0:Int)<yn)=true:=by simp;omega
    have HYok:=Aa Pw;have HPn:Hid (Eh 0 (R.take (k+1))=Eh 0 (R.take k)++[(cons yl,k)]):=by show _=_;rw [bJ HRk.Ab,Ak (fun e=>by rw [e] at hyl;simp at hyl;omega)]
    have hbd:∀ w:World,(Instr.build 269 #[(0,.slice YA yn yc),(1,.int .i64 k)]).run prog w=.ok (.agg #[.slice YA yn yc,.int .i64 k]) w:=fun _=>by kernel_rfl
    clear hyl Pw;go_wp2_with ((with_reducible refine OP 24 ?_);refine Ro rfl (.tmp 22) (.tmp 23) rfl rfl rfl hbd ?_);refine (xO w _ g A m c L [] ⟨⟨YA,yn,yc,yl⟩,k⟩ H Xl KC ⟨HYok.Ab,hy0,by show k≤_;omega⟩ HH.Ab).mono ?_;rintro e w3 ⟨rfl,A2,c2,L2,hp,hh,hs3⟩;have Xq:Hid ((L2.map EJ.Ac).Perm (Eh 0 (R.take (k+1)))):=by
     show List.Perm _ _;rw [HPn.Ab];refine (hp.map EJ.Ac).trans ?_;rw [Cf];exact HP.append_right _
    have Xr:Hid (∀ h ∈ L2,h.ok w):=fun h hm=>by
     rcases Eb.1 (hp.mem_iff.1 hm) with h1|h1
     ·exact KC h h1
     ·rw [Ee] at h1;subst h1;exact ⟨HYok.Ab,hy0,by show k≤_;omega⟩
    have HH2:=Aa hh;clear HP HH KC HPn hp hh H;have H:=Aa hs3;clear hs3 hbd d1 q1;go_wp2_with fail;go_roundg (N - (k+1));case rel=>exact ⟨k+1,m+1,c2,A2,L2,rfl,Xl,Xl,by go_num,Xq,HH2,Xr,H⟩
    case measure=>rw [Cs.Ab];omega
   ·have d1:decide ((0:Int)<yn)=false:=by simp;omega
    have Xq:Hid ((L.map EJ.Ac).Perm (Eh 0 (R.take (k+1)))):=by
     show List.Perm _ _;rw [bJ HRk.Ab,Al (LD (by rw [hyl];omega)),EO];exact HP.Ab
    clear HP hyl Pw;go_wp2_with fail;clear q1 d1;go_roundg (N - (k+1));case rel=>exact ⟨k+1,m,c,A,L,rfl,Xl,Xl,by go_num,Xq,HH,KC,H⟩
    case measure=>rw [Cs.Ab];omega
  ·obtain rfl:k=N:=by omega
   have HP0:Hid ((L.map EJ.Ac).Perm (Eh 0 R)):=by have h:=HP.Ab;rw [EU (by rw [HRl.Ab];exact Ci _)] at h;exact h
   replace H:Hid (SL No w wr [Aw g 266 #[.slice A m c],Ce 269 2 (.slice A m c) m (L.flatMap AY.cells),Ce 97 11 (.slice none 0 0) 0 []]):=Aa (H.Dw 97 11);have HCO:Hid (cons []++BK R.flatten=BK R.flatten):=rfl;have QU:Hid (∀ f ∈ ([]:List Br),f.ok w):=fun f hf=>by cases hf
   clear HP;go_wp2_with fail;clear hlt;go_loopg [6,7] R.flatten.length (fun gg s6 s7 wr=>∃ (m c:Nat) (A:Option Addr) (L:List EJ) (Rm:List (List CZ)) (B:Option Addr) (q d:Nat) (out:List Br),gg=Rm.flatten.length∧s6=.slice B q d∧m≤k∧Hid (out.length=q)∧Hid (q+Rm.flatten.length=R.flatten.length)∧Hid ((L.map EJ.Ac).Perm (Eh 0 Rm))∧Hid (Heap (L.map EJ.Ac) m)∧Hid (∀ h ∈ L,h.ok w)∧Hid (∀ l ∈ Rm,Yi l)∧Hid (cons out++BK Rm.flatten=BK R.flatten)∧Hid (∀ f ∈ out,f.ok w)∧Hid (SL No w wr [Aw g 266 #[.slice A m c],Ce 269 2 (.slice A m c) m (L.flatMap AY.cells),Ce 97 11 (.slice B q d) q (out.flatMap AY.cells)]));case atStart=>exact ⟨m,c,A,L,R,none,0,0,[],rfl,rfl,hmk,Aa rfl,Aa (FI _),HP0,HH,KC,HS0,HCO,QU,H⟩
   case round=>
    clear H HP0 HH KC HS0 HCO QU;obtain ⟨m,c,A,L,Rm,B,q,d,out,BR,rfl,hmk,hq,hqT,HP,HH,KC,HSr,HCO,QU,H⟩:=hrel;have Hgk2:=Aa BR;have HQ:=Aa hq.Ab;clear BR hq;have ch:=(H.blk 0 rfl).Ap 0;go_wp2_with fail;clear ch;refine (VP _ _ _ _).mono ?_;rintro e w3 ⟨rfl,rfl⟩;by_cases hm0:0<m
    ·obtain ⟨m,rfl⟩:∃ m',m=m'+1:=⟨m - 1,Xl⟩;have d1:decide ((0:Int)<((m+1:Nat):Int))=true:=by simp<;>omega
     obtain ⟨b,a,rfl,hb,ha0,hrg,tQ,ca1⟩:=Py (H.row 1 rfl) (k:=0) Xl;have xV:a.ok w:=KC a (CU ha0);obtain ⟨fb,fo,f,hLA,hfb,hf0,hfok,_,hfr,_⟩:=(xV.left.mono H.to).Z7 xV.n1;have QA:Hid (f.ok w):=xV.left.all f (CU hf0);have HR:=Aa hfr;have hch:=Aa2 hf0;have HCH:=Aa hch;have h0:(L.map EJ.Ac)[0]?=some (f.Ac::cons (a.left.l.drop 1),a.no):=by rw [Qk ha0];show some (cons a.left.l,a.no)=_;rw [hch]
     have hlm:(L.map EJ.Ac).length=m+1:=by rw [CQ];exact Il (Rd.BC (H.row 1 rfl))
     have hst:=xK HP (by rw [hlm];exact HH.Ab) h0 HSr.Ab;have HJ:=Aa hst.1;have HST:=Aa hst.2;have nQ:=Aa (xL HP h0 hst.1);have HA0:=Aa ha0;have HSR2:=Aa (Am4 HSr hst.1);clear hst hfr hch h0 hlm hrg ca1 hf0 hfok hfb ha0 hb;have hq1:q≤100000:=by have:=hqT.Ab;have:=HT.Ab;omega
     have hsl:=vX a.left xV.n1;have HAOK:=Aa xV;have tQ:wr.cell? ⟨b,0,none⟩=some (.slice a.left.A a.left.n a.left.c):=by simpa using tQ
     have n1:=xV.n1;clear xV;obtain ⟨⟨LA,ln,lc,ll⟩,no⟩:=a;simp only at *;subst hLA;have n1i:(0:Int)<ln:=by omega
     have ch:=(H.blk 0 rfl).Ap 0;go_upto_region 12 with (first|((with_reducible refine OP 43 ?_);(refine Af rfl Bz (.tmp 42) rfl fb (fo) rfl f.cs rfl HR.Ab ?_))|((with_reducible refine OP 44 ?_);(refine AP rfl EI (.tmp 43) rfl (f.cs) rfl (FL f) Xl ?_;replace H:=Aa (H.Co ((Ai.refl _).alloc _) (Nz _ 97 (f.cs) 11 (FL f)));(try simp only [LS] at H)))|((with_reducible refine OP 45 ?_);(refine Az rfl (.tmp 37) (.tmp 44) _ rfl EI 0 (Bj _) _ q _ rfl (H.row 2 rfl) _ 1 1 f.cs.toList rfl (Rd.BC (H.row 3 rfl)) (JG f) Za4 Xl ?_;intro vq wq AJ Aq AQ;replace H:=Aa (H.setRow 2 rfl Aq AJ AQ);(try simp only [LS] at H);clear AJ Aq AQ;obtain ⟨B2,d2,rfl,_⟩:=Ao (H.row 2 rfl))));(try simp only [Act.put,LP]);replace H:=Aa (H.Fg [0,1,2] Za1 uH);(try simp only [LS] at H);clear ch n1i tQ;(try simp only [LS] at H);have HCO2:Hid (cons (out++[f])++BK (Rm.set no (cons (ll.drop 1))).flatten=BK R.flatten):=by
      show _=_;rw [←HCO.Ab,HST.Ab,show cons (out++[f])=cons out++[f.Ac] by simp [cons]];simp
     have Tq:Hid (∀ z ∈ out++[f],z.ok w):=fun z hz=>(Eb.1 hz).elim (QU z) (fun h=>by rw [Ee] at h;subst h;exact QA.Ab)
     have vG:Hid ((out++[f]).length=q+1):=by show _=_;rw [Cn,HQ.Ab];(try rfl)
     have MG:out.flatMap AY.cells++f.cs.toList=(out++[f]).flatMap AY.cells:=by simp [AY.cells]
     rw [MG] at H;have OI:(Rm.set no (cons (ll.drop 1))).flatten.length+1=Rm.flatten.length:=by
      have h:=CW List.length HST.Ab;rw [FD,En,FD] at h;omega
     have HL2:=Aa OI;have HQT2:Hid (q+1+(Rm.set no (cons (ll.drop 1))).flatten.length=R.flatten.length):=by show _=_;have:=hqT.Ab;omega
     clear MG OI HCO QU HQ hqT HST HSr;have tQ:=(Py (H.row 1 rfl) (k:=0) Xl);obtain ⟨b',a',hb',_,ha',_,tQ,_⟩:=tQ;injection hb' with hb';injection hb' with hb';subst hb';rw [HA0.Ab] at ha';injection ha' with ha';subst ha';rw [Ww] at tQ;have fa0:=Ag1 (H.row 1 rfl) (o:=0) Xl;generalize hTA:(Nq ⟨some ⟨fb,fo,none⟩,ln,lc,ll⟩).A=TA at *;generalize hTN:(Nq ⟨some ⟨fb,fo,none⟩,ln,lc,ll⟩).n=TN at *;generalize hTC:(Nq ⟨some ⟨fb,fo,none⟩,ln,lc,ll⟩).c=TC at *;have HTA:=Aa hTA;have HTN:=Aa hTN;have HTC:=Aa hTC;clear hTA hTN hTC;go_upto_region 13 with ((with_reducible refine OP 51 ?_);refine eF rfl (.tmp 50) (some (.const (.int .i64 1))) none rfl hsl ?_);(try simp only [Act.put,LP]);replace H:=Aa (H.setRow 1 rfl (grownBy_setCell _ b 0 (.slice TA TN TC)) (lF (H.row 1 rfl) Xl (.slice TA TN TC)) (.inl rfl));(try simp only [LS] at H);generalize World.setCell _ _ _=wz at *;rw [Ad6 (l':=ll.drop 1) HA0.Ab] at H;obtain ⟨a2,ha2⟩:∃ a2:EJ,a2=⟨⟨TA,TN,TC,ll.drop 1⟩,no⟩:=⟨_,rfl⟩;have nN:Hid ((⟨TA,TN,TC,ll.drop 1⟩:Row Br)=Nq ⟨some ⟨fb,fo,none⟩,ln,lc,ll⟩):=by show _=_;rw [←HTA.Ab,←HTN.Ab,←HTC.Ab];(try rfl)
     have HTok:Hid (Row.ok w (⟨TA,TN,TC,ll.drop 1⟩:Row Br)):=by show Row.ok _ _;rw [nN.Ab];exact Am2 HAOK.left HAOK.n1
     have HLT:Hid ((cons (ll.drop 1)).length=TN):=by show _=_;rw [AR];exact HTok.len
     have zL:=HAOK.no;have zL:no≤1000000:=zL;obtain ⟨L2,hL2⟩:∃ L2,L2=L.set 0 a2:=⟨_,rfl⟩;rw [←ha2,←hL2] at H;have HG0:Hid (L2[0]?=some a2):=by show _=_;rw [hL2,NK (CB.1 HA0.Ab).1]
     have HGk:Hid (∀ k,0<k→L2[k]?=L[k]?):=fun k hk=>by rw [hL2,Ou Xl]
     have HRT:=Aa (Y1 (r':=a2) HA0 HH.Ab);rw [←hL2] at HRT;have HMP:Hid (L2.map EJ.Ac=(L.map EJ.Ac).set 0 (cons (ll.drop 1),no)):=by show _=_;rw [hL2,List.map_set,ha2]
     have HA2:=Aa ha2;have HL2':Hid (L.map EJ.Ac=(f.Ac::cons (ll.drop 1),no)::(L.map EJ.Ac).tail∧L2.map EJ.Ac=(cons (ll.drop 1),no)::(L.map EJ.Ac).tail):=by
      have h1:=Qk HA0.Ab;show _∧_;rw [HMP.Ab];cases hq:L.map EJ.Ac with
      |nil=>rw [hq] at h1;simp at h1
      |cons z zs=>
       have hz:L[0]?=some _:=HA0.Ab;have hj:=(CB.1 HJ.Ab).1;refine ⟨?_,rfl⟩;rw [hq] at h1;injection h1 with h1;rw [List.tail_cons,h1]
       congr 1
       show (cons ll,no)=_;rw [HCH.Ab]
     clear hL2 ha2 tQ fa0 hsl HMP;have tQ:=(Py (H.row 1 rfl) (k:=0) Xl);obtain ⟨b',a',hb',_,ha',_,tQ,_⟩:=tQ;injection hb' with hb';injection hb' with hb';subst hb';rw [HG0.Ab] at ha';injection ha' with ha';subst ha';rw [Ww,HA2.Ab] at tQ;by_cases hz:TN=0
     ·have dz:decide (TN=0)=true:=by simp [hz]
      have HT0:Hid (cons (ll.drop 1)=[]):=LD (by rw [HLT.Ab];exact hz);subst hz;go_wp2_with fail;refine (X6 w _ g (some ⟨b,0,none⟩) m c L2 [Ce 97 11 (.slice B2 (q+1) d2) (q+1) ((out++[f]).flatMap AY.cells)] a2 H Xl HG0 (fun k x h0 hx=>by rw [HGk k h0] at hx;exact KC x (CU hx)) (HRT.2 (by rw [HA2.Ab];exact HT0.Ab))).mono ?_;rintro e w9 ⟨⟨v,rfl⟩,L',hp,hh,hs9⟩;have Xq:Hid ((L'.map EJ.Ac).Perm (Eh 0 (Rm.set no (cons (ll.drop 1))))):=by
       refine nQ.2 HT0 _ ?_;have h1:=hp.map EJ.Ac;rw [Cf,HL2'.2,List.map_singleton,HA2.Ab] at h1;rw [HL2'.1];have h2:((cons (ll.drop 1),no)::L'.map EJ.Ac).Perm ((cons (ll.drop 1),no)::(L.map EJ.Ac).tail):=(List.perm_append_singleton _ _).symm.trans h1;exact (h2.cons_inv.symm.cons _).trans (List.perm_append_singleton _ _).symm
      have Xr:Hid (∀ h ∈ L',h.ok w):=fun h hm=>by
       have hc:L2=a2::L2.tail:=by
        have hg:=HG0.Ab;cases hq:L2 with
        |nil=>rw [hq] at hg;simp at hg
        |cons z zs=>rw [hq] at hg;injection hg with hg;subst hg;rfl
       have h2:(a2::L').Perm (a2::L2.tail):=by rw [←hc];exact (List.perm_append_singleton _ _).symm.trans hp
       obtain ⟨k,hk⟩:=MZ.1 (h2.cons_inv.mem_iff.1 hm);have hk2:L2[k+1]?=some h:=by rw [hc,FR];exact hk
       rw [HGk (k+1) Xl] at hk2;exact KC h (CU hk2)
      have HH2:=Aa hh;clear H hp hh tQ;have H:=Aa hs9;clear hs9;go_wp2_with fail;go_roundg ((Rm.set no (cons (ll.drop 1))).flatten.length);case rel=>exact ⟨m,c,some ⟨b,0,none⟩,L',_,B2,q+1,d2,out++[f],rfl,rfl,Xl,vG,HQT2,Xq,HH2,Xr,HSR2,HCO2,Tq,H⟩
      case measure=>rw [Hgk2.Ab];have:=HL2.Ab;omega
     ·have dz:decide (TN=0)=false:=by simp [hz]
      have HT0:Hid (cons (ll.drop 1)≠[]):=fun e=>by have:=HLT.Ab;rw [e] at this;simp at this;omega
      go_wp2_with fail;have HOK1:Hid (∀ h ∈ L2,h.ok w):=fun h hm=>by
       obtain ⟨k,hk⟩:=MZ.1 hm;by_cases h0:k=0
       ·subst h0;rw [HG0.Ab] at hk;injection hk with hk;subst hk;rw [HA2.Ab];exact ⟨HTok.Ab,by show 1≤TN;omega,zL⟩
       ·rw [HGk k Xl] at hk;exact KC h (CU hk)
      refine (X7 w _ g (some ⟨b,0,none⟩) (m+1) c L2 [Ce 97 11 (.slice B2 (q+1) d2) (q+1) ((out++[f]).flatMap AY.cells)] H Xl Xl HOK1 HRT.1).mono ?_;rintro e w9 ⟨rfl,L',hp,hh,hs9⟩;have Xq:Hid ((L'.map EJ.Ac).Perm (Eh 0 (Rm.set no (cons (ll.drop 1))))):=by
       refine (hp.map EJ.Ac).trans ?_;rw [HL2'.2];have h1:=nQ.1 HT0.Ab;rw [HL2'.1] at h1;exact h1
      have Xr:Hid (∀ h ∈ L',h.ok w):=fun h hm=>HOK1 h (hp.mem_iff.1 hm)
      have HH2:=Aa hh;clear H hp hh tQ;have H:=Aa hs9;clear hs9;go_wp2_with fail;go_roundg ((Rm.set no (cons (ll.drop 1))).flatten.length);case rel=>exact ⟨m+1,c,some ⟨b,0,none⟩,L',_,B2,q+1,d2,out++[f],rfl,rfl,Xl,vG,HQT2,Xq,HH2,Xr,HSR2,HCO2,Tq,H⟩
      case measure=>rw [Hgk2.Ab];have:=HL2.Ab;omega
    ·obtain rfl:m=0:=by omega
     have hL0:L=[]:=LD (Il (Rd.BC (H.row 1 rfl)));have hfl:Rm.flatten=[]:=flatten_nil (by have h:=HP.Ab;rw [hL0] at h;exact h);have HCO2:Hid (cons out=BK R.flatten):=by have h:=HCO.Ab;rw [hfl,show BK []=[] from rfl,EO] at h;exact h
     have hq1:q≤100000:=by have:=hqT.Ab;have:=HT.Ab;omega
     have HX0:=Aa (KV ⟨B,q,d,out⟩ wr (SG (x:=⟨B,q,d,out⟩) (H.row 2 rfl) (fun f hf=>⟨(QU f hf).ks.mono H.to,(QU f hf).ag⟩) (by show q * 104≤_;omega)) (by show q≤_;omega));clear hL0 hfl HP HCO;go_wp2_with fail;refine HX0.mono ?_;rintro e w9 ⟨v,fs,rfl,hG,hc⟩;have HRS:Hid (D6 (BK R.flatten) w (.returned v) w9):=⟨v,fs,rfl,hG.from_ H.to,by rw [hc];exact HCO2.Ab⟩;clear hG hc HX0;go_wp2;go_ret;exact HRS.Ab
def ET (T:Nat→Prop) (w:World) (P:World→Prop):Prop:=∀ w',Fr T w w'→P w'
section
variable {T : Nat → Prop} {w w' : World} {P Q : World → Prop}
theorem ET.now (h:ET T w P):P w:=h w (Fr.refl _ _)
theorem ET.fr (h:ET T w P) (k:Fr T w w'):ET T w' P:=fun w2 k2=>h w2 (k.trans k2 fun _ h=>.inl h)
theorem ET.Av (h:ET T w P) (k:Ai w w'):ET T w' P:=h.fr (Fr.MR k)
theorem ET.imp (h:ET T w P) (k:∀ w',P w'→Q w'):ET T w Q:=fun w2 k2=>k w2 (h w2 k2)
theorem ET.and (h:ET T w P) (k:ET T w Q):ET T w fun w'=>P w'∧Q w':=fun w2 k2=>⟨h w2 k2,k w2 k2⟩
theorem ET.const {p:Prop} (h:p):ET T w fun _=>p:=fun _ _=>h
theorem Fr.mono {S:Nat→Prop} (h:Fr S w w') (hS:∀ g,S g→T g):Fr T w w':=⟨h.os,h.tape,h.output,h.size,fun g hg hn=>h.block g hg fun hs=>hn (hS g hs)⟩
theorem ET.As6 {r:FM} (h:r.holds w) (hT:∀ g,T g→¬ r.D g):ET T w r.p:=fun w2 k=>h.2 w2 k.size fun g hg=>k.block g (h.1 g hg) fun ht=>hT g ht hg
theorem ET.LY {w0:World} {r:FM} (h:UY w0 w r) (hT:∀ g,T g→g<w0.heap.size):ET T w r.p:=ET.As6 h.1 fun g ht hd=>by have:=hT g ht;have:=h.2 g hd;omega
end
section
variable {P : Program} {w : World}
theorem CK {ops:Array Oper} {o:Oper} {a:Act} {K:Act→World→Prop} {Q:Exit→Act→World→Prop} {X:Prop} (hgd:o.guard=none) {ty:TypeId} {n:Nat} (R:Ep P ty n) (x y:Operand) (ho:o.op=.store ty x y)
 (g:Nat) (hx:a.eval x=.pointer (some ⟨g,0,none⟩)) {t:TypeId} {cs:Array Value} (hb:Bh w g t cs) (hn:cs.size=n) (cs':Array Value) (hn':cs'.size=n) (hy:a.eval y=.agg cs') (h1:cs'.all (·.oneCell')=true)
 (h:∀ w',Bh w' g t cs'→w.grownBy w' (some g)→K (a.put o.dst undef) w'):if Region.wanted o (yielded ops a.tmps)=true then Oper.wp P o a w K Q else X:=by
 exact Zg8
theorem Zv {ops:Array Oper} {o:Oper} {a:Act} {K:Act→World→Prop} {Q:Exit→Act→World→Prop} {X:Prop} (hgd:o.guard=none) {ty:TypeId} {n:Nat} (R:Ep P ty n) (x y:Operand) (ho:o.op=.store ty x y)
 (g off:Nat) (hx:a.eval x=.pointer (some ⟨g,off,none⟩)) {t:TypeId} {cs:Array Value} (hb:Bh w g t cs) (cs':Array Value) (hn':cs'.size=n) (hfit:off+n≤cs.size) (hy:a.eval y=.agg cs') (h1:cs'.all (·.oneCell')=true)
 (h:∀ w',Bh w' g t (Ea cs off cs'.toList)→w.grownBy w' (some g)→K (a.put o.dst undef) w'):if Region.wanted o (yielded ops a.tmps)=true then Oper.wp P o a w K Q else X:=by
 have hw:Region.wanted o (yielded ops a.tmps)=true:=by simp [Region.wanted,hgd]
 rw [Al hw];refine Uc ty x y ho g off cs' hx hy (fun j hj=>?_) Ze2 h1 (h _ (Bh.Ea cs'.toList off hb) (Dy w g _ _));rw [hb.cell,hb.frozen];exact ⟨by rw [Zh Xl];rfl,rfl⟩
end
theorem DU {P:Program} {ops:Array Oper} {S:World→Prop} {op:Oper} {a:Act} {ty:TypeId} {n:Nat} (R:Ep P ty n) (hw:Region.wanted op (yielded ops a.tmps)=true) (x:Operand) (ho:op.op=.load ty x)
 (g off:Nat) (hx:a.eval x=.pointer (some ⟨g,off,none⟩)) {cs:Array Value} (hS:∀ w,S w→w.rangeAt g off cs.toList) (hn:cs.size=n):YieldsIf P ops S op (.agg cs) a:=by
 obtain ⟨d,hu,hd⟩:=R.hu;have:=yieldsIf_load_mid (P:=P) (ops:=ops) (S:=S) (op:=op) (a:=a) hw ty x ho g off hx cs.toList d (fun w h=>hS w h) hu hd Zb6;simpa using this
theorem Ac1 {α β:Type} {P:α→β→Prop} {G:α→β→Prop} {Q:Prop} (h1:(∀ a b,P a b→G a b)→Q) (h2:∀ a b,P a b→G a b):Q:=h1 h2
theorem I1 {α β γ:Type} {P G:α→β→γ→Prop} {Q:Prop} (h1:(∀ a b c,P a b c→G a b c)→Q) (h2:∀ a b c,P a b c→G a b c):Q:=h1 h2
theorem G9 {α β γ δ ε:Type} {P G:α→β→γ→δ→ε→Prop} {Q:Prop} (h1:(∀ a b c d e,P a b c d e→G a b c d e)→Q) (h2:∀ a b c d e,P a b c d e→G a b c d e):Q:=h1 h2
theorem SL.blk1 {b:Nat} {t:TypeId} {cs:Array Value} (w:World) (h:Bh w b t cs):SL (One b) w w [Aw b t cs]:=by
 refine ⟨Fr.refl _ _,fun i r hi=>?_,fun i j r q hij hi hj=>?_,fun i r hi g hg=>?_⟩
 ·match i,hi with
  |0,hi=>injection hi with hi;subst hi;exact Mc h
 ·match i,j,hi,hj with
  |0,0,_,_=>exact absurd rfl hij
 ·match i,hi with
  |0,hi=>injection hi with hi;subst hi;exact .inr hg
structure JZ where
 ct:Ct
 rows:Row Br
 has:Bool
 closed:Bool
abbrev JZ.nil:JZ:=⟨Ct.nil,⟨none,0,0,[]⟩,false,false⟩
abbrev JZ.cs (x:JZ):Array Value:=#[.slice x.ct.sc.dm.A x.ct.sc.dm.n x.ct.sc.dm.c,.slice x.ct.sc.ms.A x.ct.sc.ms.n x.ct.sc.ms.c,.int .i64 x.ct.fa,.int .i64 x.ct.p0,.int .i64 x.ct.q0,.int .i64 x.ct.p1,.int .i64 x.ct.q1,.int .i64 x.ct.p2,.int .i64 x.ct.q2,.slice x.rows.A x.rows.n x.rows.c,.bool x.has,.bool x.closed]
abbrev JZ.ms (x:JZ):Array Value:=#[.slice x.ct.sc.dm.A x.ct.sc.dm.n x.ct.sc.dm.c,.slice x.ct.sc.ms.A x.ct.sc.ms.n x.ct.sc.ms.c,.int .i64 x.ct.fa,.int .i64 x.ct.p0,.int .i64 x.ct.q0,.int .i64 x.ct.p1,.int .i64 x.ct.q1,.int .i64 x.ct.p2,.int .i64 x.ct.q2,.slice x.rows.A x.rows.n x.rows.c,.bool x.has,.bool x.closed,.bool true]
theorem Dt (x:JZ):x.cs.all (·.oneCell')=true:=by simp [Value.oneCell']
theorem Am3 (x:JZ):x.ms.all (·.oneCell')=true:=by simp [Value.oneCell']
structure JZ.rd (w:World) (x:JZ):Prop where
 ct:x.ct.rd w
 sm:C9 x.ct.sc
 rows:x.rows.ok w
def JZ.Ac (x:JZ):MC:=⟨x.ct.Ac,cons x.rows.l,x.has,x.closed⟩
theorem JZ.rd.mono {w w':World} {x:JZ} (h:x.rd w) (hb:Ai w w'):x.rd w':=⟨h.ct.mono hb,h.sm,h.rows.mono hb⟩
theorem Qa (w:World):JZ.nil.rd w:=⟨NF w,Sw,⟨(Row.MS w:(Row.mk none 0 0 ([]:List Br)).rd w).r,fun f hf=>(by cases hf),Ci _,Bj _,by show 0 * _≤_;omega⟩⟩
theorem Ae4:Ep prog 86 13:=⟨⟨_,underlying86,rfl⟩,by kernel_rfl⟩
theorem Be:Ep prog 65 12:=⟨⟨_,underlying65,rfl⟩,by kernel_rfl⟩
theorem AL:Ep prog 49 3:=⟨⟨_,underlying49,rfl⟩,by kernel_rfl⟩
theorem BJ (x:Es):x.cs.all (·.oneCell')=true:=by simp [Value.oneCell']
abbrev Es.err (e:Int):Es:=⟨e,⟨none,0,0,[]⟩,⟨none,0,0,[]⟩⟩
theorem BL (e:Int) (w:World):(Es.err e).rd w:=⟨Row.MS w,Row.MS w⟩
theorem DT (e:Int) (w:World):Calls prog 33 #[.int .i64 e] w fun e' w'=>e'=.returned (.agg (Es.err e).cs)∧Ai w w':=by
 have hbd:∀ w:World,(Instr.build 49 #[(0,.int .i64 e)]).run prog w=.ok (.agg #[.int .i64 e,.slice none 0 0,.slice none 0 0]) w:=fun _=>by kernel_rfl
 have H:=Aa ((SL.start No w).alloc #[.int .i64 0,.slice none 0 0,.slice none 0 0] 49);(try simp only [LS] at H);go_enter func33,ntmps33;go_wp2_with (first|((with_reducible refine OP 4 ?_);refine Bv (vx:=.int .i64 e) (v:=.agg #[.int .i64 e,.slice none 0 0,.slice none 0 0]) rfl (.tmp 3) rfl rfl hbd ?_)|((with_reducible refine OS 2 ?_);(refine Cj AL H 0 rfl (#[.int .i64 e,.slice none 0 0,.slice none 0 0]) Za2 ?_;clear H;intro wq H;(try simp only [LS] at H))));(try simp only [Act.put,LP]);refine Bc (AO rfl AL rfl (H.blk 0 rfl) rfl) rfl ?_;exact ⟨rfl,H.to⟩
theorem qQ (w:World):Calls prog 12 #[] w fun e w'=>e=.returned (.pointer (some ⟨w.heap.size,0,none⟩))∧w'=w.alloc (.cells JZ.nil.ms 86):=by
 go_enter func12,ntmps12;go_wp2;go_ret;exact ⟨rfl,rfl⟩
theorem VH (B:Nat) (x:JZ) (w:World) (hb:Bh w B 86 x.ms):Calls prog 28 #[.pointer (some ⟨B,0,none⟩)] w fun e w'=>e=.returned (.bool x.has)∧Ai w w':=by
 have c0:w.cell? ⟨B,10,none⟩=some (.bool x.has):=hb.cell 10;go_enter func28,ntmps28;go_wp2;go_ret;exact ⟨rfl,Ai.refl _⟩
theorem U1 (B:Nat) (x:JZ) (w:World) (hb:Bh w B 86 x.ms):Calls prog 23 #[.pointer (some ⟨B,0,none⟩)] w fun e w'=>e=.returned (.tuple #[])∧Fr (One B) w w'∧Bh w' B 86 (JZ.mk x.ct x.rows x.has false).ms:=by
 have c0:w.cell? ⟨B,11,none⟩=some (.bool x.closed):=hb.cell 11;have f0:=hb.frozen 11;have HB:=Aa hb;go_enter func23,ntmps23;go_wp2;refine bodyPost_end (results_none rfl _ _ _) rfl ?_;refine ⟨rfl,?_,HB.Iy 11 (.bool false)⟩;have h:=grownBy_setCell w B 11 (.bool false);exact ⟨h.os,h.tape,h.output,h.size,fun g hg hn=>h.block g hg (fun e=>hn (by injection e with e;(try exact e.symm)))⟩
attribute [local go_sem] Ll
end Go.Proofs.YtijplolmkcdflaaGreat
namespace Go.Proofs.YtijplolmkcdflaaGreat
open Tryz
open Go.RowKit
attribute [local go_sem] Ll
def mid (L:List Br) (i k:Nat) (x:Br):List Br:=L.take k++x::((L.take i).drop k++L.drop (i+1))
theorem U3 {L:List Br} {i:Nat} {f:Br} (h:L[i]?=some f):mid L i i f=L:=by
 obtain ⟨hi,rfl⟩:=CB.1 h;unfold mid;rw [EN Zb7,FC,←Eg hi,Na]
theorem Nn {L:List Br} {i k:Nat} {x y:Br} (hk:k≤L.length):(mid L i k x).set k y=mid L i k y:=by
 unfold mid;rw [List.set_append_right _ _ Zb7,FK,Vi hk,PU,kD]
theorem U4 {L:List Br} {i k:Nat} {y:Br} (h:L[k]?=some y) (hk:k<i):mid L i (k+1) y=mid L i k y:=by
 obtain ⟨hl,rfl⟩:=CB.1 h;unfold mid;rw [Rh hl];have:(L.take i).drop k=L[k]::(L.take i).drop (k+1):=by
  rw [Eg Zb7,List.getElem_take]
 rw [this];simp only [Ef,KZ,FC]
theorem An5 {L:List Br} {i k:Nat} {x:Br} (hk:k<L.length):(mid L i (k+1) x)[k]?=L[k]?:=by
 unfold mid;rw [QH Zb7,Jk Xl]
theorem YI {L:List Br} {i k:Nat} {x:Br} (hi:i<L.length) (hk:k≤i):(mid L i k x).length=L.length:=by
 unfold mid;simp;omega
theorem Ag8 {L:List Br} {i k:Nat} {f:Br} (hi:i<L.length) (hk:k≤i):(mid L i k f).take (i+1)=L.take k++f::(L.take i).drop k:=by
 unfold mid;rw [show L.take k++f::((L.take i).drop k++L.drop (i+1))=(L.take k++f::(L.take i).drop k)++L.drop (i+1) by simp];rw [List.take_append_of_le_length Za3,EU Za3]
theorem qR {L:List Br} {i k:Nat} {f:Br} (hi:i<L.length) (hk:k≤i):(mid L i k f).drop (i+1)=L.drop (i+1):=by
 unfold mid;rw [show L.take k++f::((L.take i).drop k++L.drop (i+1))=(L.take k++f::(L.take i).drop k)++L.drop (i+1) by simp];rw [List.drop_append_of_le_length Za3,EN Za3,FC]
theorem PH (L:List Br) (i:Nat):cons (L.take i)=(cons L).take i:=by unfold cons;rw [List.map_take]
theorem Me (L:List Br) (i:Nat):cons (L.drop i)=(cons L).drop i:=by unfold cons;rw [List.map_drop]
theorem dB (L M:List Br):cons (L++M)=cons L++cons M:=by unfold cons;rw [Cf]
theorem j5 {L:List Br} {i k:Nat} {f:Br} (hi:i<L.length) (hk:k=BM f.Ac (cons (L.take i)) i):cons ((mid L i k f).take (i+1))=JF f.Ac (cons (L.take i)):=by
 have hki:k≤i:=by rw [hk];exact Ur _ _ _
 have hl:(cons (L.take i)).length=i:=by rw [AR,FK];omega
 rw [Ag8 hi hki];unfold JF;rw [hl,←hk,dB];have e1:cons (L.take k)=(cons (L.take i)).take k:=by rw [←PH,List.take_take,Vi hki]
 have e2:cons (f::(L.take i).drop k)=f.Ac::(cons (L.take i)).drop k:=by rw [←Me];(try rfl)
 rw [e1,e2]
theorem Kw.set {w0 w w':World} {g n c:Nat} {M:List Br} {k:Nat} {f:Br} (h:Kw w0 w (.slice (some ⟨g,0,none⟩) n c) M) (hn:n=M.length) (ho:w'.ownsRow w0.heap.size 97 11 (.slice (some ⟨g,0,none⟩) n c) n ((M.set k f).flatMap AY.cells)) (hg:w.grownBy w' (some g))
 (hf:f.ok w) (hA:uV (.slice (some ⟨g,0,none⟩) n c) f) (hN:0<f.ks.n→∀ ad,f.ks.A=some ad→w0.heap.size≤ad.block):Kw w0 w' (.slice (some ⟨g,0,none⟩) n c) (M.set k f):=by
 have hall:∀ x ∈ M.set k f,x.ok w∧uV (.slice (some ⟨g,0,none⟩) n c) x∧(0<x.ks.n→∀ ad,x.ks.A=some ad→w0.heap.size≤ad.block):=fun x hx=>by
  rcases Zi hx with h1|rfl
  ·exact ⟨h.ok x h1,h.away x h1,h.new x h1⟩
  ·exact ⟨hf,hA,hN⟩
 exact ⟨h.Av.DN hg (Jh h.own rfl),by rw [Rn,←hn];exact ho,fun x hx=>⟨(hall x hx).1.ks.grown hg (hall x hx).2.1,(hall x hx).1.ag⟩,fun x hx=>(hall x hx).2.1,fun x hx=>(hall x hx).2.2⟩
def Ak6 (l:List Br) (w:World) (e:Ending) (w':World):Prop:=∃ v fs,e=.returned v∧Kw w w' v fs∧cons fs=BK (cons l)
theorem Zq2 {p:Prop} (h:p:=by
 show _=_;rw [j5 lW hK.out,hS.Ab];have h1:cons (L.drop i)=(cons l).drop i:=hD.Ab;have h2:((cons l).drop i)[0]?=some f.Ac:=by rw [←h1];exact Jd (by rw [NJ];exact Hf.Ab)
 rw [NJ,Kb] at h2;rw [Ra,h2];exact (Qb _ _).symm
):p:=h
theorem Zt6 {p:Prop} (h:p:=by show _=_;have h1:cons (L.drop i)=(cons l).drop i:=hD.Ab;rw [qR lW Xl];have h2:=CW (List.drop 1) h1;rw [←Me,PQ,PQ] at h2;exact h2):p:=h
theorem Zb4 {p:Prop} (h:p:=by have:=lW.Ab;omega):p:=h
theorem Ad2 (x:Row Br) (w:World) (hx:x.ok w) (hn:x.n≤5000):
 Calls prog 150 #[x.v] w (Ak6 x.l w):=by
 have hlen:Hid (x.l.length=x.n):=hx.len;have Hx:=Aa hx;clear hx;obtain ⟨A,n,c0,l⟩:=x;simp only [Row.v] at *;go_enter func150,ntmps150;go_wp2_with fail;refine (KV ⟨A,n,c0,l⟩ _ Hx Ze0).mono ?_;rintro e w1 ⟨v,fs,rfl,hG,Gm⟩;have Al4:=Aa Gm;have Hfl:Hid (fs.length=n):=by
  have h1:=CW List.length Gm;rw [AR,AR] at h1;have h2:l.length=n:=hlen.Ab;exact h1.trans h2
 clear Gm;by_cases hn1:n≤1
 ·have HR:Hid (cons fs=BK (cons l)):=by
   show _=_;have h1:cons fs=cons l:=Al4.Ab;rw [←h1,gL _ (by rw [AR,Hfl.Ab];exact hn1)]
  have hown:=hG.own;rw [Hfl.Ab] at hown;obtain ⟨A2,c2,rfl,_⟩:=Ao hown;have HG:=Aa hG;clear hG hown;go_wp2;refine wp_loop_rounds 1 ?_;rw [rounds_succ];go_wp2;go_ret;exact ⟨_,fs,rfl,HG.Ab,HR.Ab⟩
 ·obtain ⟨g,c,rfl⟩:∃ g c,v=.slice (some ⟨g,0,none⟩) n c:=by
   rcases hG.own.2 with ⟨_,h0⟩|⟨g,cap,cur,hv,_⟩
   ·have:=Hfl.Ab;omega
   ·exact ⟨g,cap,by rw [hv,Hfl.Ab]⟩
  have H1:Hid (cons (fs.take 1)=BK ((cons l).take 1)):=by
   show _=_;have h1:cons fs=cons l:=Al4.Ab;rw [PH,h1,gL _ Zb7]
  go_wp2;go_loopg [4] (n - 1) (fun gg s4 wr=>∃ (i:Nat) (L:List Br),gg=n - i∧1≤i∧i≤n∧s4=.int .i64 i∧Kw w wr (.slice (some ⟨g,0,none⟩) n c) L∧Hid (L.length=n)∧Hid (cons (L.take i)=BK ((cons l).take i))∧Hid (cons (L.drop i)=(cons l).drop i));case atStart=>exact ⟨1,fs,rfl,Xl,Xl,rfl,hG,Hfl,H1,by show _=_;have h1:cons fs=cons l:=Al4.Ab;rw [Me,h1]⟩
  case round=>
   clear hG H1;obtain ⟨i,L,BR,hi1,hin,rfl,hG,hLn,hS,hD⟩:=hrel;have Cs:=Aa BR;clear BR;by_cases hlt:i<n
   ·obtain ⟨f,Hf⟩:∃ f,Hid (L[i]?=some f):=⟨L[i]'(by have:=hLn.Ab;omega),by show _=_;exact Fp _⟩;have Aq9:wr.ownsRow w.heap.size 97 11 (.slice (some ⟨g,0,none⟩) n c) n (L.flatMap AY.cells):=by have:=hG.own;rw [hLn.Ab] at this;exact this
    obtain ⟨hrf,hgl⟩:=Gy (α:=Br) Aq9 Hf.Ab;have b5:=Bh.new wr 97 f.cs;have hne:wr.heap.size≠g:=by omega
    have hG1:=hG.keep ((Ai.refl wr).alloc (.cells f.cs 97));have Hfm:Hid (f ∈ L):=CU Hf.Ab;have Hmid:=Aa (U3 Hf.Ab);have HfA:Hid (uV (.slice (some ⟨g,0,none⟩) n c) f):=hG.away f Hfm.Ab;have HfN:Hid (0<f.ks.n→∀ ad,f.ks.A=some ad→w.heap.size≤ad.block):=hG.new f Hfm.Ab;have hfo:=hG1.ok f Hfm.Ab;rw [←Hmid.Ab] at hG1;have HG1:=Aa hG1;have Hfo1:=Aa hfo;have Hb5:=Aa b5;clear hG Aq9 hfo hG1 b5;have hrf':wr.rangeAt g (i * 11) f.cs.toList:=hrf;clear hrf;go_wp2_with (first
     |((with_reducible refine OP 18 ?_);refine Af rfl Bz (.tmp 17) rfl g (i * 11) rfl f.cs rfl hrf' ?_)
     |((with_reducible refine OS 5 ?_);refine DX Bz f.cs (EA _) ?_))
    generalize wr.alloc (.cells f.cs 97)=W at *;generalize wr.heap.size=g5 at *;obtain ⟨wo,rfl⟩:∃ wo:World,wo=wr:=⟨_,rfl⟩;go_loopg [6] i (fun gg s6 wx=>∃ (k:Nat) (x:Br),gg=k∧k≤i∧s6=.int .i64 k∧Kw w wx (.slice (some ⟨g,0,none⟩) n c) (mid L i k x)∧Bh wx g5 97 f.cs∧f.ok wx∧Hid (BM f.Ac (cons (L.take i)) i=BM f.Ac (cons (L.take i)) k));case atStart=>exact ⟨i,f,rfl,Xl,rfl,HG1.Ab,Hb5.Ab,Hfo1.Ab,rfl⟩
    case round=>
     clear HG1 Hb5 Hfo1 hrf' hgl;obtain ⟨k0,xx,hgj,hk,rfl,hG,b5,hfo,hP⟩:=hrel;have Lt:=Aa hgj;have nM:=Aa hfo;clear hgj hfo;have lW:Hid (i<L.length):=by rw [hLn.Ab];exact hlt
     cases k0 with
     |zero=>
      have hK:Hid (0=BM f.Ac (cons (L.take i)) i):=by show _=_;rw [hP.Ab];(try rfl)
      have TW:Hid (n=(mid L i 0 xx).length):=by show _=_;rw [YI lW Xl];exact hLn.symm
      have bE:wr.ownsRow w.heap.size 97 11 (.slice (some ⟨g,0,none⟩) n c) n ((mid L i 0 xx).flatMap AY.cells):=by have:=hG.own;rw [←TW.Ab] at this;exact this
      have HR1:Hid (cons ((mid L i (0) f).take (i+1))=BK ((cons l).take (i+1))):=by
       exact Zq2
      have HR2:Hid (cons ((mid L i (0) f).drop (i+1))=(cons l).drop (i+1)):=by
       exact Zt6
      have HR3:Hid ((mid L i (0) f).length=n):=by show _=_;rw [YI lW Xl];exact hLn.Ab
      clear hP;have d0:decide ((0:Int)<0)=false:=rfl;go_wp2_with fail;go_quiet (fail);go_wp2_with (first
       |((with_reducible refine OP 44 ?_);refine Ca (by first|rfl|go_simp) Bz (.tmp 5) (by rfl) g5 (by rfl) (b5.drewN _) rfl ?_)
       |((with_reducible refine OS 45 ?_);refine JA (α:=Br) rfl Bz (.tmp 45) (.tmp 44) rfl rfl (0) rfl (Ig bE (Ai.drewN (Ai.refl _) _)) Xl f f.cs rfl rfl (EA _) ?_;intro w9 Jv fD))
      rw [Nn Zb4] at Jv;have hG9:=(hG.keep (Ai.drewN (Ai.refl _) _)).set (k:=0) (f:=f) TW (by rw [Nn Zb4];exact Jv) fD ⟨nM.ks.mono (Ai.drewN (Ai.refl _) _),nM.ag⟩ HfA HfN.Ab;rw [Nn Zb4] at hG9;have HG9:=Aa hG9;clear hG9 Jv fD;go_wp2;go_roundg (n - (i+1));case rel=>exact ⟨i+1,mid L i (0) f,rfl,Xl,Xl,by go_num,HG9.Ab,HR3,HR1,HR2⟩
      case measure=>rw [Cs.Ab];omega
     |succ k=>
      obtain ⟨y,Hy⟩:∃ y,Hid (L[k]?=some y):=⟨L[k]'Zb4,by show _=_;exact Fp _⟩;have hMy:(mid L i (k+1) xx)[k]?=some y:=by rw [An5 Zb4];exact Hy.Ab
      have TW:Hid (n=(mid L i (k+1) xx).length):=by show _=_;rw [YI lW hk];exact hLn.symm
      have bE:wr.ownsRow w.heap.size 97 11 (.slice (some ⟨g,0,none⟩) n c) n ((mid L i (k+1) xx).flatMap AY.cells):=by have:=hG.own;rw [←TW.Ab] at this;exact this
      obtain ⟨hry0,hgl⟩:=Gy (α:=Br) bE hMy;have hry:wr.rangeAt g (k * 11) y.cs.toList:=hry0;have Tj:=b5.range;have h5l:=b5.lt;have Hym:Hid (y ∈ mid L i (k+1) xx):=CU hMy;have Hyo:Hid (y.ok wr):=hG.ok y Hym.Ab;clear hMy hry0;have hrange:=Ia y.ks.l f.ks.l;have hsw:=Gb y.ks.l f.ks.l;obtain ⟨r,HC⟩:∃ r,Hid (Dn y.ks.l f.ks.l=r):=⟨_,rfl⟩;have HLs:Hid (Er f.Ac y.Ac=(r==1)):=by
       show Fh f.ks.l y.ks.l=_;unfold Fh;rw [hsw,HC.Ab,Wy,Ua,Ua];omega
      rw [HC.Ab] at hrange;have fQ:Hid (BM f.Ac (cons (L.take i)) (k+1)=if (r==1)=true then BM f.Ac (cons (L.take i)) k else k+1):=by
       show _=_;rw [BM];have hg':(cons (L.take i))[k]?=some y.Ac:=Jd (by rw [Jk Xl];exact Hy.Ab);rw [hg'];simp only [Option.any_some,HLs.Ab]
      clear hsw HLs;have d1:decide (0<((k:Int)+1))=true:=by rw [Rb];omega
      have w1:IntKind.i64.wrap ((k:Int)+1 - 1)=(k:Int):=by rw [show (k:Int)+1 - 1=k by omega];exact IB _ Xl
      by_cases hr:0<r
      ·have hr1:r=1:=by omega
       have HPK:Hid (BM f.Ac (cons (L.take i)) i=BM f.Ac (cons (L.take i)) k):=by show _=_;rw [hP.Ab,fQ.Ab,hr1];(try rfl)
       have d2:decide (0<r)=true:=by simp;omega
       clear hP fQ hrange hr1;go_wp2_with fail;refine Am ?_;repeat (first
        |((with_reducible show wpQuiet _ _ _ _ (⟨some 27,_,_,_,_,_⟩::_) _);refine Ah rfl Bz (.tmp 26) rfl g (k * 11) rfl y.cs rfl hgl hry ?_;simp only [Act.put,LP])
        |((with_reducible show wpQuiet _ _ _ _ (⟨some 28,_,_,_,_,_⟩::_) _);refine Ah rfl Bz (.tmp 5) rfl g5 (0) rfl f.cs rfl h5l Tj ?_;simp only [Act.put,LP])
        |go_big_quiet_step (((go_at_call 108;exact AB (VU HC (Hyo.over _) (nM.over _))))))
       refine CS ?_;rintro _ ⟨u,rfl⟩;have hGu:=hG.keep u.Av;have o9:=Ig bE u.Av;have hryU:=CP hgl hry u.Av;have b5U:=b5.Av u.Av;have HfoU:Hid (f.ok u.wd):=nM.over u;clear hG bE hry b5 Hyo nM Tj h5l;have HyA:Hid (uV (.slice (some ⟨g,0,none⟩) n c) y):=hGu.away y Hym.Ab;have HyN:Hid (0<y.ks.n→∀ ad,y.ks.A=some ad→w.heap.size≤ad.block):=hGu.new y Hym.Ab;have HyoU:Hid (y.ok u.wd):=hGu.ok y Hym.Ab;go_wp2_with (first
        |((with_reducible refine OP 40 ?_);refine Af rfl Bz (.tmp 39) rfl g (k * 11) rfl y.cs rfl hryU ?_)
        |((with_reducible refine OS 41 ?_);refine JA (α:=Br) rfl Bz (.tmp 41) (.tmp 40) rfl rfl (k+1) rfl o9 Xl y y.cs rfl rfl (EA _) ?_;intro w9 Jv fD))
       rw [Nn Zb4] at Jv;have hG9:=hGu.set (k:=k+1) (f:=y) TW (by rw [Nn Zb4];exact Jv) fD HyoU HyA HyN.Ab;rw [Nn Zb4,U4 Hy Xl] at hG9;have b59:=b5U.grown fD (by simpa using hne);have Hfo9:Hid (f.ok w9):=⟨HfoU.ks.grown fD HfA.Ab,HfoU.ag⟩;have HG9:=Aa hG9;clear hG9 Jv fD hGu o9;go_wp2;go_roundg k;case rel=>exact ⟨k,y,rfl,Xl,by go_num,HG9.Ab,b59,Hfo9.Ab,HPK⟩
       case measure=>rw [Lt.Ab];omega
      ·have hK:Hid (k+1=BM f.Ac (cons (L.take i)) i):=by
        show _=_;rw [hP.Ab,fQ.Ab,Ak Za3]
       have d2:decide (0<r)=false:=by simp;omega
       have HR1:Hid (cons ((mid L i (k+1) f).take (i+1))=BK ((cons l).take (i+1))):=by
        exact Zq2
       have HR2:Hid (cons ((mid L i (k+1) f).drop (i+1))=(cons l).drop (i+1)):=by
        exact Zt6
       have HR3:Hid ((mid L i (k+1) f).length=n):=by show _=_;rw [YI lW Xl];exact hLn.Ab
       clear hP fQ hrange;go_wp2_with fail;refine Am ?_;repeat (first
        |((with_reducible show wpQuiet _ _ _ _ (⟨some 27,_,_,_,_,_⟩::_) _);refine Ah rfl Bz (.tmp 26) rfl g (k * 11) rfl y.cs rfl hgl hry ?_;simp only [Act.put,LP])
        |((with_reducible show wpQuiet _ _ _ _ (⟨some 28,_,_,_,_,_⟩::_) _);refine Ah rfl Bz (.tmp 5) rfl g5 (0) rfl f.cs rfl h5l Tj ?_;simp only [Act.put,LP])
        |go_big_quiet_step (((go_at_call 108;exact AB (VU HC (Hyo.over _) (nM.over _))))))
       refine CS ?_;rintro _ ⟨u,rfl⟩;have hGu:=hG.keep u.Av;have o9:=Ig bE u.Av;have b5U:=b5.Av u.Av;have HfoU:Hid (f.ok u.wd):=nM.over u;clear hG bE hry b5 Hyo nM Tj h5l;go_wp2_with (first
        |((with_reducible refine OP 44 ?_);refine Ca (by first|rfl|go_simp) Bz (.tmp 5) (by rfl) g5 (by rfl) b5U rfl ?_)
        |((with_reducible refine OS 45 ?_);refine JA (α:=Br) rfl Bz (.tmp 45) (.tmp 44) rfl rfl (k+1) rfl o9 Xl f f.cs rfl rfl (EA _) ?_;intro w9 Jv fD))
       rw [Nn Zb4] at Jv;have hG9:=(hGu).set (k:=k+1) (f:=f) TW (by rw [Nn Zb4];exact Jv) fD HfoU HfA HfN.Ab;rw [Nn Zb4] at hG9;have HG9:=Aa hG9;clear hG9 Jv fD;go_wp2;go_roundg (n - (i+1));case rel=>exact ⟨i+1,mid L i (k+1) f,rfl,Xl,Xl,by go_num,HG9.Ab,HR3,HR1,HR2⟩
       case measure=>rw [Cs.Ab];omega
   ·obtain rfl:i=n:=by omega
    have HR:Hid (cons L=BK (cons l)):=by
     show _=_;have h1:=hS.Ab;have h2:l.length=i:=hlen.Ab;rw [EU (by rw [hLn.Ab];exact Ci _),EU (by rw [AR];omega)] at h1;exact h1
    have HG:=Aa hG;clear hG hS hD;go_wp2;go_ret;exact ⟨_,L,rfl,HG.Ab,HR.Ab⟩
end Go.Proofs.YtijplolmkcdflaaGreat
namespace Go.Proofs.YtijplolmkcdflaaGreat
open Tryz
open Go.RowKit
attribute [local go_sem] Ll
theorem SH {w:World} {base base':Nat} {e:TypeId} {size n:Nat} {v:Value} {xs:List Value} (h:w.ownsRow base e size v n xs) (hb:base'≤base):w.ownsRow base' e size v n xs:=by
 exact Zu2
structure Kept (w0 w:World) (v:Value) (L:List Br):Prop where
 Av:Ai w0 w
 own:w.ownsRow w0.heap.size 97 11 v L.length (L.flatMap AY.cells)
 ok:∀ f ∈ L,f.ok w0
theorem Kept.keep {w0 w w':World} {v:Value} {L:List Br} (h:Kept w0 w v L) (hb:Ai w w'):Kept w0 w' v L:=⟨h.Av.trans hb,Ig h.own hb,h.ok⟩
theorem Kept.row {w0 w:World} {v:Value} {fs:List Br} (h:Kept w0 w v fs) (hn:fs.length≤5000):∃ x:Row Br,v=x.v∧x.ok w∧x.l=fs∧x.n=fs.length:=by
 have hcap:=lH h.own;have hr:∀ A c,v=.slice A fs.length c→Rd w 11 A fs.length (fs.flatMap AY.cells):=fun A c e=>by have:=h.own;rw [e] at this;exact Rd.BC this
 obtain ⟨A,c,rfl,hc⟩:=Ao h.own;exact ⟨⟨A,fs.length,c,fs⟩,rfl,⟨hr A c rfl,fun f hf=>AY.mono h.Av (h.ok f hf),hc,hcap A c rfl,by simp only [AY.bytes];omega⟩,rfl,rfl⟩
theorem FX (L:List Br):∀ u ∈ L.flatMap AY.cells,u.oneCell'=true:=fun u hu=>by
 obtain ⟨f,_,hf⟩:=List.mem_flatMap.1 hu;exact (Nb.1 (EA f)) u (by simpa [AY.cells] using hf)
def Ab6 (l:List Br) (w:World) (e:Ending) (w':World):Prop:=∃ v fs,e=.returned v∧Kept w w' v fs∧cons fs=BK (cons l)
theorem Zs4 {p:Prop} (h:p:=by
 clear hown Jv Lh KT Xa bI fD Xb bP xU;go_wp2;go_roundg (n - (k+1));case rel=>exact ⟨k+1,_,rfl,Xl,by go_num,HKN.Ab,HRn,HR⟩
 case measure=>rw [Cs.Ab];omega
):p:=h
theorem Zj6 {p:Prop} (h:p:=by
 go_wp2_with (first
  |((with_reducible refine OP 33 ?_);refine CL rfl (.tmp 29) (.tmp 32) _ rfl EI Wc ((Ai.refl _).alloc _) _ (0) ([]) rfl hown0 _ (j+1) _ ((L.take (j+1)).flatMap AY.cells) rfl (rdP.Av ((Ai.refl _).alloc _)) (FX _) Za4 Xl ?_;intro v7 w7 KT hB7 Xa Xb;have b57:=b5W.Av hB7)
  |((with_reducible refine OP 35 ?_);refine Ca (by first|rfl|go_simp) Bz (.tmp 5) (by rfl) g5 (by rfl) b57 rfl ?_)
  |((with_reducible refine OP 36 ?_);refine AP rfl EI (.tmp 35) rfl f.cs rfl rfl Xl ?_)
  |((with_reducible refine OP 37 ?_);refine CL rfl (.tmp 34) (.tmp 36) _ rfl EI Wc (hB7.alloc _) v7 (0+(j+1)) ([]++(L.take (j+1)).flatMap AY.cells) rfl (KT.alloc _) _ (1) _ (f.cs.toList) rfl (Ik _ _ _ 1 11 rfl) (fun u hu=>(Nb.1 (EA f)) u Zc2) Za4 Xl ?_;intro v8 w8 Lh hB8 bI bP)
  |((with_reducible refine OP 42 ?_);refine CL rfl (.tmp 38) (.tmp 41) _ rfl EI Wc hB8 v8 (0+(j+1)+1) (([]++(L.take (j+1)).flatMap AY.cells)++f.cs.toList) rfl Lh _ (k - (j+1)) _ ((L.drop (j+1)).flatMap AY.cells) rfl (rdQ.Av hB8) (FX _) Za4 Xl ?_;intro v9 w9 Jv hB9 fD xU))
 have hown:w9.ownsRow w.heap.size 97 11 v9 (L.take (j+1)++f::L.drop (j+1)).length ((L.take (j+1)++f::L.drop (j+1)).flatMap AY.cells):=by
  have h1:=SH Jv HwB.size;rw [HRn.Ab,EM,Df];have e1:0+(j+1)+1+(k - (j+1))=k+1:=by omega
  rw [e1,FC,Ef] at h1;exact h1
 have HKN:Hid (Kept w w9 v9 (L.take (j+1)++f::L.drop (j+1))):=⟨HwB.trans hB9,hown,Yx.Ab⟩;exact Zs4
):p:=h
theorem Zj8 {p:Prop} (h:p:=by
 skip;go_wp2_with (first
  |((with_reducible refine OP 33 ?_);refine CL rfl (.tmp 29) (.tmp 32) _ rfl EI Wc ((Ai.refl _).alloc _) _ (0) ([]) rfl hown0 _ (0) _ ((L.take (0)).flatMap AY.cells) rfl (rdP.Av ((Ai.refl _).alloc _)) (FX _) Za4 Xl ?_;intro v7 w7 KT hB7 Xa Xb;have b57:=b5W.Av hB7)
  |((with_reducible refine OP 35 ?_);refine Ca (by first|rfl|go_simp) Bz (.tmp 5) (by rfl) g5 (by rfl) b57 rfl ?_)
  |((with_reducible refine OP 36 ?_);refine AP rfl EI (.tmp 35) rfl f.cs rfl rfl Xl ?_)
  |((with_reducible refine OP 37 ?_);refine CL rfl (.tmp 34) (.tmp 36) _ rfl EI Wc (hB7.alloc _) v7 (0+(0)) ([]++(L.take (0)).flatMap AY.cells) rfl (KT.alloc _) _ (1) _ (f.cs.toList) rfl (Ik _ _ _ 1 11 rfl) (fun u hu=>(Nb.1 (EA f)) u Zc2) Za4 Xl ?_;intro v8 w8 Lh hB8 bI bP)
  |((with_reducible refine OP 42 ?_);refine CL rfl (.tmp 38) (.tmp 41) _ rfl EI Wc hB8 v8 (0+(0)+1) (([]++(L.take (0)).flatMap AY.cells)++f.cs.toList) rfl Lh _ (k) _ (L.flatMap AY.cells) rfl (rdQ.Av hB8) (FX _) Za4 Xl ?_;intro v9 w9 Jv hB9 fD xU))
 have hown:w9.ownsRow w.heap.size 97 11 v9 (L.take (0)++f::L.drop (0)).length ((L.take (0)++f::L.drop (0)).flatMap AY.cells):=by
  have h1:=SH Jv HwB.size;rw [HRn.Ab,EM,Df];have e1:0+(0)+1+k=k+1:=by omega
  rw [e1,FC,Ef] at h1;exact h1
 have HKN:Hid (Kept w w9 v9 (L.take (0)++f::L.drop (0))):=⟨HwB.trans hB9,hown,Yx.Ab⟩;exact Zs4
):p:=h
theorem Zu5 {p:Prop} (h:p:=by
 rcases Eb.1 ha with h|h
 ·exact hK1.ok a (Ud h)
 ·rcases FJ.1 h with rfl|h
  ·exact Hfw.Ab
  ·exact hK1.ok a (Tx h)
):p:=h
theorem gW (x:Row Br) (w:World) (hx:x.ok w) (hn:x.n≤5000):
 Calls prog 79 #[x.v] w (Ab6 x.l w):=by
 have hlen:Hid (x.l.length=x.n):=hx.len;have Hx:=Aa hx;clear hx;obtain ⟨A,n,c0,l⟩:=x;simp only [Row.v] at *;have hbs:∀ w:World,(Instr.buildSlice 54 0 #[]).run prog w=.ok (.slice (some ⟨w.heap.size,0,none⟩) 0 0) (w.alloc (.cells #[] 97)):=fun _=>by kernel_rfl
 have Hbs:=Aa hbs;clear hbs;go_enter func79,ntmps79;go_wp2;go_loopg [3,10] n (fun gg s3 i wr=>∃ (k:Nat) (L:List Br),gg=n - k∧k≤n∧i=.int .i64 k∧Kept w wr s3 L∧Hid (L.length=k)∧Hid (cons L=BK ((cons l).take k)));case atStart=>exact ⟨0,[],rfl,Xl,rfl,⟨Ai.refl _,⟨rfl,.inl ⟨rfl,rfl⟩⟩,uH⟩,rfl,rfl⟩
 case round=>
  obtain ⟨k,L,BR,hk,rfl,hK,hLn,hS⟩:=hrel;have Cs:=Aa BR;clear BR;by_cases hlt:k<n
  ·obtain ⟨b,o,f,rfl,hb,hf,hfo,_,hrf,_⟩:=(Hx.mono hK.Av).Z7 hlt;have Hf:=Aa hf;have Hfw:Hid (f.ok w):=Hx.all f (CU hf);clear hf hfo;obtain ⟨A3,c3,rfl,hc3⟩:=Ao hK.own;rw [hLn.Ab] at hc3;have hK1:=hK.keep ((Ai.refl wr).alloc (.cells f.cs 97));have b5:=Bh.new wr 97 f.cs;rw [hLn.Ab];rw [hLn.Ab] at hK1;clear hK;go_wp2_with (first
    |((with_reducible refine OP 13 ?_);refine Af rfl Bz (.tmp 12) rfl b (o+k * 11) rfl f.cs rfl hrf ?_)
    |((with_reducible refine OS 5 ?_);refine DX Bz f.cs (EA _) ?_))
   generalize wr.alloc (.cells f.cs 97)=W at *;generalize wr.heap.size=g5 at *;obtain ⟨wo,rfl⟩:∃ wo:World,wo=wr:=⟨_,rfl⟩;go_loopg [6] k (fun gg s6 wx=>∃ j:Nat,gg=j∧j≤k∧s6=.int .i64 j∧Ai W wx∧Hid (BM f.Ac (cons L) k=BM f.Ac (cons L) j));case atStart=>exact ⟨k,rfl,Xl,rfl,Ai.refl _,rfl⟩
   case round=>
    obtain ⟨j0,hgj,hj,rfl,hB,hP⟩:=hrel;have Lt:=Aa hgj;clear hgj;have hK2:=hK1.keep hB;have b5x:=b5.Av hB;cases j0 with
    |zero=>
     have hPos:Hid (0=BM f.Ac (cons L) k):=by show _=_;rw [hP.Ab];(try rfl)
     clear hP;have d0:decide ((0:Int)<0)=false:=rfl;go_wp2_with fail;go_quiet (fail);obtain ⟨Wc,hWc⟩:∃ Wc:World,Wc=wr.drewN nq:=⟨_,rfl⟩;have HBc:Hid (Ai W Wc):=by rw [hWc];exact hB.drewN _
     rw [←hWc];clear hWc;have HR:Hid (cons (L.take (0)++f::L.drop (0))=BK ((cons l).take (k+1))):=by
      show _=_;have h2:(cons l)[k]?=some f.Ac:=Jd Hf.Ab;have h3:(cons l).take (k+1)=(cons l).take k++[f.Ac]:=by rw [Ra,h2];(try rfl)
      rw [h3];refine Eq.trans ?_ (Qb _ _).symm;rw [←hS.Ab];unfold JF;rw [AR,hLn.Ab,←hPos.Ab,dB];have e1:cons (L.take (0))=(cons L).take (0):=PH _ _;have e2:cons (f::L.drop (0))=f.Ac::(cons L).drop (0):=by rw [←Me];(try rfl)
      rw [e1,e2]
     have HRn:Hid ((L.take (0)++f::L.drop (0)).length=k+1):=by show _=_;rw [Cn,En,FK,Ih,hLn.Ab];omega
     have Yx:Hid (∀ a ∈ L.take (0)++f::L.drop (0),a.ok w):=fun a ha=>by
      exact Zu5
     have hKW:=hK1.keep HBc.Ab;have b5W:=b5.Av HBc.Ab;have rd0:Rd (Wc) 11 A3 k (L.flatMap AY.cells):=by have:=hKW.own;rw [hLn.Ab] at this;exact Rd.BC this
     have rdP:Rd (Wc) 11 A3 (0) ((L.take (0)).flatMap AY.cells):=by have:=rd0.take (k:=0) Xl;rwa [show (0) * 11=(0) * AY.size Br from rfl,Xd] at this
     have rdQ:=rd0;have hown0:((Wc).alloc (.cells #[] 97)).ownsRow (Wc).heap.size 97 11 (.slice (some ⟨(Wc).heap.size,0,none⟩) 0 0) 0 []:=⟨rfl,.inr ⟨(Wc).heap.size,0,#[],rfl,Ci _,PW _ _,Ci _,Bj _,rfl,rfl⟩⟩;have HwB:Hid (Ai w (Wc)):=hKW.Av;clear hKW hS;have hbs:=Hbs.Ab;by_cases hcp:c3=0
     ·exact Zj8
     ·exact Zj8
    |succ j=>
     obtain ⟨y,Hy⟩:∃ y,Hid (L[j]?=some y):=⟨L[j]'(by have:=hLn.Ab;omega),by show _=_;exact Fp _⟩;obtain ⟨gA,rfl⟩:∃ gA,A3=some ⟨gA,0,none⟩:=by
      rcases hK2.own.2 with ⟨_,h0⟩|⟨g',cap,cur,hv,_⟩
      ·have:=hLn.Ab;omega
      ·injection hv with h1;exact ⟨g',h1⟩
     have Aq8:wr.ownsRow w.heap.size 97 11 (.slice (some ⟨gA,0,none⟩) k c3) k (L.flatMap AY.cells):=by have:=hK2.own;rw [hLn.Ab] at this;exact this
     obtain ⟨hry0,hgl⟩:=Gy (α:=Br) Aq8 Hy.Ab;have hry:wr.rangeAt gA (j * 11) y.cs.toList:=hry0;have Tj:=b5x.range;have h5l:=b5x.lt;have Hyo:Hid (y.ok wr):=⟨(hK2.ok y (CU Hy.Ab)).ks.mono hK2.Av,(hK2.ok y (CU Hy.Ab)).ag⟩;have HfoX:Hid (f.ok wr):=⟨Hfw.ks.mono hK2.Av,Hfw.ag⟩;have fQ:Hid (BM f.Ac (cons L) (j+1)=if Fh f.ks.l y.ks.l=true then BM f.Ac (cons L) j else j+1):=by
      show _=_;rw [BM,Jd Hy.Ab]
      rfl
     clear Aq8 hry0;have d1:decide (0<((j:Int)+1))=true:=by rw [Rb];omega
     have w1:IntKind.i64.wrap ((j:Int)+1 - 1)=(j:Int):=by rw [show (j:Int)+1 - 1=j by omega];exact IB _ Xl
     cases hL:Fh f.ks.l y.ks.l with
     |true=>
      have HL:=Aa hL;have HPK:Hid (BM f.Ac (cons L) k=BM f.Ac (cons L) j):=by show _=_;rw [hP.Ab,fQ.Ab,Al hL]
      clear hL hP fQ;go_wp2_with fail;refine Am ?_;repeat (first
       |((with_reducible show wpQuiet _ _ _ _ (⟨some 19,_,_,_,_,_⟩::_) _);refine Ah rfl Bz (.tmp 5) rfl g5 (0) rfl f.cs rfl h5l Tj ?_;simp only [Act.put,LP])
       |((with_reducible show wpQuiet _ _ _ _ (⟨some 24,_,_,_,_,_⟩::_) _);refine Ah rfl Bz (.tmp 23) rfl gA (j * 11) rfl y.cs rfl hgl hry ?_;simp only [Act.put,LP])
       |go_big_quiet_step (((go_at_call 39;exact AB (NW HL (HfoX.over _) (Hyo.over _))))))
      refine CS ?_;rintro _ ⟨u,rfl⟩;clear hry Tj h5l hgl;go_wp2;go_roundg j;case rel=>exact ⟨j,rfl,Xl,by go_num,hB.trans u.Av,HPK⟩
      case measure=>rw [Lt.Ab];omega
     |false=>
      have HL:=Aa hL;have hPos:Hid (j+1=BM f.Ac (cons L) k):=by show _=_;rw [hP.Ab,fQ.Ab,Ak (by rw [hL];simp)]
      clear hL hP fQ;go_wp2_with fail;refine Am ?_;repeat (first
       |((with_reducible show wpQuiet _ _ _ _ (⟨some 19,_,_,_,_,_⟩::_) _);refine Ah rfl Bz (.tmp 5) rfl g5 (0) rfl f.cs rfl h5l Tj ?_;simp only [Act.put,LP])
       |((with_reducible show wpQuiet _ _ _ _ (⟨some 24,_,_,_,_,_⟩::_) _);refine Ah rfl Bz (.tmp 23) rfl gA (j * 11) rfl y.cs rfl hgl hry ?_;simp only [Act.put,LP])
       |go_big_quiet_step (((go_at_call 39;exact AB (NW HL (HfoX.over _) (Hyo.over _))))))
      refine CS ?_;rintro _ ⟨u,rfl⟩;clear hry Tj h5l hgl hK2 b5x;have HBc:Hid (Ai W u.wd):=hB.trans u.Av;generalize u.wd=Wc at *;obtain ⟨A3,HA3⟩:∃ A3:Option Addr,Hid (some ⟨gA,0,none⟩=A3):=⟨_,rfl⟩;rw [HA3.Ab] at hK1 ⊢;have HR:Hid (cons (L.take (j+1)++f::L.drop (j+1))=BK ((cons l).take (k+1))):=by
       show _=_;have h2:(cons l)[k]?=some f.Ac:=Jd Hf.Ab;have h3:(cons l).take (k+1)=(cons l).take k++[f.Ac]:=by rw [Ra,h2];(try rfl)
       rw [h3];refine Eq.trans ?_ (Qb _ _).symm;rw [←hS.Ab];unfold JF;rw [AR,hLn.Ab,←hPos.Ab,dB];have e1:cons (L.take (j+1))=(cons L).take (j+1):=PH _ _;have e2:cons (f::L.drop (j+1))=f.Ac::(cons L).drop (j+1):=by rw [←Me];(try rfl)
       rw [e1,e2]
      have HRn:Hid ((L.take (j+1)++f::L.drop (j+1)).length=k+1):=by show _=_;rw [Cn,En,FK,Ih,hLn.Ab];omega
      have Yx:Hid (∀ a ∈ L.take (j+1)++f::L.drop (j+1),a.ok w):=fun a ha=>by
       exact Zu5
      have hKW:=hK1.keep HBc.Ab;have b5W:=b5.Av HBc.Ab;have rd0:Rd (Wc) 11 A3 k (L.flatMap AY.cells):=by have:=hKW.own;rw [hLn.Ab] at this;exact Rd.BC this
      have rdP:Rd (Wc) 11 A3 (j+1) ((L.take (j+1)).flatMap AY.cells):=by have:=rd0.take (k:=j+1) Xl;rwa [show (j+1) * 11=(j+1) * AY.size Br from rfl,Xd] at this
      have rdQ:=rd0.drop (k:=j+1) (cap:=c3) Xl hc3;rw [show (j+1) * 11=(j+1) * AY.size Br from rfl,jH] at rdQ;have hown0:((Wc).alloc (.cells #[] 97)).ownsRow (Wc).heap.size 97 11 (.slice (some ⟨(Wc).heap.size,0,none⟩) 0 0) 0 []:=⟨rfl,.inr ⟨(Wc).heap.size,0,#[],rfl,Ci _,PW _ _,Ci _,Bj _,rfl,rfl⟩⟩;have HwB:Hid (Ai w (Wc)):=hKW.Av;clear hKW rd0 hS;have hbs:=Hbs.Ab;by_cases hcp:c3=j+1
      ·rw [Al hcp] at rdQ;exact Zj6
      ·rw [Ak hcp] at rdQ;exact Zj6
  ·obtain rfl:k=n:=by omega
   have HR:Hid (cons L=BK (cons l)):=by
    show _=_;rw [hS.Ab,EU (by rw [AR];have h2:l.length=k:=hlen.Ab;omega)]
   have HK:=Aa hK;clear hK hS;go_wp2;go_ret;exact ⟨_,L,rfl,HK.Ab,HR.Ab⟩
end Go.Proofs.YtijplolmkcdflaaGreat
namespace Go.Proofs.YtijplolmkcdflaaGreat
open Tryz
open Go.RowKit Go.Shelf
attribute [local go_sem] Oper.semAt_some
def piece (b o m:Nat) (l:List Br) (k:Nat):Row Br:=⟨some ⟨b,o+k * m * 11,none⟩,min m (l.length - k * m),min m (l.length - k * m),(l.drop (k * m)).take m⟩
def upto {α:Type} (f:Nat→α) (k:Nat):List α:=(List.range k).map f
theorem Sr {α:Type} (f:Nat→α) (k:Nat):upto f (k+1)=upto f k++[f k]:=by simp [upto,List.range_succ]
theorem KJ {α:Type} (f:Nat→α) (k:Nat):(upto f k).length=k:=by simp [upto]
def LK (Bs Bn:Nat) (W W':World):Prop:=W'.cell? ⟨Bs,0,none⟩=W.cell? ⟨Bs,0,none⟩∧W'.cell? ⟨Bn,0,none⟩=W.cell? ⟨Bn,0,none⟩
theorem LK.trans {Bs Bn:Nat} {A B C:World} (h:LK Bs Bn A B) (k:LK Bs Bn B C):LK Bs Bn A C:=⟨k.1.trans h.1,k.2.trans h.2⟩
theorem XU (w:World) (n:Nat):w.grownBy (w.drewN n) none:=⟨rfl,rfl,rfl,Ci _,fun _ _ _=>rfl⟩
theorem Zr9 {p:Prop} (h:p:=by
 go_roundw;case rel=>exact ⟨k+1,.inr (by rw [show k+1 - 1=k by omega,HI.Ab];exact hlt),Xl,by rw [Him.Ab];go_num,hJ4,hnx2.trans hk3⟩
 case measure=>simp [intOf];omega
):p:=h
theorem Aa5 (n:Nat) (hn:1≤n) (lp Bs Bn b o c m:Nat) (l:List Br) (hm1:1≤m) (hm2:m≤9223372036854775807) (hl:l.length≤5000) (hc:l.length≤c) (hc2:c≤9223372036854775807) (Pd:Row Br→Prop) (hP:∀ k,Pd (piece b o m l k)) (J Jx:List {x:Row Br // Pd x}→World→Prop) (hJd:∀ s A B,J s A→A.grownBy B none→J s B)
 (hY:∀ pre (x:{x:Row Br // Pd x}) W,J pre W→pre.length<l.length→YieldAt Fence.wide (n - 1) prog lp #[x.1.v] W fun e W'=>
  (e=.returned (.bool true)∧J (pre++[x]) W'∧LK Bs Bn W W')∨(e=.returned (.bool false)∧Jx (pre++[x]) W'))
 (W:World) (hBs:W.cell? ⟨Bs,0,none⟩=some (.slice (some ⟨b,o,none⟩) l.length c)) (hBn:W.cell? ⟨Bn,0,none⟩=some (.int .i64 m)) (h0:J [] W):
 CallsIn Fence.wide n prog 198 #[.func (.yield lp) #[] #[],.pointer (some ⟨Bs,0,none⟩),.pointer (some ⟨Bn,0,none⟩)] W fun e W'=>(∃ v,e=.returned v)∧
  ((∃ k ys,l.length≤k * m∧(k=0∨(k - 1) * m<l.length)∧ys=upto (fun j=>(⟨piece b o m l j,hP j⟩:{x:Row Br // Pd x})) k∧J ys W')∨(∃ pre,Jx pre W')):=by
 have hlen:Hid (∃ n1,n1=l.length):=⟨_,rfl⟩;refine YU func198 rfl trivial ?_ rfl;simp only [ntmps198,Tv,En,Ot,Nat.reduceAdd,Nat.reduceSub,TB,TD,Tu,Tz,FC,KZ]
 gi_wp2
 gi_loopw [4] (fun i wr=>∃ k:Nat,(k=0∨(k - 1) * m<l.length)∧k≤l.length∧i=.int .i64 (k * m:Nat)∧J (upto (fun j=>(⟨piece b o m l j,hP j⟩:{x:Row Br // Pd x})) k) wr∧LK Bs Bn W wr)
  (fun i _=>l.length - (intOf i).toNat)
 case atStart=>exact ⟨0,.inl rfl,Bj _,uH,h0,⟨rfl,rfl⟩⟩
 case round=>
  obtain ⟨k,hk,hkl,rfl,hJs,hnx⟩:=hrel;have c1:=hnx.1.trans hBs;have c2:=hnx.2.trans hBn;generalize hi:k * m=i at *;by_cases hlt:i<l.length
  ·obtain ⟨e,he⟩:∃ e,e=min m (l.length - i):=⟨_,rfl⟩;have he1:1≤e:=by omega
   have he2:i+e≤l.length:=by omega
   have hi0:(0:Int)≤(i:Int):=by omega
   have hi1:(i:Int)≤(l.length:Int):=by omega
   have hmin:min (m:Int) ((l.length - i:Nat):Int)=(e:Int):=by omega
   have HE:=Aa he;have HI:=Aa hi;clear he hi
   gi_wp2_with fail
   gi_quiet (fail)
   have HX:Hid (piece b o m l k=⟨some ⟨b,o+i * 11,none⟩,e,e,(l.drop i).take m⟩):=by show _=_;unfold piece;rw [HI.Ab,←HE.Ab]
   have hJ2:J (upto (fun j=>(⟨piece b o m l j,hP j⟩:{x:Row Br // Pd x})) k) (wr.drewN nq):=hJd _ _ _ hJs (XU wr nq);have hnx2:LK Bs Bn W (wr.drewN nq):=hnx;have c12:(wr.drewN nq).cell? ⟨Bs,0,none⟩=some (.slice (some ⟨b,o,none⟩) l.length c):=c1;have c22:(wr.drewN nq).cell? ⟨Bn,0,none⟩=some (.int .i64 m):=c2;have hkl2:k<l.length:=by have h1:=HI.Ab;have:k≤k * m:=Nat.le_mul_of_pos_right _ hm1;omega
   generalize wr.drewN nq=V at *;obtain ⟨fn,tmps,assign,body,hy,hR⟩:=hY _ ⟨(⟨some ⟨b,o+i * 11,none⟩,e,e,(l.drop i).take m⟩:Row Br),by rw [←HX.Ab];exact hP k⟩ V hJ2 (by rw [KJ];exact hkl2);simp only [Row.v] at hy;clear c1 c2 hJs hnx hmin
   gi_wp2
   refine hR.mono ?_;rintro e' W3 (⟨rfl,hJ3,hk3⟩|⟨rfl,hJx3⟩)
   ·have c13:=hk3.1.trans c12;have c23:=hk3.2.trans c22;have him:i+m≤9223372036854775807:=by
     have h1:=HI.Ab;cases k with
     |zero=>simp at h1;omega
     |succ k=>have:m≤(k+1) * m:=Nat.le_mul_of_pos_left _ Xl;omega
    have Him:Hid ((k+1) * m=i+m):=by show _=_;rw [Ka,HI.Ab,MP]
    have hJ4:J (upto (fun j=>(⟨piece b o m l j,hP j⟩:{x:Row Br // Pd x})) (k+1)) W3:=by
     rw [Sr];have e1:(⟨piece b o m l k,hP k⟩:{x:Row Br // Pd x})=⟨(⟨some ⟨b,o+i * 11,none⟩,e,e,(l.drop i).take m⟩:Row Br),by rw [←HX.Ab];exact hP k⟩:=Subtype.ext HX.Ab;rw [e1];exact hJ3
    clear hJ3
    gi_wp2
    exact Zr9
   ·gi_wp2
    refine Bc (results_none rfl _ _ _) rfl ?_;exact ⟨⟨_,rfl⟩,.inr ⟨_,hJx3⟩⟩
  ·gi_wp2
   go_end0;exact ⟨⟨_,rfl⟩,.inl ⟨k,_,by rw [hi];omega,hk,rfl,hJs⟩⟩
theorem fH (n:Nat) (lp Bs Bn:Nat) {α:Type} (J:List α→World→Prop) (A:Option Addr) (c:Nat) (W:World) (hBs:W.cell? ⟨Bs,0,none⟩=some (.slice A 0 c)) (h0:J [] W):
 CallsIn Fence.wide n prog 198 #[.func (.yield lp) #[] #[],.pointer (some ⟨Bs,0,none⟩),.pointer (some ⟨Bn,0,none⟩)] W fun e W'=>(∃ v,e=.returned v)∧J [] W':=by
 refine YU func198 rfl trivial ?_ rfl;simp only [ntmps198,Tv,En,Ot,Nat.reduceAdd,Nat.reduceSub,TB,TD,Tu,Tz,FC,KZ]
 gi_wp2
 gi_loopw [4] (fun i wr=>i=.int .i64 0∧wr=W) (fun _ _=>0)
 case atStart=>exact ⟨rfl,rfl⟩
 case round=>
  obtain ⟨rfl,rfl⟩:=hrel
  gi_wp2
  go_end0;exact ⟨⟨_,rfl⟩,h0⟩
theorem tK (n:Nat) (A:Option Addr) (len c m:Nat) (hm:1≤m) (w:World):
 CallsIn Fence.wide n prog 181 #[.slice A len c,.int .i64 m] w fun e w'=>e=.returned (.func (.func 198) #[] #[.pointer (some ⟨w.heap.size,0,none⟩),.pointer (some ⟨w.heap.size+1,0,none⟩)])∧w'=(w.alloc (.cells #[.slice A len c] 54)).alloc (.cells #[.int .i64 m] 3):=by
 have d:decide ((m:Int)<1)=false:=by simp;omega
 refine YU func181 rfl trivial ?_ rfl;simp only [ntmps181,Tv,En,Ot,Nat.reduceAdd,Nat.reduceSub,TB,TD,Tu,Tz,FC,KZ]
 gi_wp2
 go_ret;exact ⟨rfl,rfl⟩
end Go.Proofs.YtijplolmkcdflaaGreat
namespace Go.Proofs.YtijplolmkcdflaaGreat
open Tryz
open Go.RowKit Go.Shelf
attribute [local go_sem] Oper.semAt_some
def KE (b o m:Nat) (l:List (Row Br)) (k:Nat):Row (Row Br):=⟨some ⟨b,o+k * m,none⟩,min m (l.length - k * m),min m (l.length - k * m),(l.drop (k * m)).take m⟩
theorem yP (n:Nat) (hn:1≤n) (lp Bs Bn b o c m:Nat) (l:List (Row Br)) (hm1:1≤m) (hm2:m≤9223372036854775807) (hl:l.length≤5000) (hc:l.length≤c) (hc2:c≤9223372036854775807) (Pd:Row (Row Br)→Prop) (hP:∀ k,Pd (KE b o m l k)) (J Jx:List {x:Row (Row Br) // Pd x}→World→Prop) (hJd:∀ s A B,J s A→A.grownBy B none→J s B)
 (hY:∀ pre (x:{x:Row (Row Br) // Pd x}) W,J pre W→pre.length<l.length→YieldAt Fence.wide (n - 1) prog lp #[x.1.v] W fun e W'=>
  (e=.returned (.bool true)∧J (pre++[x]) W'∧LK Bs Bn W W')∨(e=.returned (.bool false)∧Jx (pre++[x]) W'))
 (W:World) (hBs:W.cell? ⟨Bs,0,none⟩=some (.slice (some ⟨b,o,none⟩) l.length c)) (hBn:W.cell? ⟨Bn,0,none⟩=some (.int .i64 m)) (h0:J [] W):
 CallsIn Fence.wide n prog 182 #[.func (.yield lp) #[] #[],.pointer (some ⟨Bs,0,none⟩),.pointer (some ⟨Bn,0,none⟩)] W fun e W'=>(∃ v,e=.returned v)∧
  ((∃ k ys,l.length≤k * m∧(k=0∨(k - 1) * m<l.length)∧ys=upto (fun j=>(⟨KE b o m l j,hP j⟩:{x:Row (Row Br) // Pd x})) k∧J ys W')∨(∃ pre,Jx pre W')):=by
 have hlen:Hid (∃ n1,n1=l.length):=⟨_,rfl⟩;refine YU func182 rfl trivial ?_ rfl;simp only [ntmps182,Tv,En,Ot,Nat.reduceAdd,Nat.reduceSub,TB,TD,Tu,Tz,FC,KZ]
 gi_wp2
 gi_loopw [4] (fun i wr=>∃ k:Nat,(k=0∨(k - 1) * m<l.length)∧k≤l.length∧i=.int .i64 (k * m:Nat)∧J (upto (fun j=>(⟨KE b o m l j,hP j⟩:{x:Row (Row Br) // Pd x})) k) wr∧LK Bs Bn W wr)
  (fun i _=>l.length - (intOf i).toNat)
 case atStart=>exact ⟨0,.inl rfl,Bj _,uH,h0,⟨rfl,rfl⟩⟩
 case round=>
  obtain ⟨k,hk,hkl,rfl,hJs,hnx⟩:=hrel;have c1:=hnx.1.trans hBs;have c2:=hnx.2.trans hBn;generalize hi:k * m=i at *;by_cases hlt:i<l.length
  ·obtain ⟨e,he⟩:∃ e,e=min m (l.length - i):=⟨_,rfl⟩;have he1:1≤e:=by omega
   have he2:i+e≤l.length:=by omega
   have hi0:(0:Int)≤(i:Int):=by omega
   have hi1:(i:Int)≤(l.length:Int):=by omega
   have hmin:min (m:Int) ((l.length - i:Nat):Int)=(e:Int):=by omega
   have HE:=Aa he;have HI:=Aa hi;clear he hi
   gi_wp2_with fail
   gi_quiet (fail)
   have HX:Hid (KE b o m l k=⟨some ⟨b,o+i,none⟩,e,e,(l.drop i).take m⟩):=by show _=_;unfold KE;rw [HI.Ab,←HE.Ab]
   have hJ2:J (upto (fun j=>(⟨KE b o m l j,hP j⟩:{x:Row (Row Br) // Pd x})) k) (wr.drewN nq):=hJd _ _ _ hJs (XU wr nq);have hnx2:LK Bs Bn W (wr.drewN nq):=hnx;have c12:(wr.drewN nq).cell? ⟨Bs,0,none⟩=some (.slice (some ⟨b,o,none⟩) l.length c):=c1;have c22:(wr.drewN nq).cell? ⟨Bn,0,none⟩=some (.int .i64 m):=c2;have hkl2:k<l.length:=by have h1:=HI.Ab;have:k≤k * m:=Nat.le_mul_of_pos_right _ hm1;omega
   generalize wr.drewN nq=V at *;obtain ⟨fn,tmps,assign,body,hy,hR⟩:=hY _ ⟨(⟨some ⟨b,o+i,none⟩,e,e,(l.drop i).take m⟩:Row (Row Br)),by rw [←HX.Ab];exact hP k⟩ V hJ2 (by rw [KJ];exact hkl2);simp only [Row.v] at hy;clear c1 c2 hJs hnx hmin
   gi_wp2
   refine hR.mono ?_;rintro e' W3 (⟨rfl,hJ3,hk3⟩|⟨rfl,hJx3⟩)
   ·have c13:=hk3.1.trans c12;have c23:=hk3.2.trans c22;have him:i+m≤9223372036854775807:=by
     have h1:=HI.Ab;cases k with
     |zero=>simp at h1;omega
     |succ k=>have:m≤(k+1) * m:=Nat.le_mul_of_pos_left _ Xl;omega
    have Him:Hid ((k+1) * m=i+m):=by show _=_;rw [Ka,HI.Ab,MP]
    have hJ4:J (upto (fun j=>(⟨KE b o m l j,hP j⟩:{x:Row (Row Br) // Pd x})) (k+1)) W3:=by
     rw [Sr];have e1:(⟨KE b o m l k,hP k⟩:{x:Row (Row Br) // Pd x})=⟨(⟨some ⟨b,o+i,none⟩,e,e,(l.drop i).take m⟩:Row (Row Br)),by rw [←HX.Ab];exact hP k⟩:=Subtype.ext HX.Ab;rw [e1];exact hJ3
    clear hJ3
    gi_wp2
    exact Zr9
   ·gi_wp2
    refine Bc (results_none rfl _ _ _) rfl ?_;exact ⟨⟨_,rfl⟩,.inr ⟨_,hJx3⟩⟩
  ·gi_wp2
   go_end0;exact ⟨⟨_,rfl⟩,.inl ⟨k,_,by rw [hi];omega,hk,rfl,hJs⟩⟩
theorem Aa4 (n:Nat) (A:Option Addr) (len c m:Nat) (hm:1≤m) (w:World):
 CallsIn Fence.wide n prog 151 #[.slice A len c,.int .i64 m] w fun e w'=>e=.returned (.func (.func 182) #[] #[.pointer (some ⟨w.heap.size,0,none⟩),.pointer (some ⟨w.heap.size+1,0,none⟩)])∧w'=(w.alloc (.cells #[.slice A len c] 184)).alloc (.cells #[.int .i64 m] 3):=by
 have d:decide ((m:Int)<1)=false:=by simp;omega
 refine YU func151 rfl trivial ?_ rfl;simp only [ntmps151,Tv,En,Ot,Nat.reduceAdd,Nat.reduceSub,TB,TD,Tu,Tz,FC,KZ]
 gi_wp2
 go_ret;exact ⟨rfl,rfl⟩
end Go.Proofs.YtijplolmkcdflaaGreat
namespace Go.Proofs.YtijplolmkcdflaaGreat
open Tryz
open Go.RowKit Go.Shelf
attribute [local go_sem] Oper.semAt_some
theorem WW:(prog.info? 54).map (fun i=>(i.zero,i.size,i.bytes))=some (some (.slice none 0 0),1,24):=by kernel_rfl
theorem pY {w:World} {b o n c m:Nat} {l:List Br} (h:Row.ok w (⟨some ⟨b,o,none⟩,n,c,l⟩:Row Br)) (hn:n≤5000) (k:Nat):Row.ok w (piece b o m l k)∧(piece b o m l k).n≤5000:=by
 have hl:l.length=n:=h.len;have hlen:((l.drop (k * m)).take m).length=min m (l.length - k * m):=by rw [FK,Ih]
 refine ⟨⟨⟨?_,fun h0=>?_⟩,fun a ha=>h.all a (Tx (Ud ha)),Ci _,?_,?_⟩,?_⟩
 ·rw [Fu];exact CW (· * 11) hlen
 ·have h1:k * m<l.length:=by simp only [piece] at h0;omega
  obtain ⟨ad,e,hb,hc⟩:=h.rd.2 Ze0;injection e with e;subst e;refine ⟨_,rfl,hb,fun j u hu=>?_⟩;have hj:j<((l.drop (k * m)).take m).length * 11:=by
   rcases MX j (((l.drop (k * m)).take m).length * 11) with h'|h'
   ·exact h'
   ·rw [Jj (by rw [Fu];exact h')] at hu;cases hu
  have hq:(l.flatMap AY.cells)[k * m * 11+j]?=some u:=by
   rw [←hu];have e1:(piece b o m l k).l.flatMap AY.cells=((l.flatMap AY.cells).drop (k * m * 11)).take (m * 11):=by
    show ((l.drop (k * m)).take m).flatMap AY.cells=_;rw [show k * m * 11=k * m * AY.size Br from rfl,jH,show m * 11=m * AY.size Br from rfl,Xd]
   rw [e1,Jk (by rw [hlen] at hj;have:min m (l.length - k * m) * 11≤m * 11:=QF _ (Nat.min_le_left _ _);omega),NJ]
  have:=hc _ _ hq;rw [Ub] at this ⊢;rw [QZ];exact this
 ·simp only [piece];unfold maxLen;omega
 ·simp only [piece,AY.bytes];omega
 ·simp only [piece];omega
structure Ck (w w':World):Prop where
 size:w.heap.size≤w'.heap.size
 cell:∀ p v,w.cell? p=some v→w'.cell? p=some v
theorem Rd.ck {w w':World} {size n:Nat} {A:Option Addr} {xs:List Value} (h:Rd w size A n xs) (hk:Ck w w'):Rd w' size A n xs:=
 ⟨h.1,fun hn=>by obtain ⟨ad,e,hb,hc⟩:=h.2 hn;exact ⟨ad,e,KI hb hk.size,fun j u hu=>hk.cell _ _ (hc j u hu)⟩⟩
theorem An7 {w w':World} {x:Row Int} (h:x.ok w) (hk:Ck w w'):x.ok w':=⟨h.rd.ck hk,h.all,h.le,h.cap,h.reach⟩
theorem Aj1 {w w':World} {f:Br} (h:f.ok w) (hk:Ck w w'):f.ok w':=⟨An7 h.ks hk,h.ag⟩
theorem Ao2 {w w':World} {x:Row Br} (h:x.ok w) (hk:Ck w w'):x.ok w':=⟨h.rd.ck hk,fun f hf=>Aj1 (h.all f hf) hk,h.le,h.cap,h.reach⟩
structure Xn (row:Option Nat) (r:Row Br):Prop where
 a:0<r.n→∀ ad,r.A=some ad→row≠some ad.block
 k:∀ f ∈ r.l,0<f.ks.n→∀ ad,f.ks.A=some ad→row≠some ad.block
theorem Qp {w w':World} {row:Option Nat} {x:Row Br} (h:x.ok w) (hg:w.grownBy w' row) (ho:Xn row x):x.ok w':=by
 refine ⟨⟨h.rd.1,fun hn=>?_⟩,fun f hf=>⟨(h.all f hf).ks.grown hg (ho.k f hf),(h.all f hf).ag⟩,h.le,h.cap,h.reach⟩;obtain ⟨ad,e,hb,hc⟩:=h.rd.2 hn;refine ⟨ad,e,KI hb hg.size,fun j u hu=>?_⟩;rw [←hc j u hu];refine Vl ?_;rw [IV];exact hg.block _ hb (fun e'=>ho.a hn ad e e'.symm)
theorem An3 {w:World} {x:Row Br} (h:x.ok w):Xn (some w.heap.size) x:=by
 refine ⟨fun hn ad e e2=>?_,fun f hf hn ad e e2=>?_⟩
 ·obtain ⟨ad',e',hb,_⟩:=h.rd.2 hn;rw [e] at e';injection e' with e';subst e';injection e2 with e2;omega
 ·obtain ⟨ad',e',hb,_⟩:=(h.all f hf).ks.rd.2 hn;rw [e] at e';injection e' with e';subst e';injection e2 with e2;omega
theorem aL {w0 w:World} {v:Value} {fs:List Br} (h:Kw w0 w v fs) {x:Row Br} (hv:v=x.v) (hl:x.l=fs) {b:Nat} (hb:b<w0.heap.size):Xn (some b) x:=by
 refine ⟨fun hn ad e e2=>?_,fun f hf hn ad e e2=>?_⟩
 ·have h1:v.ownBlock=some ad.block:=by rw [hv];simp [Row.v,e,Value.ownBlock]
  have:=Jh h.own h1;injection e2 with e2;omega
 ·rw [hl] at hf;have:=h.new f hf hn ad e;injection e2 with e2;omega
structure Parts (w0 w:World) (B:Nat) (v:Value) (rs:List (Row Br)):Prop where
 box:Boxed w B 184 v
 own:w.ownsRow w0.heap.size 54 1 v rs.length (rs.map Row.v)
 ok:∀ r ∈ rs,r.ok w
 offV:∀ r ∈ rs,Xn v.ownBlock r
 offB:∀ r ∈ rs,Xn (some B) r
theorem Parts.kept {w0 w w':World} {B:Nat} {v:Value} {rs:List (Row Br)} (h:Parts w0 w B v rs) {row:Option Nat} (hg:w.grownBy w' row) (hr:∀ r,row=some r→∃ o:Obj,w.heap[r]?=some o∧o.isCells=false):Parts w0 w' B v rs:=by
 have hck:Ck w w':=⟨hg.size,fun p u hp=>cell_kept hp hg hr⟩;refine ⟨h.box.kept hg (fun e=>?_),h.own.kept hg ?_,fun r hr'=>Ao2 (h.ok r hr') hck,h.offV,h.offB⟩
 ·obtain ⟨o,ho,hc⟩:=hr B e.symm;have hb:=h.box;unfold Boxed at hb;rw [hb] at ho;injection ho with ho;subst ho;cases hc
 ·cases hu:v.ownBlock with
  |none=>exact .inl rfl
  |some k=>
   refine .inr fun e=>?_;obtain ⟨o,ho,hc⟩:=hr k e.symm;obtain ⟨cs,hcs⟩:=YH h.own hu;unfold Bh at hcs;rw [hcs] at ho;injection ho with ho;subst ho;cases hc
theorem Parts.keep {w0 w w':World} {B:Nat} {v:Value} {rs:List (Row Br)} (h:Parts w0 w B v rs) (hb:Ai w w'):Parts w0 w' B v rs:=
 h.kept (EL hb none) (fun _ e=>by cases e)
theorem NZ {w0 w:World} {v:Value} {fs:List Br} (h:Kw w0 w v fs) (hn:fs.length≤5000):∃ x:Row Br,v=x.v∧x.ok w∧x.l=fs∧x.n=fs.length:=by
 have hcap:=lH h.own;have hr:∀ A c,v=.slice A fs.length c→Rd w 11 A fs.length (fs.flatMap AY.cells):=fun A c e=>by have:=h.own;rw [e] at this;exact Rd.BC this
 obtain ⟨A,c,rfl,hc⟩:=Ao h.own;exact ⟨⟨A,fs.length,c,fs⟩,rfl,⟨hr A c rfl,h.ok,hc,hcap A c rfl,by simp only [AY.bytes];omega⟩,rfl,rfl⟩
theorem FT {F:Fence} {nF:Nat} {P:Program} {w w':World} {ops:Array Oper} {o:Oper} {a:Act} {K:Act→World→Prop} {Q:Exit→Act→World→Prop} {X:Prop} (hgd:o.guard=none) (s x:Operand) (t:TypeId)
 (ho:o.op=.call { callee:=.builtin .append,args:=#[s,x],argTypes:=#[t,t] }) (v y:Value) {v':Value} (hs:a.eval s=v) (hx:a.eval x=y) (hrun:(Builtin.append_ #[t,t] o.type #[v,y]).run P w=.ok v' w') (h:K (a.put o.dst v') w'):
 if Region.wanted o (yielded ops a.tmps)=true then Oper.wpIn F nF P o a w K Q else X:=by
 have hw:Region.wanted o (yielded ops a.tmps)=true:=by simp [Region.wanted,hgd]
 rw [Al hw];unfold Oper.wpIn;refine ⟨by simp [Oper.about,ho,resolve,Target.leads,LB],?_⟩;rw [Oper.semAt_plain F _ _ (by rw [ho];intro c hc';cases hc')];simp [execOp,ho,resolve,invoke,builtin,hs,hx,hrun,Result.andThen];exact h
theorem KU {w W0 W w2 w4:World} {B Bs Bn:Nat} {v v':Value} {rs:List (Row Br)} {fs:List Br} {yA:Option Addr} {yn yc:Nat} {yl:List Br} (hne1:Bs<W0.heap.size) (hne2:Bn<W0.heap.size) (hBB:B≠Bs∧B≠Bn∧B=w.heap.size∧B<W0.heap.size)
 (hP:Parts W0 W B v rs) (hW0:W0.heap.size≤W.heap.size) (hB:Ai w W) (Sa:Kw W.drew w2 (Row.v (⟨yA,yn,yc,yl⟩:Row Br)) fs) (TQ:Row.ok w2 (⟨yA,yn,yc,yl⟩:Row Br)) (hyl:(⟨yA,yn,yc,yl⟩:Row Br).l=fs)
 (hP3:Parts W0 (w2.alloc (.cells #[.slice yA yn yc] 54)) B v rs) (hown:w4.ownsRow W0.heap.size 54 1 v' (rs.length+1) (rs.map Row.v++[.slice yA yn yc])) (hg:(w2.alloc (.cells #[.slice yA yn yc] 54)).grownBy w4 v.ownBlock)
 (hat:v'.ownBlock=v.ownBlock∨v'.ownBlock=some (w2.alloc (.cells #[.slice yA yn yc] 54)).heap.size) (hbx:Boxed w4 B 184 v):
 KeepsFrom W0.heap.size W (w4.setCell ⟨B,0,none⟩ v')∧LK Bs Bn W (w4.setCell ⟨B,0,none⟩ v')∧Parts W0 (w4.setCell ⟨B,0,none⟩ v') B v' (rs++[⟨yA,yn,yc,yl⟩])∧Below w.heap.size w (w4.setCell ⟨B,0,none⟩ v')∧W0.heap.size≤(w4.setCell ⟨B,0,none⟩ v').heap.size:=by
 have hb2:Ai W w2:=(Ai.refl W).drew.trans Sa.Av;have hb3:Ai W (w2.alloc (.cells #[.slice yA yn yc] 54)):=hb2.alloc _;have hBlt:B<W.heap.size:=by omega
 have hs5:(w4.setCell ⟨B,0,none⟩ v').heap.size=w4.heap.size:=by simp [World.setCell]
 have hs3:=hb3.size;have hs4:=hg.size;have hset:w4.grownBy (w4.setCell ⟨B,0,none⟩ v') (some B):=grownBy_setCell' w4 B v';have hvB:∀ b',v.ownBlock=some b'→W0.heap.size≤b':=fun b' e=>Jh hP3.own e
 refine ⟨?_,?_,?_,?_,Xl⟩
 ·refine KeepsOthers.from ?_ _;have k1:KeepsOthers W (w2.alloc (.cells #[.slice yA yn yc] 54)):=⟨hs3,fun k o hk _=>(hb3.block k (Zj.1 hk).1).trans hk⟩;refine (k1.trans (KeepsOthers.of_grownBy hg fun j o ej hj=>?_)).trans (KeepsOthers.setCell _ _ _);obtain ⟨cs,hcs⟩:=YH hP3.own ej;unfold Bh at hcs;rw [hcs] at hj;injection hj with hj;subst hj
  rfl
 ·have key:∀ q,q<W0.heap.size→q≠B→(w4.setCell ⟨B,0,none⟩ v').cell? ⟨q,0,none⟩=W.cell? ⟨q,0,none⟩:=fun q hq hqB=>by
   refine Vl ?_;rw [hset.block q Xl (fun e=>by injection e with e;exact hqB e),hg.block q Xl (fun e=>by have:=hvB q e.symm;omega)];exact hb3.block q Xl
  exact ⟨key Bs hne1 (Ne.symm hBB.1),key Bn hne2 (Ne.symm hBB.2.1)⟩
 ·have hoy:Xn v.ownBlock (⟨yA,yn,yc,yl⟩:Row Br):=by
   cases hu:v.ownBlock with
   |none=>exact ⟨(fun _ _ _ e=>by cases e),(fun _ _ _ _ _ e=>by cases e)⟩
   |some k=>exact aL Sa rfl hyl (by have:=lG hP.own hu;exact this)
  have hoyB:Xn (some B) (⟨yA,yn,yc,yl⟩:Row Br):=aL Sa rfl hyl hBlt;have hy3:Row.ok (w2.alloc (.cells #[.slice yA yn yc] 54)) (⟨yA,yn,yc,yl⟩:Row Br):=TQ.mono ((Ai.refl w2).alloc _);have hall:∀ r ∈ rs++[(⟨yA,yn,yc,yl⟩:Row Br)],r.ok (w2.alloc (.cells #[.slice yA yn yc] 54))∧Xn v.ownBlock r∧Xn (some B) r:=fun r hr=>by
   rcases Eb.1 hr with h|h
   ·exact ⟨hP3.ok r h,hP3.offV r h,hP3.offB r h⟩
   ·rw [Ee] at h;subst h;exact ⟨hy3,hoy,hoyB⟩
  refine ⟨hbx.set v',?_,fun r hr=>?_,fun r hr=>?_,fun r hr=>(hall r hr).2.2⟩
  ·rw [Cn,Cf];exact hown.kept hset (.inr (hbx.not_row Za1 hown).symm)
  ·exact Qp (Qp (hall r hr).1 hg (hall r hr).2.1) hset (hall r hr).2.2
  ·rcases hat with e|e
   ·rw [e];exact (hall r hr).2.1
   ·rw [e];exact An3 (hall r hr).1
 ·exact (((hB.trans hb3).grown hg fun k e=>by have:=hvB k e;omega).grown hset fun k e=>by injection e with e;omega)
abbrev mY (w:World):={x:Row Br // x.ok w∧x.n≤5000}
def nJ (cs:List (List CZ)) (w:World) (e:Ending) (w':World):Prop:=
 ∃ (v:Value) (rs:List (Row Br)),e=.returned (.tuple #[v,.int .i64 0])∧w'.ownsRow w.heap.size 54 1 v rs.length (rs.map Row.v)∧(∀ r ∈ rs,r.ok w'∧r.n≤5000∧Xn v.ownBlock r)∧rs.map (fun r=>cons r.l)=cs∧Ai w w'
theorem Qm {W:World} {Bs Bn l:Nat} {o':Obj} (h1:Bs<l) (h2:Bn<l):LK Bs Bn W (W.putObj l o'):=by
 constructor
 ·refine Vl ?_;simp [World.putObj,Zk];omega
 ·refine Vl ?_;simp [World.putObj,Zk];omega
theorem Zt2 {p:Prop} (h:p:=by
 rintro e W' ⟨he,⟨k,ys,h1,h2,rfl,hj⟩|⟨pre,hj⟩⟩
 ·exact ⟨he,.inl ⟨_,⟨k,h1,h2,rfl⟩,hj⟩⟩
 ·exact ⟨he,.inr ⟨_,trivial,hj⟩⟩
):p:=h
theorem tJ (n:Nat) (hn:1≤n) (Bs Bn b o c ln m:Nat) (l:List Br) (w0 w:World) (hx:Row.ok w0 (⟨some ⟨b,o,none⟩,ln,c,l⟩:Row Br)) (bT:ln≤5000) (hm1:1≤m) (hm2:m≤9223372036854775807)
 (hs:Bs<w.heap.size) (hb:Bn<w.heap.size) (hBs:w.cell? ⟨Bs,0,none⟩=some (.slice (some ⟨b,o,none⟩) ln c)) (hBn:w.cell? ⟨Bn,0,none⟩=some (.int .i64 m)):
 SeqStopsK Fence.wide n prog 198 #[.pointer (some ⟨Bs,0,none⟩),.pointer (some ⟨Bn,0,none⟩)] (fun x:mY w0=>#[x.1.v]) (LK Bs Bn)
  (fun xs=>∃ k,l.length≤k * m∧(k=0∨(k - 1) * m<l.length)∧xs=upto (fun j=>(⟨piece b o m l j,pY hx bT j⟩:mY w0)) k) (fun _=>True) l.length w:=fun lp J Jx W hW hJ _ hY h0=>by
 have hl:l.length=ln:=hx.len;have hc:=hx.le;have hc2:=hx.cap;unfold maxLen at hc2;subst hl;refine (Aa5 n hn lp Bs Bn b o c m l hm1 hm2 bT hc hc2 (fun x=>x.ok w0∧x.n≤5000) (pY hx bT) J Jx (fun s A B hA hg=>hJ s A B none hA hg (fun r e=>by cases e)) hY W ((hW.cell (p:=⟨Bs,0,none⟩) hs).trans hBs) ((hW.cell (p:=⟨Bn,0,none⟩) hb).trans hBn) h0).mono ?_;exact Zt2
theorem nT {α β:Type} (g:α→β) (f:Nat→α) (k:Nat):(upto f k).map g=upto (fun j=>g (f j)) k:=by
 simp [upto,Ri,jZ]
theorem Zf9 {p:Prop} (h:p:=by
 refine AllReadyIn.cons rfl (fun K hK=>?_) AllReadyIn.nil;go_simp;refine hK _ _ ?_;clear hK K;refine wpAnyIn_ready (rs:=[4]) Za0 uH ?_;refine AllReadyIn.cons rfl (fun K hK=>?_) AllReadyIn.nil;refine FT rfl (.tmp 14) (.tmp 17) _ rfl _ _ rfl rfl Xp.Ab ?_;refine hK _ _ ?_;clear hK K;refine wpAnyIn_ready (rs:=[5]) Za0 uH ?_;refine AllReadyIn.cons rfl (fun K hK=>?_) AllReadyIn.nil;go_simp;refine hK _ _ ?_;clear hK K;refine wpAnyIn_done Za0 ?_ _;obtain ⟨k1,k2,k3,k4,k5⟩:=KU hne1 hne2 Xl hP hW0 (show Ai w W from hB) Sa TQ hyl hP3 Li hg4 Xc MU;refine ⟨k1,k2,⟨_,rs++[⟨yA,yn,yc,yl⟩],k3,?_,?_⟩,k4,k5⟩
 ·show _=_;rw [Cf,Cf,hcon.Ab];have e1:cons yl=cons xl:=by have h1:yl=fs:=hyl;rw [h1];exact Gm
  simp only [Em,EX,e1]
 ·intro r hr;rcases Eb.1 hr with h|h
  ·exact hrn r h
  ·rw [Ee] at h;subst h;have h1:=CW List.length Gm;rw [AR,AR] at h1;have h2:=Hxo.len;simp only at h1 h2 rC hyn ⊢;omega
):p:=h
theorem Zf0 {p:Prop} (h:p:=by have:=Sa.Av.size;simp at this ⊢;omega):p:=h
theorem Zf1 {p:Prop} (h:p:=by unfold maxLen;rw [Hlen.Ab];omega):p:=h
theorem Zw2 {p:Prop} (h:p:=by have h1:=CW List.length Gm;rw [AR,AR] at h1;have h2:=Hxo.len;simp only at h1 h2 rC;omega):p:=h
theorem Zf5 {p:Prop} (h:p:=by rw [Hlen.Ab];omega):p:=h
theorem Zk2 {p:Prop} (h:p:=by go_simp;refine hK _ _ ?_;clear hK K;refine wpAnyIn_ready (rs:=[2]) Za0 uH ?_;refine AllReadyIn.cons rfl (fun K hK=>?_) AllReadyIn.nil;go_simp;refine ⟨trivial,?_⟩;refine (CallsIn.inRound lp (OW.2 (KV ⟨xA,xn,xc,xl⟩ _ Hxo (by simp only at rC ⊢;omega)))).mono ?_;rintro e w2 ⟨cv,fs,rfl,Sa,Gm⟩;obtain ⟨⟨yA,yn,yc,yl⟩,rfl,TQ,hyl,hyn⟩:=NZ Sa Zw2;have hP2:=hPd.keep Sa.Av;have hP3:=hP2.keep ((Ai.refl w2).alloc (.cells #[.slice yA yn yc] 54));have hc2:=hP2.box.cell;have hc3:=hP3.box.cell;obtain ⟨v',w4,hrun,Li,hg4,Xc⟩:=Gj (P:=prog) (w2.alloc (.cells #[.slice yA yn yc] 54)) W0.heap.size 184 184 54 i0 (.slice none 0 0) 1 24 underlying184 Hi0 Hz0 Hz1 Hz2 rfl Za1 v rs.length (rs.map Row.v) hP3.own _ (some ⟨w2.heap.size,0,none⟩) 1 1 [.slice yA yn yc] (Ik w2 _ _ 1 1 rfl) Za2 Zf1 Zf5 Zf0;obtain ⟨g',cap',rfl⟩:=ownsRow_succ Li;have MU:=hP3.box.kept hg4 (hP3.box.not_row Za1 hP3.own);have hc4:=MU.cell;have hf4:=MU.frozen;have Xp:=Aa hrun;clear hrun;simp only [Row.v];refine hK _ _ ?_;clear hK K;refine wpAnyIn_ready (rs:=[3]) Za0 uH ?_;exact Zf9):p:=h
theorem Zr2 {p:Prop} (h:p:=by
 have hq:=ownsRow_putObj hP.own (.deferred none) hK rfl;refine ⟨hq.1,?_⟩;rcases hq.2 with h0|⟨g,cap,cur,q1,q2,q3⟩
 ·exact .inl h0
 ·exact .inr ⟨g,cap,cur,q1,IA hB0.size q2,q3⟩
):p:=h
theorem Zr8 {p:Prop} (h:p:=by have hP':=hP.kept (grownBy_putObj' W D (.deferred none)) (fun r e=>by injection e with e;subst e;exact ⟨_,hK,rfl⟩);exact fun r hr=>⟨hP'.ok r hr,hrn r hr,hP'.offV r hr⟩):p:=h
theorem At9 (n:Nat) (hn:3≤n) (b o ln c m:Nat) (l:List Br) (w:World) (hx:Row.ok w (⟨some ⟨b,o,none⟩,ln,c,l⟩:Row Br)) (bT:ln≤5000) (hm1:1≤m) (hm2:m≤9223372036854775807):
 CallsIn Fence.wide n prog 149 #[.int .i64 m,.slice (some ⟨b,o,none⟩) ln c] w fun e w'=>∃ k,l.length≤k * m∧(k=0∨(k - 1) * m<l.length)∧nJ (upto (fun j=>cons ((l.drop (j * m)).take m)) k) w e w':=by
 have h1:1≤n:=by omega
 have hl:l.length=ln:=hx.len;have d:decide ((m:Int)<1)=false:=by simp;omega
 have Hx:=Aa hx;have Hl:=Aa hl;clear hx hl;refine callsIn_of_wp_marks func149 rfl trivial ?_ rfl;simp only [ntmps149,Tv,En,Ot,Nat.reduceAdd,Nat.reduceSub,TB,TD,Tu,Tz,FC,KZ]
 gi_wp2_with fail
 refine ⟨trivial,?_⟩;refine (tK (n - 1) _ _ _ m hm1 _).mono ?_;rintro e w' ⟨rfl,rfl⟩
 gi_wp2
 have bO:=((Boxed.new w 184 (.slice none 0 0)).alloc (.cells #[.slice (some ⟨b,o,none⟩) ln c] 54)).alloc (.cells #[.int .i64 m] 3);have bS:=(Boxed.new (w.alloc (.cells #[.slice none 0 0] 184)) 54 (.slice (some ⟨b,o,none⟩) ln c)).alloc (.cells #[.int .i64 m] 3);have bN:=Boxed.new ((w.alloc (.cells #[.slice none 0 0] 184)).alloc (.cells #[.slice (some ⟨b,o,none⟩) ln c] 54)) 3 (.int .i64 m);rw [Gf,Gf] at bN;rw [Gf] at bS;have hB0:Ai w (((w.alloc (.cells #[.slice none 0 0] 184)).alloc (.cells #[.slice (some ⟨b,o,none⟩) ln c] 54)).alloc (.cells #[.int .i64 m] 3)):=(((Ai.refl w).alloc _).alloc _).alloc _;have hsz:(((w.alloc (.cells #[.slice none 0 0] 184)).alloc (.cells #[.slice (some ⟨b,o,none⟩) ln c] 54)).alloc (.cells #[.int .i64 m] 3)).heap.size=w.heap.size+3:=by simp
 generalize ((w.alloc (.cells #[.slice none 0 0] 184)).alloc (.cells #[.slice (some ⟨b,o,none⟩) ln c] 54)).alloc (.cells #[.int .i64 m] 3)=W0 at *;have HsO:=Aa bO;obtain ⟨i0,hi0,hz0,hz1,hz2⟩:=info_parts WW;have Hi0:=Aa hi0;have Hz0:=Aa hz0;have Hz1:=Aa hz1;have Hz2:=Aa hz2;clear hi0 hz0 hz1 hz2;have P0:Parts W0 W0 w.heap.size (.slice none 0 0) []:=⟨bO,⟨rfl,.inl ⟨rfl,rfl⟩⟩,uH,uH,uH⟩;have hne1:w.heap.size+1<W0.heap.size:=by omega
 have hne2:w.heap.size+1+1<W0.heap.size:=by omega
 have Hsz:=Aa hsz;clear hsz bO;refine wpIn_rangeFunc_ownG rfl h1 (gf:=198) (lb:=#[.pointer (some ⟨w.heap.size+1,0,none⟩),.pointer (some ⟨w.heap.size+1+1,0,none⟩)]) rfl trivial (enters_of func198 Za0 rfl)
  (tJ (n - 1) Xl (w.heap.size+1) (w.heap.size+1+1) b o c ln m l w W0 Hx bT hm1 hm2 hne1 hne2 bS.cell bN.cell) LK.trans (fun W l o o' hl _ _ _=>Qm Xl Xl) (Below.refl _ _) (fun _=>rfl)
  (fun pre W=>(∃ v rs,Parts W0 W w.heap.size v rs∧Hid (rs.map (fun r=>cons r.l)=pre.map (fun x=>cons x.1.l))∧Hid (∀ r ∈ rs,r.n≤5000))∧Below w.heap.size w W∧W0.heap.size≤W.heap.size)
  (fun _ _ _=>False)
  (fun s A B row hs hg hr=>by
   obtain ⟨⟨v,rs,h1,h2,h3⟩,h4,h5⟩:=hs;exact ⟨⟨v,rs,h1.kept hg (fun r e=>(hr r e).2),h2,h3⟩,h4.grown hg h4.size (fun k e=>IA Xl (hr k e).1),IA h5 hg.size⟩)
  (fun _ _ _ _ _ hs _ _=>hs)
  ⟨⟨_,[],P0,rfl,fun r h=>by simp at h⟩,hB0,Ci _⟩
  (fun x=>{ tmps:=#[.int .i64 m,.slice (some ⟨b,o,none⟩) ln c,undef,undef,.slice none 0 0,.int .i64 0,.pointer (some ⟨w.heap.size,0,none⟩),x.1.v,.int .i64 m,.bool false,.slice (some ⟨b,o,none⟩) ln c,.int .i64 m,.func (.func 198) #[] #[.pointer (some ⟨w.heap.size+1,0,none⟩),.pointer (some ⟨w.heap.size+1+1,0,none⟩)],x.1.v,undef,undef,undef,undef,undef,undef],defers:=[] }) ?assign ?body ?done ?stop
 case assign=>
  intro l x W K hK
  gi_wp2
  exact hK
 case body=>
  rintro lp pre x W ⟨⟨v,rs,hP,hcon,hrn⟩,hB,hW0⟩ hlt;obtain ⟨⟨xA,xn,xc,xl⟩,hxo,rC⟩:=x;simp only [Row.v] at *;have hd:1≤n - 1 - 1:=by omega
  have hmx:prog.follows .mixedOrders=true:=by kernel_rfl
  have hc:=hP.box.cell;have hBw:Ai w W.drew:=(show Ai w W from hB).drew;have Hxo:Hid (Row.ok W.drew (⟨xA,xn,xc,xl⟩:Row Br)):=hxo.mono hBw;have hlen:rs.length=pre.length:=by have:=CW List.length hcon.Ab;simpa using this
  have hpl:pre.length≤5000:=by have:=Hl.Ab;omega
  have Hlen:=Aa hlen;clear hlen;have hPd:Parts W0 W.drew w.heap.size v rs:=hP.keep (Ai.refl W).drew
  gi_wp2
  refine wpIn_region_any Za0 ?_;refine wpAnyIn_ready (rs:=[0,1]) Za0 uH ?_;refine AllReadyIn.cons rfl (fun K hK=>?_) (AllReadyIn.cons rfl (fun K hK=>?_) AllReadyIn.nil)
  ·go_simp;refine hK _ _ ?_;clear hK K;refine wpAnyIn_ready (rs:=[1]) Za0 uH ?_;refine AllReadyIn.cons rfl (fun K hK=>?_) AllReadyIn.nil;exact Zk2
  ·go_simp;refine hK _ _ ?_;clear hK K;refine wpAnyIn_ready (rs:=[0,2]) Za0 uH ?_;refine AllReadyIn.cons rfl (fun K hK=>?_) (AllReadyIn.cons rfl (fun K hK=>?_) AllReadyIn.nil)
   ·exact Zk2
   ·skip;go_simp;refine ⟨trivial,?_⟩;refine (CallsIn.inRound lp (OW.2 (KV ⟨xA,xn,xc,xl⟩ _ Hxo (by simp only at rC ⊢;omega)))).mono ?_;rintro e w2 ⟨cv,fs,rfl,Sa,Gm⟩;obtain ⟨⟨yA,yn,yc,yl⟩,rfl,TQ,hyl,hyn⟩:=NZ Sa Zw2;have hP2:=hPd.keep Sa.Av;have hP3:=hP2.keep ((Ai.refl w2).alloc (.cells #[.slice yA yn yc] 54));have hc2:=hP2.box.cell;have hc3:=hP3.box.cell;obtain ⟨v',w4,hrun,Li,hg4,Xc⟩:=Gj (P:=prog) (w2.alloc (.cells #[.slice yA yn yc] 54)) W0.heap.size 184 184 54 i0 (.slice none 0 0) 1 24 underlying184 Hi0 Hz0 Hz1 Hz2 rfl Za1 v rs.length (rs.map Row.v) hP3.own _ (some ⟨w2.heap.size,0,none⟩) 1 1 [.slice yA yn yc] (Ik w2 _ _ 1 1 rfl) Za2 Zf1 Zf5 Zf0;obtain ⟨g',cap',rfl⟩:=ownsRow_succ Li;have MU:=hP3.box.kept hg4 (hP3.box.not_row Za1 hP3.own);have hc4:=MU.cell;have hf4:=MU.frozen;have Xp:=Aa hrun;clear hrun;simp only [Row.v];refine hK _ _ ?_;clear hK K;refine wpAnyIn_ready (rs:=[0,3]) Za0 uH ?_;refine AllReadyIn.cons rfl (fun K hK=>?_) (AllReadyIn.cons rfl (fun K hK=>?_) AllReadyIn.nil)
    ·go_simp;refine hK _ _ ?_;clear hK K;refine wpAnyIn_ready (rs:=[3]) Za0 uH ?_;exact Zf9
    ·go_simp;refine hK _ _ ?_;clear hK K;refine wpAnyIn_ready (rs:=[0]) Za0 uH ?_;exact Zf9
 case done=>
  rintro D ys W hD ⟨k,hk1,hk2,rfl⟩ ⟨⟨v,rs,hP,hcon,hrn⟩,hB,hW0⟩ hK;have hc:=hP.box.cell
  gi_wp2
  refine ⟨uH,.inl ⟨_,_,rfl,run_takeDeferred hK,?_⟩⟩;refine ⟨.tuple #[v,.int .i64 0],?_,k,hk1,hk2,v,rs,rfl,?_,?_,?_,?_⟩
  ·kernel_rfl
  ·exact Zr2
  ·exact Zr8
  ·rw [hcon.Ab,nT];(try rfl)
  ·exact Below.trans hB (belowK_b (w:=w) (Ci _) W D _ _ (show w.heap.size≤D by omega) hK rfl rfl)
 case stop=>
  rintro D c pre W _ _ h _;exact h.elim
end Go.Proofs.YtijplolmkcdflaaGreat
namespace Go.Proofs.YtijplolmkcdflaaGreat
open Tryz
open Go.RowKit Go.Shelf
attribute [local go_sem] Oper.semAt_some
theorem Yr (n Bs Bn:Nat) (A:Option Addr) (c:Nat) (w0 w:World) (hs:Bs<w.heap.size) (hBs:w.cell? ⟨Bs,0,none⟩=some (.slice A 0 c)):
 SeqStopsK Fence.wide n prog 198 #[.pointer (some ⟨Bs,0,none⟩),.pointer (some ⟨Bn,0,none⟩)] (fun x:mY w0=>#[x.1.v]) (LK Bs Bn)
  (fun xs=>xs=[]) (fun _=>True) 0 w:=fun lp J Jx W hW hJ _ hY h0=>by
 refine (fH n lp Bs Bn J A c W ((hW.cell (p:=⟨Bs,0,none⟩) hs).trans hBs) h0).mono ?_;rintro e W' ⟨he,hj⟩;exact ⟨he,.inl ⟨_,rfl,hj⟩⟩
theorem yK (n:Nat) (hn:3≤n) (A:Option Addr) (c m:Nat) (w:World) (hm1:1≤m):
 CallsIn Fence.wide n prog 149 #[.int .i64 m,.slice A 0 c] w fun e w'=>nJ [] w e w':=by
 have h1:1≤n:=by omega
 have d:decide ((m:Int)<1)=false:=by simp;omega
 refine callsIn_of_wp_marks func149 rfl trivial ?_ rfl;simp only [ntmps149,Tv,En,Ot,Nat.reduceAdd,Nat.reduceSub,TB,TD,Tu,Tz,FC,KZ]
 gi_wp2_with fail
 refine ⟨trivial,?_⟩;refine (tK (n - 1) _ _ _ m hm1 _).mono ?_;rintro e w' ⟨rfl,rfl⟩
 gi_wp2
 have bO:=((Boxed.new w 184 (.slice none 0 0)).alloc (.cells #[.slice A 0 c] 54)).alloc (.cells #[.int .i64 m] 3);have bS:=(Boxed.new (w.alloc (.cells #[.slice none 0 0] 184)) 54 (.slice A 0 c)).alloc (.cells #[.int .i64 m] 3);have bN:=Boxed.new ((w.alloc (.cells #[.slice none 0 0] 184)).alloc (.cells #[.slice A 0 c] 54)) 3 (.int .i64 m);rw [Gf,Gf] at bN;rw [Gf] at bS;have hB0:Ai w (((w.alloc (.cells #[.slice none 0 0] 184)).alloc (.cells #[.slice A 0 c] 54)).alloc (.cells #[.int .i64 m] 3)):=(((Ai.refl w).alloc _).alloc _).alloc _;have hsz:(((w.alloc (.cells #[.slice none 0 0] 184)).alloc (.cells #[.slice A 0 c] 54)).alloc (.cells #[.int .i64 m] 3)).heap.size=w.heap.size+3:=by simp
 generalize ((w.alloc (.cells #[.slice none 0 0] 184)).alloc (.cells #[.slice A 0 c] 54)).alloc (.cells #[.int .i64 m] 3)=W0 at *;have HsO:=Aa bO;obtain ⟨i0,hi0,hz0,hz1,hz2⟩:=info_parts WW;have Hi0:=Aa hi0;have Hz0:=Aa hz0;have Hz1:=Aa hz1;have Hz2:=Aa hz2;clear hi0 hz0 hz1 hz2;have P0:Parts W0 W0 w.heap.size (.slice none 0 0) []:=⟨bO,⟨rfl,.inl ⟨rfl,rfl⟩⟩,uH,uH,uH⟩;have hne1:w.heap.size+1<W0.heap.size:=by omega
 have hne2:w.heap.size+1+1<W0.heap.size:=by omega
 have Hsz:=Aa hsz;clear hsz bO;refine wpIn_rangeFunc_ownG rfl h1 (gf:=198) (lb:=#[.pointer (some ⟨w.heap.size+1,0,none⟩),.pointer (some ⟨w.heap.size+1+1,0,none⟩)]) rfl trivial (enters_of func198 Za0 rfl)
  (Yr (n - 1) (w.heap.size+1) (w.heap.size+1+1) A c w W0 hne1 bS.cell) LK.trans (fun W l o o' hl _ _ _=>Qm Xl Xl) (Below.refl _ _) (fun _=>rfl)
  (fun pre W=>(∃ v rs,Parts W0 W w.heap.size v rs∧Hid (rs.map (fun r=>cons r.l)=pre.map (fun x=>cons x.1.l))∧Hid (∀ r ∈ rs,r.n≤5000))∧Below w.heap.size w W∧W0.heap.size≤W.heap.size)
  (fun _ _ _=>False)
  (fun s A B row hs hg hr=>by
   obtain ⟨⟨v,rs,h1,h2,h3⟩,h4,h5⟩:=hs;exact ⟨⟨v,rs,h1.kept hg (fun r e=>(hr r e).2),h2,h3⟩,h4.grown hg h4.size (fun k e=>IA Xl (hr k e).1),IA h5 hg.size⟩)
  (fun _ _ _ _ _ hs _ _=>hs)
  ⟨⟨_,[],P0,rfl,fun r h=>by simp at h⟩,hB0,Ci _⟩
  (fun x=>{ tmps:=#[.int .i64 m,.slice A 0 c,undef,undef,.slice none 0 0,.int .i64 0,.pointer (some ⟨w.heap.size,0,none⟩),x.1.v,.int .i64 m,.bool false,.slice A 0 c,.int .i64 m,.func (.func 198) #[] #[.pointer (some ⟨w.heap.size+1,0,none⟩),.pointer (some ⟨w.heap.size+1+1,0,none⟩)],x.1.v,undef,undef,undef,undef,undef,undef],defers:=[] }) ?assign ?body ?done ?stop
 case assign=>
  intro l x W K hK
  gi_wp2
  exact hK
 case body=>
  rintro lp pre x W _ hlt;exact absurd hlt (Nat.not_lt_zero _)
 case done=>
  rintro D ys W hD rfl ⟨⟨v,rs,hP,hcon,hrn⟩,hB,hW0⟩ hK;have hc:=hP.box.cell
  gi_wp2
  refine ⟨uH,.inl ⟨_,_,rfl,run_takeDeferred hK,?_⟩⟩;refine ⟨.tuple #[v,.int .i64 0],?_,v,rs,rfl,?_,?_,?_,?_⟩
  ·kernel_rfl
  ·exact Zr2
  ·exact Zr8
  ·rw [hcon.Ab];(try rfl)
  ·exact Below.trans hB (belowK_b (w:=w) (Ci _) W D _ _ (show w.heap.size≤D by omega) hK rfl rfl)
 case stop=>
  rintro D c pre W _ _ h _;exact h.elim
theorem Ao3 (m:Nat) (hm1:1≤m) (hm2:m≤9223372036854775807) (x:Row Br) (w:World) (hx:x.ok w) (hn:x.n≤5000):
 Calls prog 149 #[.int .i64 m,x.v] w fun e w'=>∃ k,x.l.length≤k * m∧(k=0∨(k - 1) * m<x.l.length)∧nJ (upto (fun j=>cons ((x.l.drop (j * m)).take m)) k) w e w':=by
 obtain ⟨A,n,c,l⟩:=x;rcases Vk n with rfl|hpos
 ·have hl:l.length=0:=hx.len;refine (OW.1 (yK 3 (Ci _) A c m w hm1)).mono ?_;intro e w' h;exact ⟨0,by simp only;omega,.inl rfl,h⟩
 ·obtain ⟨b,o,f,hA,_⟩:=hx.Z7 hpos;simp only at hA;subst hA;exact OW.1 (At9 3 (Ci _) b o n c m l w hx hn hm1 hm2)
end Go.Proofs.YtijplolmkcdflaaGreat
namespace Go.Proofs.YtijplolmkcdflaaGreat
open Tryz
open Go.RowKit
attribute [local go_sem] Ll
structure Jz (w0 w:World) (v:Value) (rs:List (Row Br)):Prop where
 own:w.ownsRow w0.heap.size 54 1 v rs.length (rs.map Row.v)
 all:∀ r ∈ rs,r.ok w∧r.n≤5000∧Xn v.ownBlock r
 Av:Ai w0 w
theorem Jz.keep {w0 w w':World} {v:Value} {rs:List (Row Br)} (h:Jz w0 w v rs) (hb:Ai w w'):Jz w0 w' v rs:=
 ⟨Ig h.own hb,fun r hr=>⟨(h.all r hr).1.mono hb,(h.all r hr).2⟩,h.Av.trans hb⟩
theorem Md (rs:List (Row Br)):rs.flatMap AY.cells=rs.map Row.v:=by
 induction rs with
 |nil=>rfl
 |cons r rs ih=>rw [Df,ih];(try rfl)
theorem Jz.cell {w0 w:World} {g n c:Nat} {rs:List (Row Br)} (h:Jz w0 w (.slice (some ⟨g,0,none⟩) n c) rs) {k:Nat} {r:Row Br} (hr:rs[k]?=some r):w.cell? ⟨g,k,none⟩=some r.v∧w.frozen? ⟨g,k,none⟩=false∧g<w.heap.size:=by
 obtain ⟨A,c',e,_⟩:=Ao h.own;injection e with e1 e2 e3;have ho:=h.own;rw [←e2,←Md] at ho;have hk:k<n:=by have:=(CB.1 hr).1;omega
 obtain ⟨q1,q2⟩:=Gy (α:=Row Br) ho hr;have q3:=SF (α:=Row Br) ho hk 0 Za1;have e4:k * AY.size (Row Br)+0=k:=Wu k;have q4:=q1 0 r.v rfl;rw [e4] at q4 q3;exact ⟨q4,q3.2,q2⟩
theorem Jz.len {w0 w:World} {A:Option Addr} {n c:Nat} {rs:List (Row Br)} (h:Jz w0 w (.slice A n c) rs):rs.length=n:=by
 obtain ⟨A',c',e,_⟩:=Ao h.own;injection e with e1 e2 e3;exact e2.symm
theorem Jz.addr {w0 w:World} {A:Option Addr} {n c:Nat} {rs:List (Row Br)} (h:Jz w0 w (.slice A n c) rs) (hn:0<n):∃ g,A=some ⟨g,0,none⟩:=by
 have hl:=h.len;rcases h.own.2 with ⟨h0,hz⟩|⟨g,cap,cur,e,_⟩
 ·omega
 ·injection e with e1;exact ⟨g,e1⟩
theorem Jz.set {w0 w:World} {g n c:Nat} {rs:List (Row Br)} (h:Jz w0 w (.slice (some ⟨g,0,none⟩) n c) rs) {k:Nat} (hk:k<n) {y:Row Br} (hy:y.ok w) (hn:y.n≤5000) (ho:Xn (some g) y):
 Jz w0 (w.setCell ⟨g,k,none⟩ y.v) (.slice (some ⟨g,0,none⟩) n c) (rs.set k y):=by
 obtain ⟨A,c',e,_⟩:=Ao h.own;injection e with e1 e2 e3;have hg:w.grownBy (w.setCell ⟨g,k,none⟩ y.v) (some g):=⟨rfl,rfl,rfl,(KeepsWalks.setCell w _ y.v).size,fun j _ hj=>Za _ _ _ j (fun e=>hj (by rw [e]))⟩;refine ⟨?_,fun r hr=>?_,h.Av.grown hg fun j e=>?_⟩
 ·have hw:=h.own;rw [←e2,←Md] at hw;have:=Uu (α:=Row Br) hw hk y;rw [Md,show k * AY.size (Row Br)=k from Wu k] at this;rw [Rn,←e2];exact this
 ·rcases Zi hr with hr'|rfl
  ·exact ⟨Qp (h.all r hr').1 hg (h.all r hr').2.2,(h.all r hr').2⟩
  ·exact ⟨Qp hy hg ho,hn,ho⟩
 ·injection e with e;subst e;exact Jh h.own rfl
theorem set_mid {α:Type} {U D:List α} {k:Nat} (v:α) (hU:U.length=k) (hk:k<D.length):(U++D.drop k).set k v=(U++[v])++D.drop (k+1):=by
 rw [List.set_append_right _ _ Xl,hU,PU,Eg hk,kD,Ef]
 rfl
theorem Ao0 {α:Type} {U D:List α} {k:Nat} (hU:U.length=k):(U++D.drop k)[k]?=D[k]?:=by
 rw [Rf Xl,hU,PU,NJ,Kb]
theorem Ac2 {α:Type} (f:Nat→α) {k K:Nat} (h:k<K):(upto f K)[k]?=some (f k):=by simp [upto,h]
theorem Ae1 (m:Nat) (hm1:1≤m) (hm2:m≤9223372036854775807) (x:Row Br) (w:World) (hx:x.ok w) (hn:x.n≤5000):
 Calls prog 106 #[.int .i64 m,x.v] w fun e w'=>∃ k v rs,x.l.length≤k * m∧(k=0∨(k - 1) * m<x.l.length)∧e=.returned (.tuple #[v,.int .i64 0])∧Jz w w' v rs∧rs.map (fun r=>cons r.l)=upto (fun j=>BK (cons ((x.l.drop (j * m)).take m))) k:=by
 have Hx:=Aa hx;have Hlen:Hid (x.l.length=x.n):=hx.len;clear hx;obtain ⟨A,n,c,l⟩:=x;simp only [Row.v] at *;go_enter func106,ntmps106;go_wp2_with fail;refine (Ao3 m hm1 hm2 ⟨A,n,c,l⟩ _ Hx hn).mono ?_;rintro e w1 ⟨K,hK1,hK2,v,rs,rfl,hown,hall,hcs,hb⟩;have hR:Jz w w1 v rs:=⟨hown,hall,hb⟩;have hrl:rs.length=K:=by have:=CW List.length hcs;rwa [CQ,KJ] at this
 have hKn:K≤5000:=by
  rcases hK2 with h0|h1
  ·omega
  ·have:=Nat.le_mul_of_pos_right (K - 1) (show 0<m by omega);have:=Hlen.Ab;simp only at h1;omega
 clear hown hall hb;have HK1:=Aa hK1;have HK2:=Aa hK2;have Hcs:=Aa hcs;clear hK1 hK2 hcs;obtain ⟨vA,vc,rfl,hvc⟩:=Ao hR.own;have Hrl:=Aa hrl;rw [hrl] at hR hvc ⊢;clear hrl;have hR0:=hR;go_wp2;go_loopg [22] K (fun gg i wr=>∃ k ys,gg=K - k∧k≤K∧i=.int .i64 (k:Nat)∧Jz w wr (.slice vA K vc) ys∧Hid (ys.map (fun r=>cons r.l)=upto (fun j=>BK (cons ((l.drop (j * m)).take m))) k++(rs.map (fun r=>cons r.l)).drop k));case atStart=>exact ⟨0,rs,rfl,Xl,rfl,hR0,by show _=_;simp [upto]⟩
 case round=>
  obtain ⟨k,ys,BR,hk,rfl,hY,hys⟩:=hrel;have Cs:=Aa BR;clear BR;by_cases hlt:k<K
  ·obtain ⟨g,rfl⟩:=hY.addr Xl;obtain ⟨y,hy⟩:∃ y,ys[k]?=some y:=⟨_,Fp (by rw [hY.len];exact hlt)⟩;obtain ⟨hc,hf,hg⟩:=hY.cell hy;have hya:=hY.all y (CU hy);have Hy:=Aa hy;have HYa:=Aa hya;have HY:=Aa hY;obtain ⟨yA,yn,yc,yl⟩:=y;simp only [Row.v] at hc;clear hy hya hY hR hR0;go_wp2_with fail;refine (Ad2 ⟨yA,yn,yc,yl⟩ _ HYa.1 HYa.2.1).mono ?_;rintro e w2 ⟨u,fs,rfl,hG,hfs⟩;have Hfs:=Aa hfs;clear hfs;have hfl:fs.length=yn:=by have h1:=CW List.length Hfs.Ab;rw [AR,FD,AR] at h1;rw [h1];exact HYa.1.len
   have hyn:yn≤5000:=HYa.2.1;obtain ⟨z,rfl,hzo,hzl,hzn⟩:=NZ hG Xl;have hY2:=HY.keep hG.Av;have hoz:Xn (some g) z:=aL hG rfl hzl hg;have HS:=Aa (hY2.set hlt hzo Xl hoz);obtain ⟨hc2,hf2,hg2⟩:=hY2.cell Hy.Ab;simp only [Row.v] at hc2;obtain ⟨zA,zn,zc,zl⟩:=z;simp only [Row.v] at *;have Hzl:Hid (zl=fs):=hzl;clear hY2 hoz hG hzo hzl hzn hfl;go_wp2;go_roundg (K - (k+1));case rel=>
    refine ⟨k+1,_,rfl,Xl,by go_num,HS.Ab,?_⟩;show _=_;have hU:(upto (fun j=>BK (cons ((l.drop (j * m)).take m))) k).length=k:=KJ _ _;have hD:k<(rs.map (fun r=>cons r.l)).length:=by rw [CQ,Hrl.Ab];exact hlt
    have h1:(ys.map (fun r=>cons r.l))[k]?=some (cons yl):=by rw [Ed,Hy.Ab];(try rfl)
    rw [hys.Ab,Ao0 hU,Hcs.Ab,Ac2 _ hlt] at h1;injection h1 with h1;rw [List.map_set,hys.Ab,set_mid _ hU hD,Sr];simp only [Hzl.Ab,Hfs.Ab,h1]
   case measure=>rw [Cs.Ab];omega
  ·obtain rfl:k=K:=by omega
   clear hR hR0;go_wp2;refine Bc (v:=.tuple #[.slice vA k vc,.int .i64 0]) Za0 rfl ?_;refine ⟨k,_,ys,HK1.Ab,HK2.Ab,rfl,hY,?_⟩;rw [hys.Ab,List.drop_eq_nil_of_le (by rw [CQ,Hrl.Ab];exact Ci _),EO]
end Go.Proofs.YtijplolmkcdflaaGreat
namespace Go.Proofs.YtijplolmkcdflaaGreat
open Tryz
open Go.RowKit Go.Shelf
theorem OL {β:Type} (l:List β) (m K:Nat):(upto (fun j=>(l.drop (j * m)).take m) K).flatten=l.take (K * m):=by
 induction K with
 |zero=>simp [upto]
 |succ K ih=>rw [Sr,Zc,ih,List.flatten_singleton,Ka,MP,List.take_add]
theorem tH (R:List (List CZ)) (m K:Nat) (h:R.length≤K * m):BK (upto (fun j=>BK ((R.drop (j * m)).take m).flatten) K).flatten=BK R.flatten:=by
 have e1:upto (fun j=>BK ((R.drop (j * m)).take m).flatten) K=((upto (fun j=>(R.drop (j * m)).take m) K).map List.flatten).map BK:=by simp [upto,Ri,jZ]
 rw [e1,Zz,←List.flatten_flatten,OL,EU h]
theorem Y8 {β:Type} (l:List (List β)) (i j:Nat):((l.drop i).take j).flatten.length≤l.flatten.length:=by
 have h1:=Na i l;have h2:=Na j (l.drop i);have e:l.flatten=(l.take i).flatten++(((l.drop i).take j).flatten++((l.drop i).drop j).flatten):=by
  rw [←Zc,h2,←Zc,h1]
 rw [e,Cn,Cn];omega
theorem TR (ls:List (List CZ)):(ls.map BK).flatten.length=ls.flatten.length:=by
 induction ls with
 |nil=>rfl
 |cons a ls ih=>rw [Em,WC,WC,Cn,Cn,FD,ih]
theorem yO (R:List (List CZ)) (m K:Nat) (h:R.length≤K * m):(upto (fun j=>BK ((R.drop (j * m)).take m).flatten) K).flatten.length=R.flatten.length:=by
 have e1:upto (fun j=>BK ((R.drop (j * m)).take m).flatten) K=((upto (fun j=>(R.drop (j * m)).take m) K).map List.flatten).map BK:=by simp [upto,Ri,jZ]
 rw [e1,TR,←List.flatten_flatten,OL,EU h]
theorem Uj (l:List (Row Br)) (i j:Nat):Gi ((l.drop i).take j)=((Gi l).drop i).take j:=by rw [Gi,List.map_take,List.map_drop]
def RN (Iw:Nat):Nat→Nat→Nat
 |0,_=>0
 |f+1,n=>if n≤1 then 0 else RN Iw f ((n+Iw - 1) / Iw)+1
def QM (Iw n:Nat):Nat:=RN Iw n n
theorem ceil_lt {Iw n:Nat} (hf:2≤Iw) (hn:1<n):(n+Iw - 1) / Iw<n:=by
 rw [Nat.div_lt_iff_lt_mul Xl];have:n * 2≤n * Iw:=Nat.mul_le_mul_left _ hf;rcases MX Iw n with h|h
 ·omega
 ·have:2 * Iw≤n * Iw:=QF _ hn;omega
theorem xC {Iw:Nat} (hf:2≤Iw):∀ (f n:Nat),n≤f→RN Iw f n=RN Iw n n:=by
 intro f;induction f using Nat.strongRecOn with
 |ind f ih=>
  intro n hn;cases f with
  |zero=>
   have:n=0:=by omega
   subst this
   rfl
  |succ f=>
   cases n with
   |zero=>simp [RN]
   |succ n=>
    rw [RN,RN];split
    ·rfl
    ·have:=ceil_lt (n:=n+1) hf Xl;rw [ih f Xl _ Xl,←ih n Xl _ Xl]
theorem qB {Iw n:Nat} (h:n≤1):QM Iw n=0:=by
 unfold QM;cases n with
 |zero=>rfl
 |succ n=>rw [RN,Al h]
theorem Ao4 {Iw n K:Nat} (hf:2≤Iw) (hn:0<n) (h1:n≤K * Iw) (h2:K=0∨(K - 1) * Iw<n):(n+Iw - 1) / Iw=K:=by
 rcases h2 with rfl|h2
 ·omega
 ·have hK:K≠0:=fun e=>by subst e;omega
  obtain ⟨j,rfl⟩:∃ j,K=j+1:=⟨K - 1,Xl⟩;rw [Zb] at h2;rw [Ka,MP] at h1;refine Nat.div_eq_of_lt_le ?_ ?_
  ·rw [Ka,MP];omega
  ·rw [Ka,Ka,MP];omega
theorem xB {Iw n K:Nat} (hf:2≤Iw) (hn:1<n) (h1:n≤K * Iw) (h2:K=0∨(K - 1) * Iw<n):QM Iw n=QM Iw K+1∧K<n:=by
 have e:=Ao4 hf Xl h1 h2;have l:=ceil_lt hf hn;rw [e] at l;refine ⟨?_,l⟩;unfold QM;obtain ⟨j,rfl⟩:∃ j,n=j+1:=⟨n - 1,Xl⟩;rw [RN,Ak Xl,e,xC hf j K Xl]
structure TZ (w:World) (x:Row (Row Br)):Prop where
 ok:x.ok w
 n:x.n≤5000
 s:∀ r ∈ Gi x.l,Yi r
 t:(Gi x.l).flatten.length≤5000
theorem iJ {w:World} {b o n c m:Nat} {l:List (Row Br)} (h:TZ w ⟨some ⟨b,o,none⟩,n,c,l⟩) (k:Nat):TZ w (KE b o m l k):=by
 have hl:l.length=n:=h.ok.len;have hn:=h.n;have hlen:((l.drop (k * m)).take m).length=min m (l.length - k * m):=by rw [FK,Ih]
 refine ⟨⟨⟨?_,fun h0=>?_⟩,fun a ha=>h.ok.all a (Tx (Ud ha)),Ci _,?_,?_⟩,?_,fun r hr=>?_,?_⟩
 ·rw [Fu];exact CW (· * 1) hlen
 ·have h1:k * m<l.length:=by simp only [KE] at h0;omega
  obtain ⟨ad,e,hb,hc⟩:=h.ok.rd.2 Ze0;injection e with e;subst e;refine ⟨_,rfl,hb,fun j u hu=>?_⟩;have e1:(KE b o m l k).l.flatMap AY.cells=((l.map Row.v).drop (k * m)).take m:=by
   show ((l.drop (k * m)).take m).flatMap AY.cells=_;rw [Md,List.map_take,List.map_drop]
  rw [e1] at hu;rw [WE] at hu;split at hu
  ·rw [NJ] at hu;have:=hc (k * m+j) u (by rw [Md];exact hu);rw [Ub] at this ⊢;rw [QZ];exact this
  ·cases hu
 ·simp only [KE];simp only at hn;unfold maxLen;omega
 ·simp only [KE,AY.bytes];simp only at hn;omega
 ·simp only [KE];simp only at hn;omega
 ·have hr:r ∈ Gi ((l.drop (k * m)).take m):=hr;rw [Uj] at hr;exact h.s r (Tx (Ud hr))
 ·show (Gi ((l.drop (k * m)).take m)).flatten.length≤5000;rw [Uj];exact IA (Y8 _ _ _) h.t
abbrev Al2 (w:World):={x:Row (Row Br) // TZ w x}
theorem mG (n:Nat) (hn:1≤n) (Bs Bn b o c ln m:Nat) (l:List (Row Br)) (w0 w:World) (hx:TZ w0 ⟨some ⟨b,o,none⟩,ln,c,l⟩) (hm1:1≤m) (hm2:m≤9223372036854775807)
 (hs:Bs<w.heap.size) (hb:Bn<w.heap.size) (hBs:w.cell? ⟨Bs,0,none⟩=some (.slice (some ⟨b,o,none⟩) ln c)) (hBn:w.cell? ⟨Bn,0,none⟩=some (.int .i64 m)):
 SeqStopsK Fence.wide n prog 182 #[.pointer (some ⟨Bs,0,none⟩),.pointer (some ⟨Bn,0,none⟩)] (fun x:Al2 w0=>#[x.1.v]) (LK Bs Bn)
  (fun xs=>∃ k,l.length≤k * m∧(k=0∨(k - 1) * m<l.length)∧xs=upto (fun j=>(⟨KE b o m l j,iJ hx j⟩:Al2 w0)) k) (fun _=>True) l.length w:=fun lp J Jx W hW hJ _ hY h0=>by
 have hl:l.length=ln:=hx.ok.len;have hc:=hx.ok.le;have hc2:=hx.ok.cap;have bT:=hx.n;unfold maxLen at hc2;subst hl;refine (yP n hn lp Bs Bn b o c m l hm1 hm2 bT hc hc2 (fun x=>TZ w0 x) (iJ hx) J Jx (fun s A B hA hg=>hJ s A B none hA hg (fun r e=>by cases e)) hY W ((hW.cell (p:=⟨Bs,0,none⟩) hs).trans hBs) ((hW.cell (p:=⟨Bn,0,none⟩) hb).trans hBn) h0).mono ?_;exact Zt2
def marks (ds:List Nat):List Deferred:=ds.map fun D=>{ target:=.collected D,args:=#[] }
def zH (base:Nat) (w:World) (ds:List Nat):Prop:=ds.Nodup∧∀ D ∈ ds,base≤D∧w.heap[D]?=some (.deferred (some []))
theorem XR {F:Fence} {n:Nat} {P:Program} {fn:Func} {tmps:Array Value} {R:Ending→World→Prop} {base:Nat} {I:World→Prop}
 (hI:∀ w D,I w→base≤D→w.heap[D]?=some (.deferred (some []))→I (w.putObj D (.deferred none))) (hend:∀ w,I w→LeavesIn F n P fn tmps R [] .returning w):
 ∀ (ds:List Nat) (w:World),I w→zH base w ds→LeavesInM F n P fn tmps R (marks ds) .returning w:=by
 intro ds;induction ds with
 |nil=>intro w hi _;exact hend w hi
 |cons D ds ih=>
  intro w hi hm;have hD:=hm.2 D (Gg ..);have hnd:=WA.1 hm.1;refine ⟨uH,.inl ⟨D,_,rfl,run_takeDeferred hD.2,ih _ (hI w D hi hD.1 hD.2) ⟨hnd.2,fun E hE=>?_⟩⟩⟩;have h1:=hm.2 E (Ii _ hE);refine ⟨h1.1,?_⟩;have hne:D≠E:=fun e=>hnd.1 (e ▸ hE)
  rw [←h1.2];simp [World.putObj,hne]
attribute [local go_sem] Oper.semAt_some
def uI (l:List CZ) (k:Nat) (w:World) (e:Ending) (w':World):Prop:=∃ v fs,e=.returned (.tuple #[v,.int .i64 k,.int .i64 0])∧Kw w w' v fs∧cons fs=l
def rowLen:Value→Nat
 |.slice _ m _=>m
 |_=>0
theorem aG (Iw:Nat):∀ (f n:Nat),RN Iw f n≤f
 |0,_=>Ci _
 |f+1,n=>by
  rw [RN];split
  ·omega
  ·have:=aG Iw f ((n+Iw - 1) / Iw);omega
structure PIn (Iw:Nat) (w0:World) (N:Nat) (R:List (List CZ)) (wr:World) (m k c:Nat) (A:Option Addr) (rs:List (Row Br)) (ds:List Nat):Prop where
 good:TZ wr ⟨A,m,c,rs⟩
 Av:Ai w0 wr
 cnt:k+QM Iw m=QM Iw N
 kN:k≤1000000
 srt:BK (Gi rs).flatten=BK R.flatten
 mks:zH w0.heap.size wr ds
theorem Kw.put {w0 w:World} {v:Value} {fs:List Br} (h:Kw w0 w v fs) {D:Nat} (hD:w0.heap.size≤D) (hK:w.heap[D]?=some (.deferred (some []))):Kw w0 (w.putObj D (.deferred none)) v fs:=by
 have hg:=grownBy_putObj' w D (.deferred none);have hr:∀ r,some D=some r→∃ o:Obj,w.heap[r]?=some o∧o.isCells=false:=fun r e=>by injection e with e;subst e;exact ⟨_,hK,rfl⟩
 have hck:Ck w (w.putObj D (.deferred none)):=⟨hg.size,fun p u hp=>cell_kept hp hg hr⟩;refine ⟨Below.trans h.Av (belowK_b (w:=w0) (Ci _) w D _ _ hD hK rfl rfl),?_,fun f hf=>Aj1 (h.ok f hf) hck,h.away,h.new⟩;have hq:=ownsRow_putObj h.own (.deferred none) hK rfl;exact hq
theorem Zf8 {p:Prop} (h:p:=by
 refine AllReadyIn.cons rfl (fun K hK=>?_) AllReadyIn.nil;go_simp;refine hK _ _ ?_;clear hK K;refine wpAnyIn_ready (rs:=[4]) Za0 uH ?_;refine AllReadyIn.cons rfl (fun K hK=>?_) AllReadyIn.nil;refine FT rfl (.tmp 21) (.tmp 24) _ rfl _ _ rfl rfl Xp.Ab ?_;refine hK _ _ ?_;clear hK K;refine wpAnyIn_ready (rs:=[5]) Za0 uH ?_;refine AllReadyIn.cons rfl (fun K hK=>?_) AllReadyIn.nil;go_simp;refine hK _ _ ?_;clear hK K;refine wpAnyIn_done Za0 ?_ _;obtain ⟨k1,k2,k3,k4,k5⟩:=KU hne1 hne2 Xl hP hW0 (show Ai wr W from hB) Sa TQ hyl hP3 Li hg4 Xc MU;refine ⟨k1,k2,⟨_,rs++[⟨yA,yn,yc,yl⟩],k3,?_,?_⟩,k4,k5⟩
 ·show _=_;rw [Cf,Cf,hcon.Ab];have e1:cons yl=BK (Gi xl).flatten:=by have h1:yl=fs:=hyl;rw [h1];exact Gm
  simp only [Em,EX,e1]
 ·intro r hr;rcases Eb.1 hr with h|h
  ·exact hrn r h
  ·rw [Ee] at h;subst h;have h1:=CW List.length Gm;rw [AR,FD] at h1;have h2:=Hxo.t;simp only at h1 h2 hyn ⊢;omega
):p:=h
theorem Zw3 {p:Prop} (h:p:=by have h1:=CW List.length Gm;rw [AR,FD] at h1;have h2:=Hxo.t;simp only at h1 h2;omega):p:=h
theorem Zk1 {p:Prop} (h:p:=by go_simp;refine hK _ _ ?_;clear hK K;refine wpAnyIn_ready (rs:=[2]) Za0 uH ?_;refine AllReadyIn.cons rfl (fun K hK=>?_) AllReadyIn.nil;go_simp;refine ⟨trivial,?_⟩;refine (CallsIn.inRound lp (OW.2 (WU _ ⟨xA,xn,xc,xl⟩ Hxo.ok Hxo.n (by have:=Hxo.t;omega) Hxo.s))).mono ?_;rintro e w2 ⟨cv,fs,rfl,Sa,Gm⟩;obtain ⟨⟨yA,yn,yc,yl⟩,rfl,TQ,hyl,hyn⟩:=NZ Sa Zw3;have hP2:=hPd.keep Sa.Av;have hP3:=hP2.keep ((Ai.refl w2).alloc (.cells #[.slice yA yn yc] 54));have hc2:=hP2.box.cell;have hc3:=hP3.box.cell;obtain ⟨v',w4,hrun,Li,hg4,Xc⟩:=Gj (P:=prog) (w2.alloc (.cells #[.slice yA yn yc] 54)) W0.heap.size 184 184 54 i0 (.slice none 0 0) 1 24 underlying184 Hi0 Hz0 Hz1 Hz2 rfl Za1 v rs.length (rs.map Row.v) hP3.own _ (some ⟨w2.heap.size,0,none⟩) 1 1 [.slice yA yn yc] (Ik w2 _ _ 1 1 rfl) Za2 Zf1 Zf5 Zf0;obtain ⟨g',cap',rfl⟩:=ownsRow_succ Li;have MU:=hP3.box.kept hg4 (hP3.box.not_row Za1 hP3.own);have hc4:=MU.cell;have hf4:=MU.frozen;have Xp:=Aa hrun;clear hrun;simp only [Row.v];refine hK _ _ ?_;clear hK K;refine wpAnyIn_ready (rs:=[3]) Za0 uH ?_;exact Zf8):p:=h
theorem Q5 (n:Nat) (hn:4≤n) (Iw:Nat) (x:Row (Row Br)) (w:World) (hx:TZ w x) (hf:2≤Iw) (hf2:Iw≤9223372036854775807):
 CallsIn Fence.wide n prog 107 #[.int .i64 Iw,.slice x.A x.n x.c] w (uI (BK (Gi x.l).flatten) (QM Iw x.n) w):=by
 have h1:1≤n:=by omega
 have d:decide ((Iw:Int)<2)=false:=by simp<;>omega
 refine callsIn_of_wp_marks func107 rfl trivial ?_ rfl;simp only [ntmps107,Tv,En,Ot,Nat.reduceAdd,Nat.reduceSub,TB,TD,Tu,Tz,FC,KZ];obtain ⟨XA,XN,XC,XL⟩:=x;simp only at *;obtain ⟨R,hR⟩:∃ R,R=Gi XL:=⟨_,rfl⟩;rw [←hR];have HI0:Hid (PIn Iw w XN R w XN 0 XC XA XL []):=⟨hx,Ai.refl _,Xl,Xl,by rw [hR],⟨List.nodup_nil,fun D hD=>by cases hD⟩⟩;have hXN:XN≤5000:=hx.n;clear hx hR
 gi_wp2_with fail
 refine wpIn_loop (fun a wr=>∃ (m k c:Nat) (A:Option Addr) (rs:List (Row Br)) (ds:List Nat) (u8 u12 u13 u14 u15 u16 u17 u18 u19 u26:Value),a={ tmps:=#[.int .i64 Iw,.slice A m c,undef,undef,.slice none 0 0,.int .i64 0,.int .i64 0,.int .i64 k,u8,undef,.int .i64 Iw,.bool false,u12,u13,u14,u15,u16,u17,u18,u19,undef,undef,undef,undef,undef,undef,u26,undef,undef,undef,undef,undef,undef,undef,undef,undef],defers:=marks ds }∧Hid (PIn Iw w XN R wr m k c A rs ds)) (fun a _=>rowLen (a.tmps.getD 1 undef)) ?_ ?_
 ·exact ⟨XN,0,XC,XA,XL,[],undef,undef,undef,undef,undef,undef,undef,undef,undef,undef,rfl,HI0⟩
 clear HI0;rintro a wr ⟨m,k,c,A,rs,ds,u8,u12,u13,u14,u15,u16,u17,u18,u19,u26,rfl,HI⟩;by_cases hm:1<m
 ·have d1:decide ((1:Int)<m)=true:=by simp<;>omega
  have hlen:rs.length=m:=HI.good.ok.len;have hm1000:m≤5000:=HI.good.n;obtain ⟨b,o,hA⟩:∃ b o,A=some ⟨b,o,none⟩:=by
   obtain ⟨b,o,_,e,_⟩:=iB HI.good.ok.rd (k:=0) (by show 0<m;omega);exact ⟨b,o,e⟩
  subst hA;have Hl:=Aa hlen;clear hlen
  gi_wp2_with fail
  refine ⟨trivial,?_⟩;refine (Aa4 (n - 1) _ _ _ Iw Xl _).mono ?_;rintro e w' ⟨rfl,rfl⟩
  gi_wp2
  have bO:=((Boxed.new wr 184 (.slice none 0 0)).alloc (.cells #[.slice (some ⟨b,o,none⟩) m c] 184)).alloc (.cells #[.int .i64 Iw] 3);have bS:=(Boxed.new (wr.alloc (.cells #[.slice none 0 0] 184)) 184 (.slice (some ⟨b,o,none⟩) m c)).alloc (.cells #[.int .i64 Iw] 3);have bN:=Boxed.new ((wr.alloc (.cells #[.slice none 0 0] 184)).alloc (.cells #[.slice (some ⟨b,o,none⟩) m c] 184)) 3 (.int .i64 Iw);rw [Gf,Gf] at bN;rw [Gf] at bS;have hB0:Ai wr (((wr.alloc (.cells #[.slice none 0 0] 184)).alloc (.cells #[.slice (some ⟨b,o,none⟩) m c] 184)).alloc (.cells #[.int .i64 Iw] 3)):=(((Ai.refl wr).alloc _).alloc _).alloc _;have hsz:(((wr.alloc (.cells #[.slice none 0 0] 184)).alloc (.cells #[.slice (some ⟨b,o,none⟩) m c] 184)).alloc (.cells #[.int .i64 Iw] 3)).heap.size=wr.heap.size+3:=by simp
  generalize ((wr.alloc (.cells #[.slice none 0 0] 184)).alloc (.cells #[.slice (some ⟨b,o,none⟩) m c] 184)).alloc (.cells #[.int .i64 Iw] 3)=W0 at *;have HsO:=Aa bO;obtain ⟨i0,hi0,hz0,hz1,hz2⟩:=info_parts WW;have Hi0:=Aa hi0;have Hz0:=Aa hz0;have Hz1:=Aa hz1;have Hz2:=Aa hz2;clear hi0 hz0 hz1 hz2;have P0:Parts W0 W0 wr.heap.size (.slice none 0 0) []:=⟨bO,⟨rfl,.inl ⟨rfl,rfl⟩⟩,uH,uH,uH⟩;have hne1:wr.heap.size+1<W0.heap.size:=by omega
  have hne2:wr.heap.size+1+1<W0.heap.size:=by omega
  have Hsz:=Aa hsz;clear hsz bO;refine wpIn_rangeFunc_ownG rfl h1 (gf:=182) (lb:=#[.pointer (some ⟨wr.heap.size+1,0,none⟩),.pointer (some ⟨wr.heap.size+1+1,0,none⟩)]) rfl trivial (enters_of func182 Za0 rfl)
   (mG (n - 1) Xl (wr.heap.size+1) (wr.heap.size+1+1) b o c m Iw rs wr W0 HI.good Xl hf2 hne1 hne2 bS.cell bN.cell) LK.trans (fun W l o o' hl _ _ _=>Qm Xl Xl) (Below.refl _ _) (fun _=>rfl)
   (fun pre W=>(∃ v rs',Parts W0 W wr.heap.size v rs'∧Hid (rs'.map (fun r=>cons r.l)=pre.map (fun x=>BK (Gi x.1.l).flatten))∧Hid (∀ r ∈ rs',r.n≤5000))∧Below wr.heap.size wr W∧W0.heap.size≤W.heap.size)
   (fun _ _ _=>False)
   (fun s A B row hs hg hr=>by
    obtain ⟨⟨v,rs',h1,h2,h3⟩,h4,h5⟩:=hs;exact ⟨⟨v,rs',h1.kept hg (fun r e=>(hr r e).2),h2,h3⟩,h4.grown hg h4.size (fun k e=>IA Xl (hr k e).1),IA h5 hg.size⟩)
   (fun _ _ _ _ _ hs _ _=>hs)
   ⟨⟨_,[],P0,rfl,fun r h=>by simp at h⟩,hB0,Ci _⟩
   (fun x=>{ tmps:=#[.int .i64 Iw,.slice (some ⟨b,o,none⟩) m c,undef,undef,.slice none 0 0,.int .i64 0,.int .i64 0,.int .i64 k,.pointer (some ⟨wr.heap.size,0,none⟩),x.1.v,.int .i64 Iw,.bool false,.slice (some ⟨b,o,none⟩) m c,.int .i64 m,.bool true,u15,u16,.slice (some ⟨b,o,none⟩) m c,.int .i64 Iw,.func (.func 182) #[] #[.pointer (some ⟨wr.heap.size+1,0,none⟩),.pointer (some ⟨wr.heap.size+1+1,0,none⟩)],x.1.v,undef,undef,undef,undef,undef,u26,undef,undef,undef,undef,undef,undef,undef,undef,undef],defers:=[] }) ?assign ?body ?done ?stop
  case assign=>
   intro l x W K hK
   gi_wp2
   exact hK
  case body=>
   rintro lp pre x W ⟨⟨v,rs,hP,hcon,hrn⟩,hB,hW0⟩ hlt;obtain ⟨⟨xA,xn,xc,xl⟩,hxo⟩:=x;simp only [Row.v] at *;have hd:1≤n - 1 - 1:=by omega
   have hmx:prog.follows .mixedOrders=true:=by kernel_rfl
   have hc:=hP.box.cell;have hBw:Ai wr W.drew:=(show Ai wr W from hB).drew;have Hxo:Hid (TZ W.drew ⟨xA,xn,xc,xl⟩):=⟨hxo.ok.mono hBw,hxo.n,hxo.s,hxo.t⟩;have hlen:rs.length=pre.length:=by have:=CW List.length hcon.Ab;simpa using this
   have hpl:pre.length≤5000:=by have:=Hl.Ab;omega
   have Hlen:=Aa hlen;clear hlen;have hPd:Parts W0 W.drew wr.heap.size v rs:=hP.keep (Ai.refl W).drew
   gi_wp2
   refine wpIn_region_any Za0 ?_;refine wpAnyIn_ready (rs:=[0,1]) Za0 uH ?_;refine AllReadyIn.cons rfl (fun K hK=>?_) (AllReadyIn.cons rfl (fun K hK=>?_) AllReadyIn.nil)
   ·go_simp;refine hK _ _ ?_;clear hK K;refine wpAnyIn_ready (rs:=[1]) Za0 uH ?_;refine AllReadyIn.cons rfl (fun K hK=>?_) AllReadyIn.nil;exact Zk1
   ·go_simp;refine hK _ _ ?_;clear hK K;refine wpAnyIn_ready (rs:=[0,2]) Za0 uH ?_;refine AllReadyIn.cons rfl (fun K hK=>?_) (AllReadyIn.cons rfl (fun K hK=>?_) AllReadyIn.nil)
    ·exact Zk1
    ·skip;go_simp;refine ⟨trivial,?_⟩;refine (CallsIn.inRound lp (OW.2 (WU _ ⟨xA,xn,xc,xl⟩ Hxo.ok Hxo.n (by have:=Hxo.t;omega) Hxo.s))).mono ?_;rintro e w2 ⟨cv,fs,rfl,Sa,Gm⟩;obtain ⟨⟨yA,yn,yc,yl⟩,rfl,TQ,hyl,hyn⟩:=NZ Sa Zw3;have hP2:=hPd.keep Sa.Av;have hP3:=hP2.keep ((Ai.refl w2).alloc (.cells #[.slice yA yn yc] 54));have hc2:=hP2.box.cell;have hc3:=hP3.box.cell;obtain ⟨v',w4,hrun,Li,hg4,Xc⟩:=Gj (P:=prog) (w2.alloc (.cells #[.slice yA yn yc] 54)) W0.heap.size 184 184 54 i0 (.slice none 0 0) 1 24 underlying184 Hi0 Hz0 Hz1 Hz2 rfl Za1 v rs.length (rs.map Row.v) hP3.own _ (some ⟨w2.heap.size,0,none⟩) 1 1 [.slice yA yn yc] (Ik w2 _ _ 1 1 rfl) Za2 Zf1 Zf5 Zf0;obtain ⟨g',cap',rfl⟩:=ownsRow_succ Li;have MU:=hP3.box.kept hg4 (hP3.box.not_row Za1 hP3.own);have hc4:=MU.cell;have hf4:=MU.frozen;have Xp:=Aa hrun;clear hrun;simp only [Row.v];refine hK _ _ ?_;clear hK K;refine wpAnyIn_ready (rs:=[0,3]) Za0 uH ?_;refine AllReadyIn.cons rfl (fun K hK=>?_) (AllReadyIn.cons rfl (fun K hK=>?_) AllReadyIn.nil)
     ·go_simp;refine hK _ _ ?_;clear hK K;refine wpAnyIn_ready (rs:=[3]) Za0 uH ?_;exact Zf8
     ·go_simp;refine hK _ _ ?_;clear hK K;refine wpAnyIn_ready (rs:=[0]) Za0 uH ?_;exact Zf8
  case done=>
   rintro D ys W hD ⟨K,hk1,hk2,rfl⟩ ⟨⟨v,rs',hP,hcon,hrn⟩,hB,hW0⟩ hK;have hstep:=xB hf hm (K:=K) (by rw [←Hl.Ab];exact hk1) (by rw [←Hl.Ab];exact hk2);have HST:=Aa hstep;have hrl:Gi rs'=upto (fun j=>BK (((Gi rs).drop (j * Iw)).take Iw).flatten) K:=by
    have h:=hcon.Ab;rw [nT] at h;show rs'.map (fun r=>cons r.l)=_;rw [h]
    congr 1
    funext j
    show BK (Gi ((rs.drop (j * Iw)).take Iw)).flatten=_;rw [Uj]
   have hKl:rs'.length=K:=by have h:=CW List.length hrl;rw [CQ,KJ] at h;exact h
   obtain ⟨A',c',rfl,hle⟩:=Ao hP.own;have hRK:(Gi rs).length≤K * Iw:=by rw [CQ];exact hk1
   have HNew:Hid (PIn Iw w XN R W K (k+1) c' A' rs' (D::ds)):=by
    refine ⟨⟨SG (x:=⟨A',K,c',rs'⟩) (by rw [Md];have h:=hP.own;rw [hKl] at h;exact h) (fun r hr=>hP.ok r hr) (by show K * 24≤_;omega),by show K≤5000;omega,fun r hr=>?_,?_⟩,Below.trans HI.Av (hB.mono HI.Av.size),?_,?_,?_,?_,?_⟩
    ·have hr:r ∈ Gi rs':=hr;rw [hrl] at hr;obtain ⟨j,_,rfl⟩:=Kc.1 hr;exact Vp _
    ·show (Gi rs').flatten.length≤5000;rw [hrl,yO _ _ _ hRK];exact HI.good.t
    ·have:=HI.cnt;omega
    ·have:=HI.cnt;have h2:QM Iw XN≤XN:=aG Iw XN XN;show k+1≤1000000;omega
    ·rw [hrl,tH _ _ _ hRK];exact HI.srt
    ·refine WA.2 ⟨fun hm2=>?_,HI.mks.1⟩;have h:=(Zj.1 (HI.mks.2 D hm2).2).1;omega
    ·intro E hE;rcases FJ.1 hE with rfl|hE
     ·exact ⟨by have:=HI.Av.size;omega,hK⟩
     ·have h:=HI.mks.2 E hE;exact ⟨h.1,by rw [←h.2];exact hB.block E (Zj.1 h.2).1⟩
   have hc:=hP.box.cell;rw [hKl] at hc;have hkk:k≤5000:=by have:=HI.cnt;have h2:QM Iw XN≤XN:=aG Iw XN XN;omega
   clear hrl hcon hrn hP hk1 hk2 hstep hRK hle hKl
   gi_wp2
   exact ⟨⟨K,k+1,c',A',rs',D::ds,_,_,_,_,_,_,_,_,_,_,by first|rfl|(simp [marks];done),HNew⟩,by show K<m;exact HST.2⟩
  case stop=>
   rintro D c pre W _ _ h _;exact h.elim
 ·have d1:decide ((1:Int)<m)=false:=by simp<;>omega
  have hcnt:k=QM Iw XN:=by have h:=HI.cnt;rw [qB Xl] at h;omega
  have HCn:=Aa hcnt;clear hcnt;by_cases hm0:m=0
  ·subst hm0;have hrs:rs=[]:=LD HI.good.ok.len;have HE:Hid (cons []=BK R.flatten):=by show _=_;rw [←HI.srt,hrs];(try rfl)
   clear hrs
   gi_wp2
   refine XR (base:=w.heap.size) (I:=fun w'=>Kw w w' (.slice none 0 0) []) (fun w' D h h1 h2=>h.put h1 h2) (fun w' h=>?_) ds wr ⟨HI.Av,Tw _ _ _ _,uH,uH,uH⟩ HI.mks;refine ⟨.tuple #[.slice none 0 0,.int .i64 k,.int .i64 0],by kernel_rfl,.slice none 0 0,[],by rw [HCn.Ab],h,HE.Ab⟩
  ·obtain rfl:m=1:=by omega
   obtain ⟨b,o,r,hA,hr,q1⟩:=Oz rfl HI.good.ok.rd (k:=0) (by show 0<1;omega);simp only at hA;subst hA;have q1:=q1 _ rfl;rw [Kb] at q1;have hl1:rs.length=1:=HI.good.ok.len;have hrs:rs=[r]:=by
    match rs,hl1,hr with
    |[z],_,h=>injection h with h;rw [h]
   have hsr:BK (cons r.l)=cons r.l:=J6 (HI.good.s _ (by rw [hrs];exact Ee.2 rfl));have HE:Hid (cons r.l=BK R.flatten):=by
    show _=_;rw [←HI.srt,hrs];show cons r.l=BK ([cons r.l].flatten);rw [List.flatten_singleton,hsr]
   have hrok:r.ok wr:=HI.good.ok.all r (by rw [hrs];exact Ee.2 rfl);have hrn:r.n≤5000:=by
    have h:=HI.good.t;rw [hrs] at h;have h:([cons r.l].flatten).length≤5000:=h;rw [List.flatten_singleton,AR,hrok.len] at h;exact h
   have HCl:=Aa (KV r wr hrok Xl);clear hrs hl1 hsr hrok hr;obtain ⟨RA,rn,rc,rl⟩:=r;simp only [Row.v] at *
   gi_wp2_with fail
   refine ⟨trivial,?_⟩;refine (OW.2 HCl.Ab).mono ?_;rintro e w2 ⟨v,fs,rfl,hG,hc⟩;have HG:=Aa (hG.from_ HI.Av);have HM:Hid (zH w.heap.size w2 ds):=⟨HI.mks.1,fun D hD=>⟨(HI.mks.2 D hD).1,by rw [←(HI.mks.2 D hD).2];exact hG.Av.block D (Zj.1 (HI.mks.2 D hD).2).1⟩⟩;have HE2:Hid (cons fs=BK R.flatten):=by show _=_;rw [hc];exact HE.Ab
   clear hG hc
   gi_wp2
   refine XR (base:=w.heap.size) (I:=fun w'=>Kw w w' v fs) (fun w' D h h1 h2=>h.put h1 h2) (fun w' h=>?_) ds w2 HG HM.Ab;refine ⟨.tuple #[v,.int .i64 k,.int .i64 0],by kernel_rfl,v,fs,by rw [HCn.Ab],h,HE2.Ab⟩
end Go.Proofs.YtijplolmkcdflaaGreat
namespace Go.Proofs.YtijplolmkcdflaaGreat
open Tryz
open Go.RowKit
theorem wZ (Iw:Nat) (x:Row (Row Br)) (w:World) (hx:TZ w x) (hf:2≤Iw) (hf2:Iw≤9223372036854775807):
 Calls prog 107 #[.int .i64 Iw,.slice x.A x.n x.c] w (uI (BK (Gi x.l).flatten) (QM Iw x.n) w):=OW.1 (Q5 4 (Ci _) Iw x w hx hf hf2)
theorem Jz.good {w0 w:World} {v:Value} {rs:List (Row Br)} {l:List CZ} {m K:Nat} (h:Jz w0 w v rs) (hr:rs.map (fun r=>cons r.l)=upto (fun j=>BK ((l.drop (j * m)).take m)) K) (h1:l.length≤K * m) (h2:K=0∨(K - 1) * m<l.length) (hm:1≤m) (hl:l.length≤5000):
 ∃ x:Row (Row Br),v=.slice x.A x.n x.c∧TZ w x∧BK (Gi x.l).flatten=BK l:=by
 obtain ⟨A,c,rfl,hc⟩:=Ao h.own;have hK:rs.length=K:=by have h:=CW List.length hr;rw [CQ,KJ] at h;exact h
 have hK2:K≤5000:=by
  rcases h2 with rfl|h2
  ·omega
  ·have:(K - 1) * 1≤(K - 1) * m:=Nat.mul_le_mul_left _ hm;omega
 have e1:Gi rs=(upto (fun j=>(l.drop (j * m)).take m) K).map BK:=by show rs.map (fun r=>cons r.l)=_;rw [hr];simp [upto,Ri,jZ]
 refine ⟨⟨A,rs.length,c,rs⟩,rfl,⟨SG (x:=⟨A,rs.length,c,rs⟩) (by rw [Md];exact h.own) (fun r hr=>(h.all r hr).1) (by show rs.length * 24≤_;omega),by show rs.length≤_;omega,fun r hr=>?_,?_⟩,?_⟩
 ·have hr:r ∈ Gi rs:=hr;rw [e1] at hr;obtain ⟨j,_,rfl⟩:=Kc.1 hr;exact Vp _
 ·show (Gi rs).flatten.length≤5000;rw [e1,TR,OL,FK];omega
 ·show BK (Gi rs).flatten=_;rw [e1,Zz,OL,EU h1]
def Ao8 (l:List CZ) (w:World) (e:Ending) (w':World):Prop:=∃ v fs,e=.returned (.tuple #[v,.int .i64 0])∧Kw w w' v fs∧cons fs=BK l
theorem V6 (m Iw:Nat) (hm1:1≤m) (hm2:m≤9223372036854775807) (hf:2≤Iw) (hf2:Iw≤9223372036854775807) (x:Row Br) (w:World) (hx:x.ok w) (hn:x.n≤5000):
 Calls prog 67 #[.int .i64 m,.int .i64 Iw,.slice x.A x.n x.c] w (Ao8 (cons x.l) w):=by
 have HR:=Aa (Ae1 m hm1 hm2 x w hx hn);have hxl:=hx.len;have HL:Hid ((cons x.l).length≤5000):=by show _≤_;rw [AR];omega
 have PM:Hid (x.l.length=(cons x.l).length):=(AR _).symm;have HCD:Hid (∀ j,cons ((x.l.drop (j * m)).take m)=((cons x.l).drop (j * m)).take m):=fun j=>by rw [PH,Me]
 generalize cons x.l=l at *;obtain ⟨A,n,c,xl⟩:=x;simp only [Row.v] at *;clear hx;go_enter func67,ntmps67;go_wp2_with fail;refine HR.mono ?_;rintro e w1 ⟨K,v,rs,h1,h2,rfl,hat,hrs⟩;obtain ⟨X,rfl,hg,hs⟩:=hat.good (l:=l) (m:=m) (K:=K) (by rw [hrs];congr 1;funext j;rw [HCD.Ab]) (by rw [←PM.Ab];exact h1) (by rw [←PM.Ab];exact h2) hm1 HL.Ab;have HB:=Aa hat.Av;have HP:=Aa (wZ Iw X w1 hg hf hf2);rw [hs] at HP;obtain ⟨XA,XN,XC,XL⟩:=X;simp only at *;clear hat hrs h1 h2 hg hs HR;go_wp2_with fail;refine HP.mono ?_;rintro e w2 ⟨v,fs,rfl,hG,hc⟩;have HG:=Aa (hG.from_ HB.Ab);have HC:=Aa hc;clear hG hc HP;go_wp2;go_ret2;exact ⟨v,fs,rfl,HG.Ab,HC.Ab⟩
theorem jD {X:List Br} {k:Nat} {f:Br} (h:X[k]?=some f) (acc:List CZ):EF acc (cons (X.drop k))=match GN acc f.Ac with|none=>none|some a=>EF a (cons (X.drop (k+1))):=by
 obtain ⟨h1,rfl⟩:=CB.1 h;rw [Eg h1]
 rfl
theorem gI (c:CZ):GN [] c=some [c]:=rfl
theorem aX {L:List Br} {m:Nat} {p:Br} (hl:L.length=m+1) (hp:L[m]?=some p):(cons L).getLast?=some p.Ac:=by
 rw [List.getLast?_eq_getElem?,AR,hl];show (L.map Br.Ac)[m]?=_;rw [Ed,hp]
 rfl
theorem gJ {L:List Br} {m:Nat} {p f:Br} (hl:L.length=m+1) (hp:L[m]?=some p) (h:Dn p.ks.l f.ks.l≠0):GN (cons L) f.Ac=some (cons (L++[f])):=by
 unfold GN;rw [aX hl hp];simp only;rw [Ak (show ¬ Dn p.Ac.1 f.Ac.1=0 from h)];simp [cons]
theorem Zw {L:List Br} {m:Nat} {p f:Br} (hl:L.length=m+1) (hp:L[m]?=some p) (h:Dn p.ks.l f.ks.l=0) (hj:(p.ag.join f.ag).2=false):GN (cons L) f.Ac=none:=by
 unfold GN;rw [aX hl hp];simp only;rw [Al (show Dn p.Ac.1 f.Ac.1=0 from h),Ak];show ¬ (p.ag.join f.ag).2=true;rw [hj];simp
theorem Ad5 {α:Type} {L:List α} {m:Nat} (hl:L.length=m+1) (y:α):L.set m y=L.dropLast++[y]:=by
 apply YZ;intro j;by_cases hj:j=m
 ·subst hj;rw [NK Xl,Rf (by rw [Zd];omega),Zd,hl];simp
 ·rw [Ou (fun e=>hj e.symm)];by_cases hlt:j<m
  ·rw [QH (by rw [Zd];omega),List.getElem?_dropLast,Al Xl]
  ·rw [Jj Xl,Jj (by rw [Cn,Zd];simp;omega)]
theorem Zx {L:List Br} {m:Nat} {p f:Br} (hl:L.length=m+1) (hp:L[m]?=some p) (h:Dn p.ks.l f.ks.l=0) (hj:(p.ag.join f.ag).2=true):GN (cons L) f.Ac=some (cons (L.set m ⟨p.ks,(p.ag.join f.ag).1⟩)):=by
 unfold GN;rw [aX hl hp];simp only;rw [Al (show Dn p.Ac.1 f.Ac.1=0 from h),Al (show (p.Ac.2.join f.Ac.2).2=true from hj)];rw [Ad5 hl];simp only [cons,Cf,Em,EX,List.map_dropLast]
 rfl
theorem yE {l:List Br} {k:Nat} {p:Br} (hp:l[k]?=some p) (a:Ag) (j:Nat):
 ((l.set k ⟨p.ks,a⟩).flatMap AY.cells)[j]?=if k * 11+1≤j∧j<k * 11+1+10 then a.cs.toList[j - (k * 11+1)]? else (l.flatMap AY.cells)[j]?:=by
 have hk:=(CB.1 hp).1;rw [sI l k ⟨p.ks,a⟩ hk j];show (if k * 11≤j∧j<k * 11+11 then (AY.cells (⟨p.ks,a⟩:Br))[j - k * 11]? else _)=_;by_cases h1:k * 11+1≤j∧j<k * 11+1+10
 ·rw [Al Xl,Al h1];obtain ⟨i,rfl⟩:∃ i,j=k * 11+1+i:=⟨j - (k * 11+1),Xl⟩;rw [show k * 11+1+i - k * 11=i+1 by omega,show k * 11+1+i - (k * 11+1)=i by omega]
  rfl
 ·rw [Ak h1];by_cases h2:j=k * 11
  ·subst h2;rw [Al Xl,PU];have:=NG l k 0 p hp (by show 0<11;omega);rw [Kb] at this;have h3:(l.flatMap AY.cells)[k * 11]?=(AY.cells p)[0]?:=this;rw [h3]
   rfl
  ·rw [Ak Xl]
theorem Q6 {w:World} {base:Nat} {e:TypeId} {g n c:Nat} {l:List Br} (h:w.ownsRow base e 11 (.slice (some ⟨g,0,none⟩) n c) n (l.flatMap AY.cells)) {k:Nat} {p:Br} (hp:l[k]?=some p) (a:Ag):
 (w.setCells g (k * 11+1) a.cs.toList).ownsRow base e 11 (.slice (some ⟨g,0,none⟩) n c) n ((l.set k ⟨p.ks,a⟩).flatMap AY.cells):=by
 have hl:l.length=n:=Il (α:=Br) (Rd.BC h);have hk:=(CB.1 hp).1;refine ⟨by rw [Fu,Rn,hl];(try rfl),?_⟩;rcases h.2 with ⟨h0,_⟩|⟨g',cap,cur,hv,hb,hh,hn,hm,hs,ht⟩
 ·cases h0
 ·injection hv with h1 h2 h3;injection h1 with h1;injection h1 with h1;subst h1 h3;refine .inr ⟨g,c,Ea cur (k * 11+1) a.cs.toList,rfl,hb,Bh.Ea a.cs.toList (k * 11+1) hh,hn,hm,by rw [Ow];exact hs,?_⟩;apply YZ;intro j;rw [yE hp a j];have ha:a.cs.toList.length=10:=rfl;have hns:n * 11≤cur.size:=by rw [hs];exact QF _ hn
  by_cases hj:j<n * 11
  ·rw [Jk hj,Zg,Qe _ _ _ _ Xl,ha];have h4:(l.flatMap AY.cells)[j]?=cur[j]?:=by rw [←ht,Jk hj,Zg]
   rw [h4]
  ·rw [Jj Zb7,Ak Xl,Jj (by rw [Fu,hl];show n * 11≤j;omega)]
theorem qD {w:World} {base:Nat} {e:TypeId} {g n c:Nat} {l:List Br} (h:w.ownsRow base e 11 (.slice (some ⟨g,0,none⟩) n c) n (l.flatMap AY.cells)) {k:Nat} (hk:k<n):w.there g (k * 11+1) 10:=by
 have:=SF (α:=Br) h hk;intro j hj;have h2:=this (1+j) (by show 1+j<11;omega);have h3:k * AY.size Br+(1+j)=k * 11+1+j:=by show k * 11+(1+j)=_;omega
 rw [h3] at h2;exact h2
theorem Zo {P:Program} {ops:Array Oper} {rest:List Oper} {op:Oper} {a:Act} {w:World} {Q:Exit→Act→World→Prop} (hgd:op.guard=none) {ty:TypeId} (R:Ep P ty 10) (x y:Operand) (ho:op.op=.store ty x y)
 {base:Nat} {e:TypeId} {g n c:Nat} {l:List Br} (k:Nat) (hx:a.eval x=.pointer (some ⟨g,k * 11+1,none⟩)) (h:w.ownsRow base e 11 (.slice (some ⟨g,0,none⟩) n c) n (l.flatMap AY.cells)) {p:Br} (hp:l[k]?=some p) (ag:Ag) (hy:a.eval y=.agg ag.cs)
 (hn:∀ w',w'.ownsRow base e 11 (.slice (some ⟨g,0,none⟩) n c) n ((l.set k ⟨p.ks,ag⟩).flatMap AY.cells)→w.grownBy w' (some g)→wpList P ops Q rest (a.put op.dst undef) w'):wpList P ops Q (op::rest) a w:=by
 have hk:k<n:=by have:=Il (α:=Br) (Rd.BC h);have:=(CB.1 hp).1;omega
 refine YY hgd ty x y ho g (k * 11+1) ag.cs hx hy (qD h hk) (by rw [R.hi];(try rfl)) (Iq ag) ?_;exact hn _ (Q6 h hp ag) (Dy w g _ _)
theorem FU {w:World} {base:Nat} {e:TypeId} {g n c:Nat} {l:List Br} (h:w.ownsRow base e 11 (.slice (some ⟨g,0,none⟩) n c) n (l.flatMap AY.cells)) {k:Nat} {p:Br} (hp:l[k]?=some p):w.rangeAt g (k * 11+1) p.ag.cs.toList:=fun j u hu=>by
 have:=(Gy (α:=Br) h hp).1 (1+j) u (by show (p.ks.v::p.ag.cs.toList)[1+j]?=_;rw [Oo,FR];exact hu);have h3:k * AY.size Br+(1+j)=k * 11+1+j:=by show k * 11+(1+j)=_;omega
 rw [h3] at this;exact this
theorem DV {P:Program} {w:World} {ops:Array Oper} {o:Oper} {a:Act} {K:Act→World→Prop} {Q:Exit→Act→World→Prop} {X:Prop} (hgd:o.guard=none) {ty:TypeId} {n:Nat} (R:Ep P ty n) (x y:Operand) (ho:o.op=.store ty x y)
 (g:Nat) (hx:a.eval x=.pointer (some ⟨g,0,none⟩)) {t:TypeId} {cs:Array Value} (hb:Bh w g t cs) (hn:cs.size=n) (cs':Array Value) (hn':cs'.size=n) (hy:a.eval y=.agg cs') (h1:cs'.all (·.oneCell')=true)
 (h:∀ w',Bh w' g t cs'→w.grownBy w' (some g)→K (a.put o.dst undef) w'):if Region.wanted o (yielded ops a.tmps)=true then Oper.wp P o a w K Q else X:=by
 exact Zg8
def uT (l:List CZ) (w:World) (e:Ending) (w':World):Prop:=
 (Nc l=none∧e=.returned (.tuple #[.slice none 0 0,.int .i64 12])∧Ai w w')∨∃ r v fs,Nc l=some r∧e=.returned (.tuple #[v,.int .i64 0])∧Kw w w' v fs∧cons fs=r
theorem qF {w:World} {e:TypeId} {size n c:Nat} {A:Option Addr} {xs:List Value} (h:w.ownsRow 0 e size (.slice A n c) n xs) (hn:0<n):∃ g,A=some ⟨g,0,none⟩:=by
 exact Zv4
theorem Zi1 {p:Prop} (h:p:=by intro wq bq Aq;replace H:=Aa (H.AA 2 rfl Aq bq);(try simp only [LS] at H);clear Aq bq;refine Aj Ad trivial fun hHeld=>?_;clear Ad KK;refine BG Jw fun KK Ad=>?_;go_simp;refine Aj Ad trivial fun hHeld=>?_;clear Ad KK;refine BZ ?_;clear hHeld;go_wp2_with fail;go_meet;exact ⟨_,rfl,rfl,H⟩):p:=h
theorem Zs5 {p:Prop} (h:p:=by refine BG Jc fun KK Ad=>?_;refine DV rfl Dz (.tmp 8) (.tmp 44) rfl _ (by first|rfl|go_simp) (H.blk 2 rfl) rfl u.cs rfl (by first|rfl|go_simp) (Iq u) ?_;exact Zi1):p:=h
theorem Zg0 {p:Prop} (h:p:=by refine Aj Ad trivial fun hHeld=>?_;clear Ad KK;refine BG Mk fun KK Ad=>?_;go_simp;refine (HJ _).mono ?_;rintro e' w6 ⟨rfl,hb6⟩;replace H:=Aa (H.Av hb6);clear hb6;refine Aj Ad trivial fun hHeld=>?_;clear Ad KK;refine Bd MH ?_;refine Bd FO ?_;refine Bd Ga ?_;exact Zs5):p:=h
theorem Zl4 {p:Prop} (h:p:=by
 refine Aj Ad trivial fun hHeld=>?_;clear Ad KK;refine Oh Mk Hw (fun KK Ad=>?_) fun KK Ad=>?_
 ·go_simp;refine (HJ _).mono ?_;rintro e' w6 ⟨rfl,hb6⟩;replace H:=Aa (H.Av hb6);clear hb6;refine Aj Ad trivial fun hHeld=>?_;clear Ad KK;refine Bd MH ?_;refine Bd FO ?_;refine Bd Ga ?_;refine BG Hw fun KK Ad=>?_;go_simp;replace H:=Aa (H.alloc Ag.zero.cs 95);(try simp only [LS] at H);refine Aj Ad trivial fun hHeld=>?_;clear Ad KK;exact Zs5
 ·go_simp;replace H:=Aa (H.alloc Ag.zero.cs 95);(try simp only [LS] at H);exact Zg0
):p:=h
theorem Zl9 {p:Prop} (h:p:=by
 (try simp only [Act.put,LP]);replace H:=Aa (H.Fg [0] Za1 uH);(try simp only [LS] at H);have MG:out.flatMap AY.cells++f.cs.toList=(out++[f]).flatMap AY.cells:=by simp [AY.cells]
 rw [MG] at H;have vG:Hid ((out++[f]).length=m+1+1):=by show _=_;rw [Cn,HQ.Ab];(try rfl)
 have Tq:Hid (∀ z ∈ out++[f],z.ok w):=fun z hz=>(Eb.1 hz).elim (QU z) (fun h=>by rw [Ee] at h;subst h;exact QA.Ab)
 clear MG HQ QU;go_wp2_with fail;go_roundg (N - (k+1));case rel=>exact ⟨k+1,m+1+1,d2,B2,out++[f],rfl,Xl,Xl,rfl,by go_num,vG,HE2,Tq,H⟩
 case measure=>rw [Cs.Ab];omega
):p:=h
theorem Zm0 {p:Prop} (h:p:=by
 (try simp only [Act.put,LP]);replace H:=Aa (H.Fg [0] Za1 uH);(try simp only [LS] at H);have MG:out.flatMap AY.cells++f.cs.toList=(out++[f]).flatMap AY.cells:=by simp [AY.cells]
 rw [MG] at H;have vG:Hid ((out++[f]).length=q+1):=by show _=_;rw [Cn,HQ.Ab];(try rfl)
 have Tq:Hid (∀ z ∈ out++[f],z.ok w):=fun z hz=>(Eb.1 hz).elim (QU z) (fun h=>by rw [Ee] at h;subst h;exact QA.Ab)
 clear MG HQ QU;go_wp2_with fail;go_roundg (N - (k+1));case rel=>exact ⟨k+1,q+1,d2,B2,out++[f],rfl,Xl,Xl,rfl,by go_num,vG,HE2,Tq,H⟩
 case measure=>rw [Cs.Ab];omega
):p:=h
theorem Zn9 {p:Prop} (h:p:=by refine Aj Ad trivial fun hHeld=>?_;clear Ad KK;refine BG Lj fun KK Ad=>?_;refine Cw rfl Dz (.tmp 41) (by first|rfl|go_simp) _ 1 (by first|rfl|go_simp) f.ag.cs (by intro jj uu hu;have:=(H.blk 1 rfl).range (1+jj) uu (by show (f.ks.v::f.ag.cs.toList)[1+jj]?=_;rw [Oo,FR];exact hu);rwa [FI] at this) rfl ?_;exact Zg0):p:=h
theorem Zq4 {p:Prop} (h:p:=by refine Aj Ad trivial fun hHeld=>?_;clear Ad KK;refine BG KW fun KK Ad=>?_;refine Cw rfl Dz (.tmp 39) (by first|rfl|go_simp) g (m * 11+1) (by first|rfl|go_simp) p.ag.cs (FU (H.row 0 rfl) fT.Ab) rfl ?_;exact Zg0):p:=h
theorem Y7 (w:World) (x:Row Br) (hx:x.ok w) (hn:x.n≤1000000):
 Calls prog 68 #[.slice x.A x.n x.c] w (uT (cons x.l) w):=by
 have HX:=Aa hx;have hlen:Hid (x.l.length=x.n):=hx.len;obtain ⟨A0,N,c0,X⟩:=x;simp only at *;obtain ⟨O,hO⟩:∃ O,O=Nc (cons X):=⟨_,rfl⟩;have HPO:Hid (∀ e w',((O=none∧e=.returned (.tuple #[.slice none 0 0,.int .i64 12])∧Ai w w')∨∃ r v fs,O=some r∧e=.returned (.tuple #[v,.int .i64 0])∧Kw w w' v fs∧cons fs=r)→uT (cons X) w e w'):=fun e w' h=>by rw [hO] at h;exact h
 have HE:Hid (EF (cons []) (cons (X.drop 0))=O):=by show _=_;rw [hO];(try rfl)
 clear hO hx;have H:Hid (SL No w w [Ce 97 11 (.slice none 0 0) 0 (([]:List Br).flatMap AY.cells)]):=Aa ((SL.start No w).Dw 97 11);have QU:Hid (∀ f ∈ ([]:List Br),f.ok w):=fun f hf=>by cases hf
 go_enter func68,ntmps68;go_wp2_with fail;go_loopg [4,12] N (fun gg s4 s12 wr=>∃ (k q d:Nat) (B:Option Addr) (out:List Br),gg=N - k∧k≤N∧q≤k∧s4=.slice B q d∧s12=.int .i64 k∧Hid (out.length=q)∧Hid (EF (cons out) (cons (X.drop k))=O)∧Hid (∀ f ∈ out,f.ok w)∧Hid (SL No w wr [Ce 97 11 (.slice B q d) q (out.flatMap AY.cells)]));case atStart=>exact ⟨0,0,0,none,[],rfl,Xl,Xl,rfl,rfl,Aa rfl,HE,QU,H⟩
 case round=>
  clear H HE QU;obtain ⟨k,q,d,B,out,BR,hk,hqk,rfl,rfl,HQ,HE,QU,H⟩:=hrel;have Cs:=Aa BR;clear BR;by_cases hlt:k<N
  ·obtain ⟨fb,fo,f,hA,hfb,lU,hfok,_,hfr,_⟩:=(HX.mono H.to).Z7 hlt;simp only at hA;subst hA;have QA:Hid (f.ok w):=HX.all f (CU lU);have HR:=Aa hfr;have nQ:=Aa (jD lU (cons out));have i0:(0:Int)≤k:=by omega
   have i1:(k:Int)<N:=by omega
   clear lU hfok hfr;go_upto_region 5 with (first|((with_reducible refine OP 15 ?_);(refine Af rfl Bz (.tmp 14) rfl fb (fo+k * 11) rfl f.cs rfl HR.Ab ?_))|((with_reducible refine OS 6 ?_);(refine DX Bz (f.cs) (EA f) ?_;replace H:=Aa (H.alloc (f.cs) 97);(try simp only [LS] at H))));(try simp only [Act.put,LP]);clear hfb HR;generalize wr.heap.size=x at *;generalize World.alloc _ _=w1 at *;by_cases hq0:q=0
   ·have HQ0:=HQ.Ab;rw [hq0] at HQ0;have hout:out=[]:=LD HQ0;have HE2:Hid (EF (cons (out++[f])) (cons (X.drop (k+1)))=O):=by
     show _=_;have h:=nQ.Ab;rw [HE.Ab,hout,show cons ([]:List Br)=[] from rfl,gI] at h;rw [h,hout]
     rfl
    clear HE nQ;have e1:((q:Int)==0)=true:=by rw [hq0];(try rfl)
    clear HQ0 hq0 hout;go_upto_region 6 with fail;refine Am ?_;(try simp only [Act.put,LP]);repeat (go_big_quiet_step (fail))
    refine CS ?_;rintro w5 ⟨⟨_,Gd⟩,rfl⟩;(try dsimp only);replace H:=Aa (H.Av Gd);skip;go_upto_region 12 with (first|((with_reducible refine OP 31 ?_);(refine Bf Bz (H.blk 1 rfl) ?_))|((with_reducible refine OP 32 ?_);(refine AP rfl EI (.tmp 31) rfl (f.cs) rfl (FL f) Xl ?_;replace H:=Aa (H.Co ((Ai.refl _).alloc _) (Nz _ 97 (f.cs) 11 (FL f)));(try simp only [LS] at H)))|((with_reducible refine OP 33 ?_);(refine Az rfl (.tmp 30) (.tmp 32) _ rfl EI 0 (Bj _) _ _ _ rfl (H.row 0 rfl) _ 1 1 f.cs.toList rfl (Rd.BC (H.row 2 rfl)) (JG f) Za4 Xl ?_;intro vq wq AJ Aq AQ;replace H:=Aa (H.setRow 0 rfl Aq AJ AQ);(try simp only [LS] at H);clear AJ Aq AQ;obtain ⟨B2,d2,rfl,_⟩:=Ao (H.row 0 rfl))));exact Zm0
   ·obtain ⟨m,rfl⟩:∃ m,q=m+1:=⟨q - 1,Xl⟩;obtain ⟨g,rfl⟩:=qF (H.row 0 rfl) Xl;have hl:out.length=m+1:=HQ.Ab;obtain ⟨p,hp⟩:∃ p,out[m]?=some p:=⟨_,Fp Xl⟩;have fT:=Aa hp;have HL:=Aa hl;have Yy:Hid (p.ok w):=QU p (CU hp);have hprg:=Gy (α:=Br) (H.row 0 rfl) hp;have jT:=Aa hprg;have e1:((m:Int)+1==0)=false:=by simp<;>omega
    have e2:(m:Int)+1 - 1=m:=by omega
    have m0:(0:Int)≤m:=by omega
    have e3:IntKind.i64.wrap (m:Int)=m:=IB _ Xl;have m1:(m:Int)<(m:Int)+1:=by omega
    have HC:=Aa (fun w' (hb:Ai w w')=>Qq p f w' ⟨Yy.ks.mono hb,Yy.ag⟩ ⟨QA.ks.mono hb,QA.ag⟩);have uR:=Aa H.to;have HXB:=H.blk 1 rfl;clear hp hl hprg;go_upto_region 6 with fail;refine Am ?_;(try simp only [Act.put,LP]);repeat (first
     |((with_reducible show wpQuiet _ _ _ _ (⟨some 25,_,_,_,_,_⟩::_) _);refine Ah (by first|rfl|go_simp) Bz (.tmp 24) rfl g (m * 11) rfl p.cs rfl jT.2 jT.1 ?_;simp only [Act.put,LP])
     |((with_reducible show wpQuiet _ _ _ _ (⟨some 26,_,_,_,_,_⟩::_) _);refine Ah (by first|rfl|go_simp) Bz (.tmp 6) rfl x (0) rfl f.cs rfl HXB.lt HXB.range ?_;simp only [Act.put,LP])
     |go_big_quiet_step (((go_at_call 108;rename_i u;exact AB (HC _ (uR.trans u.Av))))))
    refine CS ?_;rintro w5 ⟨⟨_,Gd⟩,rfl⟩;(try dsimp only);replace H:=Aa (H.Av Gd);skip;by_cases hcmp:Dn p.ks.l f.ks.l=0
    ·have d1:(Dn p.ks.l f.ks.l !=0)=false:=by simp [hcmp]
     have HCM:=Aa hcmp;obtain ⟨J,hJ⟩:∃ J,J=p.ag.join f.ag:=⟨_,rfl⟩;have HJ:=Aa (fun w'=>Ah6 p.ag f.ag w' Yy.ag QA.ag);have nE:=l8 Yy.ag QA.ag;have HOV:Hid (J.2=false→O=none):=fun h=>by
      rw [hJ] at h;have h1:=nQ.Ab;rw [HE.Ab,Zw HL fT hcmp h] at h1;exact h1
     have KC:Hid (J.2=true→EF (cons (out.set m ⟨p.ks,J.1⟩)) (cons (X.drop (k+1)))=O):=fun h=>by
      have h1:=nQ.Ab;rw [hJ] at h ⊢;rw [HE.Ab,Zx HL fT hcmp h] at h1;exact h1.symm
     rw [←hJ] at HJ nE;clear hJ hcmp nQ HE HC uR HXB jT;obtain ⟨u,ok⟩:=J;simp only at HJ nE HOV KC;have HUok:=Aa nE;clear nE;go_upto_region 8 with fail;go_cut [8,9] (fun s8 s9 wx=>∃ z:Nat,s8=.pointer (some ⟨z,0,none⟩)∧s9=.bool ok∧Hid (SL No w wx [Ce 97 11 (.slice (some ⟨g,0,none⟩) (m+1) d) (m+1) (out.flatMap AY.cells),Aw x 97 f.cs,Aw z 95 u.cs]));case first=>
      refine Eo (S:=fun _=>True) Za0 trivial fun hHeld=>?_;replace H:=Aa (H.drew);refine Bd Ml ?_;refine Bd KF ?_;refine Bd MN ?_;refine Bd Ky ?_;refine Bd LJ ?_;refine Bd MI ?_;refine EY (rs:=[5,7,12]) Za0 uH ?_;refine (AllReadyH.cons KW (fun KK Ad=>?_) (AllReadyH.cons Lj (fun KK Ad=>?_) (AllReadyH.cons Hw (fun KK Ad=>?_) AllReadyH.nil)))
      ·refine Cw rfl Dz (.tmp 39) (by first|rfl|go_simp) g (m * 11+1) (by first|rfl|go_simp) p.ag.cs (FU (H.row 0 rfl) fT.Ab) rfl ?_;refine Aj Ad trivial fun hHeld=>?_;clear Ad KK;refine Oh Lj Hw (fun KK Ad=>?_) fun KK Ad=>?_
       ·refine Cw rfl Dz (.tmp 41) (by first|rfl|go_simp) _ 1 (by first|rfl|go_simp) f.ag.cs (by intro jj uu hu;have:=(H.blk 1 rfl).range (1+jj) uu (by show (f.ks.v::f.ag.cs.toList)[1+jj]?=_;rw [Oo,FR];exact hu);rwa [FI] at this) rfl ?_;exact Zl4
       ·go_simp;replace H:=Aa (H.alloc Ag.zero.cs 95);(try simp only [LS] at H);exact Zn9
      ·refine Cw rfl Dz (.tmp 41) (by first|rfl|go_simp) _ 1 (by first|rfl|go_simp) f.ag.cs (by intro jj uu hu;have:=(H.blk 1 rfl).range (1+jj) uu (by show (f.ks.v::f.ag.cs.toList)[1+jj]?=_;rw [Oo,FR];exact hu);rwa [FI] at this) rfl ?_;refine Aj Ad trivial fun hHeld=>?_;clear Ad KK;refine Oh KW Hw (fun KK Ad=>?_) fun KK Ad=>?_
       ·refine Cw rfl Dz (.tmp 39) (by first|rfl|go_simp) g (m * 11+1) (by first|rfl|go_simp) p.ag.cs (FU (H.row 0 rfl) fT.Ab) rfl ?_;exact Zl4
       ·go_simp;replace H:=Aa (H.alloc Ag.zero.cs 95);(try simp only [LS] at H);exact Zq4
      ·go_simp;replace H:=Aa (H.alloc Ag.zero.cs 95);(try simp only [LS] at H);refine Aj Ad trivial fun hHeld=>?_;clear Ad KK;refine Oh KW Lj (fun KK Ad=>?_) fun KK Ad=>?_
       ·refine Cw rfl Dz (.tmp 39) (by first|rfl|go_simp) g (m * 11+1) (by first|rfl|go_simp) p.ag.cs (FU (H.row 0 rfl) fT.Ab) rfl ?_;exact Zn9
       ·refine Cw rfl Dz (.tmp 41) (by first|rfl|go_simp) _ 1 (by first|rfl|go_simp) f.ag.cs (by intro jj uu hu;have:=(H.blk 1 rfl).range (1+jj) uu (by show (f.ks.v::f.ag.cs.toList)[1+jj]?=_;rw [Oo,FR];exact hu);rwa [FI] at this) rfl ?_;exact Zq4
     case rest=>
      clear H;obtain ⟨z,rfl,rfl,H⟩:=hcut;cases ok with
      |false=>
       have HO:=Aa (HOV rfl);go_wp2_with fail;go_ret2;exact HPO _ _ (.inl ⟨HO.Ab,rfl,H.to⟩)
      |true=>
       have HE2:=Aa (KC rfl);clear KC HOV;go_upto_region 12 with (first|((with_reducible refine OP 51 ?_);(refine Bf Dz (H.blk 2 rfl) ?_))|((with_reducible refine OS 53 ?_);refine Zo rfl Dz (.tmp 53) (.tmp 51) rfl m rfl (H.row 0 rfl) fT u rfl ?_;intro wq AJ Aq;replace H:=Aa (H.setRow 0 rfl Aq AJ (.inl rfl));(try simp only [LS] at H);clear AJ Aq));(try simp only [Act.put,LP]);replace H:=Aa (H.Fg [0] Za1 uH);(try simp only [LS] at H);have vG:Hid ((out.set m ⟨p.ks,u⟩).length=m+1):=by show _=_;rw [Rn,HL.Ab]
       have Tq:Hid (∀ z ∈ out.set m ⟨p.ks,u⟩,z.ok w):=fun z hz=>by
        rcases Zi hz with h|rfl
        ·exact QU z h
        ·exact ⟨Yy.ks,HUok.Ab⟩
       clear QU;go_wp2_with fail;go_roundg (N - (k+1));case rel=>exact ⟨k+1,m+1,d,some ⟨g,0,none⟩,out.set m ⟨p.ks,u⟩,rfl,Xl,Xl,rfl,by go_num,vG,HE2,Tq,H⟩
       case measure=>rw [Cs.Ab];omega
    ·have d1:(Dn p.ks.l f.ks.l !=0)=true:=by simp [hcmp]
     have HE2:Hid (EF (cons (out++[f])) (cons (X.drop (k+1)))=O):=by
      show _=_;have h:=nQ.Ab;rw [HE.Ab,gJ HL fT hcmp] at h;exact h.symm
     clear HE nQ hcmp HC uR HXB jT e2 m0 m1 e1 HL fT;go_upto_region 12 with (first|((with_reducible refine OP 31 ?_);(refine Bf Bz (H.blk 1 rfl) ?_))|((with_reducible refine OP 32 ?_);(refine AP rfl EI (.tmp 31) rfl (f.cs) rfl (FL f) Xl ?_;replace H:=Aa (H.Co ((Ai.refl _).alloc _) (Nz _ 97 (f.cs) 11 (FL f)));(try simp only [LS] at H)))|((with_reducible refine OP 33 ?_);(refine Az rfl (.tmp 30) (.tmp 32) _ rfl EI 0 (Bj _) _ _ _ rfl (H.row 0 rfl) _ 1 1 f.cs.toList rfl (Rd.BC (H.row 2 rfl)) (JG f) Za4 Xl ?_;intro vq wq AJ Aq AQ;replace H:=Aa (H.setRow 0 rfl Aq AJ AQ);(try simp only [LS] at H);clear AJ Aq AQ;obtain ⟨B2,d2,rfl,_⟩:=Ao (H.row 0 rfl))));exact Zl9
  ·obtain rfl:k=N:=by omega
   have HO:Hid (O=some (cons out)):=by
    show _=_;have h:=HE.Ab;rw [EN Za9] at h;exact h.symm
   have HX0:=Aa (KV ⟨B,q,d,out⟩ wr (SG (x:=⟨B,q,d,out⟩) (H.row 0 rfl) (fun f hf=>⟨(QU f hf).ks.mono H.to,(QU f hf).ag⟩) (by show q * 104≤_;omega)) (by show q≤_;omega));clear HE;go_wp2_with fail;refine HX0.mono ?_;rintro e w9 ⟨v,fs,rfl,hG,hc⟩;have HRS:=Aa (HPO (.returned (.tuple #[v,.int .i64 0])) w9 (.inr ⟨_,v,fs,HO.Ab,rfl,hG.from_ H.to,hc⟩));clear hG hc HX0;go_wp2;go_ret2;exact HRS.Ab
def jQ (l:List CZ) (w:World) (e:Ending) (w':World):Prop:=
 (Nc l=none∧e=.returned (.tuple #[.slice none 0 0,.bool false])∧Ai w w')∨∃ x:Row Br,Nc l=some (cons x.l)∧e=.returned (.tuple #[.slice x.A x.n x.c,.bool true])∧x.ok w'∧Ai w w'
theorem Zs6 {p:Prop} (h:p:=by refine BG Jc fun KK Ad=>?_;refine DV rfl Dz (.tmp 8) (.tmp 52) rfl _ (by first|rfl|go_simp) (H.blk 2 rfl) rfl u.cs rfl (by first|rfl|go_simp) (Iq u) ?_;exact Zi1):p:=h
theorem Zg1 {p:Prop} (h:p:=by refine Aj Ad trivial fun hHeld=>?_;clear Ad KK;refine BG Mk fun KK Ad=>?_;go_simp;refine (HJ _).mono ?_;rintro e' w6 ⟨rfl,hb6⟩;replace H:=Aa (H.Av hb6);clear hb6;refine Aj Ad trivial fun hHeld=>?_;clear Ad KK;refine Bd MH ?_;refine Bd FO ?_;refine Bd Ga ?_;exact Zs6):p:=h
theorem Zk0 {p:Prop} (h:p:=by refine CS ?_;rintro w5 ⟨⟨_,Gd⟩,rfl⟩;(try dsimp only);replace H:=Aa (H.Av Gd);skip;clear uR HXB jT e2 m0 m1 e1 HL fT MW QV;go_upto_region 12 with (first|((with_reducible refine OP 39 ?_);(refine Bf Bz (H.blk 1 rfl) ?_))|((with_reducible refine OP 40 ?_);(refine AP rfl EI (.tmp 39) rfl (f.cs) rfl (FL f) Xl ?_;replace H:=Aa (H.Co ((Ai.refl _).alloc _) (Nz _ 97 (f.cs) 11 (FL f)));(try simp only [LS] at H)))|((with_reducible refine OP 41 ?_);(refine Az rfl (.tmp 38) (.tmp 40) _ rfl EI 0 (Bj _) _ _ _ rfl (H.row 0 rfl) _ 1 1 f.cs.toList rfl (Rd.BC (H.row 2 rfl)) (JG f) Za4 Xl ?_;intro vq wq AJ Aq AQ;replace H:=Aa (H.setRow 0 rfl Aq AJ AQ);(try simp only [LS] at H);clear AJ Aq AQ;obtain ⟨B2,d2,rfl,_⟩:=Ao (H.row 0 rfl))));exact Zl9):p:=h
theorem Zl5 {p:Prop} (h:p:=by
 refine Aj Ad trivial fun hHeld=>?_;clear Ad KK;refine Oh Mk Hw (fun KK Ad=>?_) fun KK Ad=>?_
 ·go_simp;refine (HJ _).mono ?_;rintro e' w6 ⟨rfl,hb6⟩;replace H:=Aa (H.Av hb6);clear hb6;refine Aj Ad trivial fun hHeld=>?_;clear Ad KK;refine Bd MH ?_;refine Bd FO ?_;refine Bd Ga ?_;refine BG Hw fun KK Ad=>?_;go_simp;replace H:=Aa (H.alloc Ag.zero.cs 95);(try simp only [LS] at H);refine Aj Ad trivial fun hHeld=>?_;clear Ad KK;exact Zs6
 ·go_simp;replace H:=Aa (H.alloc Ag.zero.cs 95);(try simp only [LS] at H);exact Zg1
):p:=h
theorem Zo0 {p:Prop} (h:p:=by refine Aj Ad trivial fun hHeld=>?_;clear Ad KK;refine BG Lj fun KK Ad=>?_;refine Cw rfl Dz (.tmp 49) (by first|rfl|go_simp) _ 1 (by first|rfl|go_simp) f.ag.cs (by intro jj uu hu;have:=(H.blk 1 rfl).range (1+jj) uu (by show (f.ks.v::f.ag.cs.toList)[1+jj]?=_;rw [Oo,FR];exact hu);rwa [FI] at this) rfl ?_;exact Zg1):p:=h
theorem Zq5 {p:Prop} (h:p:=by refine Aj Ad trivial fun hHeld=>?_;clear Ad KK;refine BG KW fun KK Ad=>?_;refine Cw rfl Dz (.tmp 47) (by first|rfl|go_simp) g (m * 11+1) (by first|rfl|go_simp) p.ag.cs (FU (H.row 0 rfl) fT.Ab) rfl ?_;exact Zg1):p:=h
theorem wP (w:World) (x:Row Br) (hx:x.ok w) (hn:x.n≤1000000):
 Calls prog 78 #[.slice x.A x.n x.c] w (jQ (cons x.l) w):=by
 have RJ:=N8;have HX:=Aa hx;have hlen:Hid (x.l.length=x.n):=hx.len;obtain ⟨A0,N,c0,X⟩:=x;simp only at *;obtain ⟨O,hO⟩:∃ O,O=Nc (cons X):=⟨_,rfl⟩;have HPO:Hid (∀ e w',((O=none∧e=.returned (.tuple #[.slice none 0 0,.bool false])∧Ai w w')∨∃ x:Row Br,O=some (cons x.l)∧e=.returned (.tuple #[.slice x.A x.n x.c,.bool true])∧x.ok w'∧Ai w w')→jQ (cons X) w e w'):=fun e w' h=>by rw [hO] at h;exact h
 have HE:Hid (EF (cons []) (cons (X.drop 0))=O):=by show _=_;rw [hO];(try rfl)
 clear hO hx;have H:Hid (SL No w w [Ce 97 11 (.slice none 0 0) 0 (([]:List Br).flatMap AY.cells)]):=Aa ((SL.start No w).Dw 97 11);have QU:Hid (∀ f ∈ ([]:List Br),f.ok w):=fun f hf=>by cases hf
 go_enter func78,ntmps78;go_wp2_with fail;go_loopg [4,12] N (fun gg s4 s12 wr=>∃ (k q d:Nat) (B:Option Addr) (out:List Br),gg=N - k∧k≤N∧q≤k∧s4=.slice B q d∧s12=.int .i64 k∧Hid (out.length=q)∧Hid (EF (cons out) (cons (X.drop k))=O)∧Hid (∀ f ∈ out,f.ok w)∧Hid (SL No w wr [Ce 97 11 (.slice B q d) q (out.flatMap AY.cells)]));case atStart=>exact ⟨0,0,0,none,[],rfl,Xl,Xl,rfl,rfl,Aa rfl,HE,QU,H⟩
 case round=>
  clear H HE QU;obtain ⟨k,q,d,B,out,BR,hk,hqk,rfl,rfl,HQ,HE,QU,H⟩:=hrel;have Cs:=Aa BR;clear BR;by_cases hlt:k<N
  ·obtain ⟨fb,fo,f,hA,hfb,lU,hfok,_,hfr,_⟩:=(HX.mono H.to).Z7 hlt;simp only at hA;subst hA;have QA:Hid (f.ok w):=HX.all f (CU lU);have HR:=Aa hfr;have nQ:=Aa (jD lU (cons out));have i0:(0:Int)≤k:=by omega
   have i1:(k:Int)<N:=by omega
   clear lU hfok hfr;go_upto_region 5 with (first|((with_reducible refine OP 15 ?_);(refine Af rfl Bz (.tmp 14) rfl fb (fo+k * 11) rfl f.cs rfl HR.Ab ?_))|((with_reducible refine OS 6 ?_);(refine DX Bz (f.cs) (EA f) ?_;replace H:=Aa (H.alloc (f.cs) 97);(try simp only [LS] at H))));(try simp only [Act.put,LP]);clear hfb HR;generalize wr.heap.size=x at *;generalize World.alloc _ _=w1 at *;by_cases hq0:q=0
   ·have HQ0:=HQ.Ab;rw [hq0] at HQ0;have hout:out=[]:=LD HQ0;have HE2:Hid (EF (cons (out++[f])) (cons (X.drop (k+1)))=O):=by
     show _=_;have h:=nQ.Ab;rw [HE.Ab,hout,show cons ([]:List Br)=[] from rfl,gI] at h;rw [h,hout]
     rfl
    clear HE nQ;have e1:((q:Int)==0)=true:=by rw [hq0];(try rfl)
    clear HQ0 hq0 hout;go_upto_region 6 with fail;refine Am ?_;(try simp only [Act.put,LP]);repeat (go_big_quiet_step (fail))
    refine CS ?_;rintro w5 ⟨⟨_,Gd⟩,rfl⟩;(try dsimp only);replace H:=Aa (H.Av Gd);skip;go_upto_region 12 with (first|((with_reducible refine OP 39 ?_);(refine Bf Bz (H.blk 1 rfl) ?_))|((with_reducible refine OP 40 ?_);(refine AP rfl EI (.tmp 39) rfl (f.cs) rfl (FL f) Xl ?_;replace H:=Aa (H.Co ((Ai.refl _).alloc _) (Nz _ 97 (f.cs) 11 (FL f)));(try simp only [LS] at H)))|((with_reducible refine OP 41 ?_);(refine Az rfl (.tmp 38) (.tmp 40) _ rfl EI 0 (Bj _) _ _ _ rfl (H.row 0 rfl) _ 1 1 f.cs.toList rfl (Rd.BC (H.row 2 rfl)) (JG f) Za4 Xl ?_;intro vq wq AJ Aq AQ;replace H:=Aa (H.setRow 0 rfl Aq AJ AQ);(try simp only [LS] at H);clear AJ Aq AQ;obtain ⟨B2,d2,rfl,_⟩:=Ao (H.row 0 rfl))));exact Zm0
   ·obtain ⟨m,rfl⟩:∃ m,q=m+1:=⟨q - 1,Xl⟩;obtain ⟨g,rfl⟩:=qF (H.row 0 rfl) Xl;have hl:out.length=m+1:=HQ.Ab;obtain ⟨p,hp⟩:∃ p,out[m]?=some p:=⟨_,Fp Xl⟩;have fT:=Aa hp;have HL:=Aa hl;have Yy:Hid (p.ok w):=QU p (CU hp);have hprg:=Gy (α:=Br) (H.row 0 rfl) hp;have jT:=Aa hprg;have e1:((m:Int)+1==0)=false:=by simp<;>omega
    have e2:(m:Int)+1 - 1=m:=by omega
    have m0:(0:Int)≤m:=by omega
    have e3:IntKind.i64.wrap (m:Int)=m:=IB _ Xl;have m1:(m:Int)<(m:Int)+1:=by omega
    have HC:=Aa (fun w' (hb:Ai w w')=>aV p f w' ⟨Yy.ks.mono hb,Yy.ag⟩ ⟨QA.ks.mono hb,QA.ag⟩);have HD:=Aa (fun w' (hb:Ai w w')=>aV f p w' ⟨QA.ks.mono hb,QA.ag⟩ ⟨Yy.ks.mono hb,Yy.ag⟩);have uR:=Aa H.to;have HXB:=H.blk 1 rfl;clear hp hl hprg;have hr:=Ia p.ks.l f.ks.l;have hsw:=Gb p.ks.l f.ks.l;by_cases hcmp:Dn p.ks.l f.ks.l=0
    ·have l1:Fh p.ks.l f.ks.l=false:=by unfold Fh;rw [hcmp];(try rfl)
     have l2:Fh f.ks.l p.ks.l=false:=by unfold Fh;rw [hsw,hcmp];(try rfl)
     have MW:=Aa HC.Ab;have QV:=Aa HD.Ab;rw [l1] at MW;rw [l2] at QV;have HCM:=Aa hcmp;clear l1 l2 HC HD hr hsw;go_upto_region 6 with fail;refine Am ?_;(try simp only [Act.put,LP]);repeat (first
      |((with_reducible show wpQuiet _ _ _ _ (⟨some 25,_,_,_,_,_⟩::_) _);refine Ah (by first|rfl|go_simp) Bz (.tmp 24) rfl g (m * 11) rfl p.cs rfl jT.2 jT.1 ?_;simp only [Act.put,LP])
      |((with_reducible show wpQuiet _ _ _ _ (⟨some 26,_,_,_,_,_⟩::_) _);refine Ah (by first|rfl|go_simp) Bz (.tmp 6) rfl x (0) rfl f.cs rfl HXB.lt HXB.range ?_;simp only [Act.put,LP])
      |((with_reducible show wpQuiet _ _ _ _ (⟨some 30,_,_,_,_,_⟩::_) _);refine Ah (by first|rfl|go_simp) Bz (.tmp 6) rfl x (0) rfl f.cs rfl HXB.lt HXB.range ?_;simp only [Act.put,LP])
      |((with_reducible show wpQuiet _ _ _ _ (⟨some 35,_,_,_,_,_⟩::_) _);refine Ah (by first|rfl|go_simp) Bz (.tmp 34) rfl g (m * 11) rfl p.cs rfl jT.2 jT.1 ?_;simp only [Act.put,LP])
      |((with_reducible show wpQuiet _ _ _ _ (⟨some 27,_,_,_,_,_⟩::_) _);go_big_quiet_step ((go_at_call 39;rename_i u;exact AB (MW _ (uR.trans u.Av)))))
      |((with_reducible show wpQuiet _ _ _ _ (⟨some 36,_,_,_,_,_⟩::_) _);go_big_quiet_step ((go_at_call 39;rename_i u;exact AB (QV _ (uR.trans u.Av)))))
      |go_big_quiet_step (fail))
     refine CS ?_;rintro w5 ⟨⟨_,Gd⟩,rfl⟩;(try dsimp only);replace H:=Aa (H.Av Gd);skip;clear MW QV;obtain ⟨J,hJ⟩:∃ J,J=p.ag.join f.ag:=⟨_,rfl⟩;have HJ:=Aa (fun w'=>RJ p.ag f.ag w' Yy.ag QA.ag);have nE:=l8 Yy.ag QA.ag;have HOV:Hid (J.2=false→O=none):=fun h=>by
      rw [hJ] at h;have h1:=nQ.Ab;rw [HE.Ab,Zw HL fT hcmp h] at h1;exact h1
     have KC:Hid (J.2=true→EF (cons (out.set m ⟨f.ks,J.1⟩)) (cons (X.drop (k+1)))=O):=fun h=>by
      have h1:=nQ.Ab;rw [hJ] at h ⊢;rw [HE.Ab,Zx HL fT hcmp h] at h1;have h2:cons (out.set m ⟨f.ks,(p.ag.join f.ag).1⟩)=cons (out.set m ⟨p.ks,(p.ag.join f.ag).1⟩):=by
       simp only [cons,List.map_set];show (out.map Br.Ac).set m (f.ks.l,_)=(out.map Br.Ac).set m (p.ks.l,_);rw [Qu hcmp]
      rw [h2];exact h1.symm
     rw [←hJ] at HJ nE;clear hJ hcmp nQ HE uR HXB jT;obtain ⟨u,ok⟩:=J;simp only at HJ nE HOV KC;have HUok:=Aa nE;clear nE;go_upto_region 8 with fail;go_cut [8,9] (fun s8 s9 wx=>∃ z:Nat,s8=.pointer (some ⟨z,0,none⟩)∧s9=.bool ok∧Hid (SL No w wx [Ce 97 11 (.slice (some ⟨g,0,none⟩) (m+1) d) (m+1) (out.flatMap AY.cells),Aw x 97 f.cs,Aw z 95 u.cs]));case first=>
      refine Eo (S:=fun _=>True) Za0 trivial fun hHeld=>?_;replace H:=Aa (H.drew);refine Bd Ml ?_;refine Bd KF ?_;refine Bd MN ?_;refine Bd Ky ?_;refine Bd LJ ?_;refine Bd MI ?_;refine EY (rs:=[5,7,12]) Za0 uH ?_;refine (AllReadyH.cons KW (fun KK Ad=>?_) (AllReadyH.cons Lj (fun KK Ad=>?_) (AllReadyH.cons Hw (fun KK Ad=>?_) AllReadyH.nil)))
      ·refine Cw rfl Dz (.tmp 47) (by first|rfl|go_simp) g (m * 11+1) (by first|rfl|go_simp) p.ag.cs (FU (H.row 0 rfl) fT.Ab) rfl ?_;refine Aj Ad trivial fun hHeld=>?_;clear Ad KK;refine Oh Lj Hw (fun KK Ad=>?_) fun KK Ad=>?_
       ·refine Cw rfl Dz (.tmp 49) (by first|rfl|go_simp) _ 1 (by first|rfl|go_simp) f.ag.cs (by intro jj uu hu;have:=(H.blk 1 rfl).range (1+jj) uu (by show (f.ks.v::f.ag.cs.toList)[1+jj]?=_;rw [Oo,FR];exact hu);rwa [FI] at this) rfl ?_;exact Zl5
       ·go_simp;replace H:=Aa (H.alloc Ag.zero.cs 95);(try simp only [LS] at H);exact Zo0
      ·refine Cw rfl Dz (.tmp 49) (by first|rfl|go_simp) _ 1 (by first|rfl|go_simp) f.ag.cs (by intro jj uu hu;have:=(H.blk 1 rfl).range (1+jj) uu (by show (f.ks.v::f.ag.cs.toList)[1+jj]?=_;rw [Oo,FR];exact hu);rwa [FI] at this) rfl ?_;refine Aj Ad trivial fun hHeld=>?_;clear Ad KK;refine Oh KW Hw (fun KK Ad=>?_) fun KK Ad=>?_
       ·refine Cw rfl Dz (.tmp 47) (by first|rfl|go_simp) g (m * 11+1) (by first|rfl|go_simp) p.ag.cs (FU (H.row 0 rfl) fT.Ab) rfl ?_;exact Zl5
       ·go_simp;replace H:=Aa (H.alloc Ag.zero.cs 95);(try simp only [LS] at H);exact Zq5
      ·go_simp;replace H:=Aa (H.alloc Ag.zero.cs 95);(try simp only [LS] at H);refine Aj Ad trivial fun hHeld=>?_;clear Ad KK;refine Oh KW Lj (fun KK Ad=>?_) fun KK Ad=>?_
       ·refine Cw rfl Dz (.tmp 47) (by first|rfl|go_simp) g (m * 11+1) (by first|rfl|go_simp) p.ag.cs (FU (H.row 0 rfl) fT.Ab) rfl ?_;exact Zo0
       ·refine Cw rfl Dz (.tmp 49) (by first|rfl|go_simp) _ 1 (by first|rfl|go_simp) f.ag.cs (by intro jj uu hu;have:=(H.blk 1 rfl).range (1+jj) uu (by show (f.ks.v::f.ag.cs.toList)[1+jj]?=_;rw [Oo,FR];exact hu);rwa [FI] at this) rfl ?_;exact Zq5
     case rest=>
      clear H;obtain ⟨z,rfl,rfl,H⟩:=hcut;cases ok with
      |false=>
       have HO:=Aa (HOV rfl);go_wp2_with fail;go_ret2;exact HPO _ _ (.inl ⟨HO.Ab,rfl,H.to⟩)
      |true=>
       have HE2:=Aa (KC rfl);clear KC HOV;have hbd:∀ w:World,(Instr.build 97 #[(0,.slice f.ks.A f.ks.n f.ks.c),(1,.agg u.cs)]).run prog w=.ok (.agg (Br.mk f.ks u).cs) w:=fun _=>by kernel_rfl
       have cf0:=(H.blk 1 rfl).cell 0
       change _=some (Value.slice f.ks.A f.ks.n f.ks.c) at cf0
       go_upto_region 12 with (first|((with_reducible refine OP 61 ?_);(refine Bf Dz (H.blk 2 rfl) ?_))|((with_reducible refine OP 62 ?_);refine Ro rfl (.tmp 60) (.tmp 61) rfl rfl rfl hbd ?_)|((with_reducible refine OS 63 ?_);refine JA rfl Bz (.tmp 63) (.tmp 62) rfl rfl m rfl (H.row 0 rfl) Xl ⟨f.ks,u⟩ (Br.mk f.ks u).cs rfl rfl (EA _) ?_;intro wq AJ Aq;replace H:=Aa (H.setRow 0 rfl Aq AJ (.inl rfl));(try simp only [LS] at H);clear AJ Aq));(try simp only [Act.put,LP]);clear hbd cf0;replace H:=Aa (H.Fg [0] Za1 uH);(try simp only [LS] at H);have vG:Hid ((out.set m ⟨f.ks,u⟩).length=m+1):=by show _=_;rw [Rn,HL.Ab]
       have Tq:Hid (∀ z ∈ out.set m ⟨f.ks,u⟩,z.ok w):=fun z hz=>by
        rcases Zi hz with h|rfl
        ·exact QU z h
        ·exact ⟨QA.ks,HUok.Ab⟩
       clear QU;go_wp2_with fail;go_roundg (N - (k+1));case rel=>exact ⟨k+1,m+1,d,some ⟨g,0,none⟩,out.set m ⟨f.ks,u⟩,rfl,Xl,Xl,rfl,by go_num,vG,HE2,Tq,H⟩
       case measure=>rw [Cs.Ab];omega
    ·have HE2:Hid (EF (cons (out++[f])) (cons (X.drop (k+1)))=O):=by
      show _=_;have h:=nQ.Ab;rw [HE.Ab,gJ HL fT hcmp] at h;exact h.symm
     clear HE nQ;by_cases h1:Dn p.ks.l f.ks.l=-1
     ·have l1:Fh p.ks.l f.ks.l=true:=by unfold Fh;rw [h1];(try rfl)
      have MW:=Aa HC.Ab;have QV:=Aa HC.Ab;rw [l1] at MW QV;clear l1 HC HD hr hsw h1 hcmp;go_upto_region 6 with fail;refine Am ?_;(try simp only [Act.put,LP]);repeat (first
       |((with_reducible show wpQuiet _ _ _ _ (⟨some 25,_,_,_,_,_⟩::_) _);refine Ah (by first|rfl|go_simp) Bz (.tmp 24) rfl g (m * 11) rfl p.cs rfl jT.2 jT.1 ?_;simp only [Act.put,LP])
       |((with_reducible show wpQuiet _ _ _ _ (⟨some 26,_,_,_,_,_⟩::_) _);refine Ah (by first|rfl|go_simp) Bz (.tmp 6) rfl x (0) rfl f.cs rfl HXB.lt HXB.range ?_;simp only [Act.put,LP])
       |((with_reducible show wpQuiet _ _ _ _ (⟨some 27,_,_,_,_,_⟩::_) _);go_big_quiet_step ((go_at_call 39;rename_i u;exact AB (MW _ (uR.trans u.Av)))))
       |go_big_quiet_step (fail))
      exact Zk0
     ·have l1:Fh p.ks.l f.ks.l=false:=by
       unfold Fh;exact Xt.2 h1
      have l2:Fh f.ks.l p.ks.l=true:=by
       unfold Fh;rw [hsw];have:Dn p.ks.l f.ks.l=1:=by omega
       rw [this]
       rfl
      have MW:=Aa HC.Ab;have QV:=Aa HD.Ab;rw [l1] at MW;rw [l2] at QV;clear l1 l2 HC HD hr hsw h1 hcmp;go_upto_region 6 with fail;refine Am ?_;(try simp only [Act.put,LP]);repeat (first
       |((with_reducible show wpQuiet _ _ _ _ (⟨some 25,_,_,_,_,_⟩::_) _);refine Ah (by first|rfl|go_simp) Bz (.tmp 24) rfl g (m * 11) rfl p.cs rfl jT.2 jT.1 ?_;simp only [Act.put,LP])
       |((with_reducible show wpQuiet _ _ _ _ (⟨some 26,_,_,_,_,_⟩::_) _);refine Ah (by first|rfl|go_simp) Bz (.tmp 6) rfl x (0) rfl f.cs rfl HXB.lt HXB.range ?_;simp only [Act.put,LP])
       |((with_reducible show wpQuiet _ _ _ _ (⟨some 30,_,_,_,_,_⟩::_) _);refine Ah (by first|rfl|go_simp) Bz (.tmp 6) rfl x (0) rfl f.cs rfl HXB.lt HXB.range ?_;simp only [Act.put,LP])
       |((with_reducible show wpQuiet _ _ _ _ (⟨some 35,_,_,_,_,_⟩::_) _);refine Ah (by first|rfl|go_simp) Bz (.tmp 34) rfl g (m * 11) rfl p.cs rfl jT.2 jT.1 ?_;simp only [Act.put,LP])
       |((with_reducible show wpQuiet _ _ _ _ (⟨some 27,_,_,_,_,_⟩::_) _);go_big_quiet_step ((go_at_call 39;rename_i u;exact AB (MW _ (uR.trans u.Av)))))
       |((with_reducible show wpQuiet _ _ _ _ (⟨some 36,_,_,_,_,_⟩::_) _);go_big_quiet_step ((go_at_call 39;rename_i u;exact AB (QV _ (uR.trans u.Av)))))
       |go_big_quiet_step (fail))
      exact Zk0
  ·obtain rfl:k=N:=by omega
   have HO:Hid (O=some (cons out)):=by
    show _=_;have h:=HE.Ab;rw [EN Za9] at h;exact h.symm
   have HRS:=Aa (HPO (.returned (.tuple #[.slice B q d,.bool true])) wr (.inr ⟨⟨B,q,d,out⟩,HO.Ab,rfl,SG (x:=⟨B,q,d,out⟩) (H.row 0 rfl) (fun f hf=>⟨(QU f hf).ks.mono H.to,(QU f hf).ag⟩) (by show q * 104≤_;omega),H.to⟩));clear HE;go_wp2_with fail;go_ret2;exact HRS.Ab
def nH (O:Option (List CZ)) (w:World) (v:Value) (k:Int):Prop:=
 (O=none∧v=.slice none 0 0∧k=12)∨∃ x:Row Br,O=some (cons x.l)∧v=.slice x.A x.n x.c∧k=0∧x.ok w∧x.n≤1000000
def YQ (O:Option (List CZ)) (w:World) (v:Value) (b:Bool):Prop:=
 (O=none∧v=.slice none 0 0∧b=false)∨∃ x:Row Br,O=some (cons x.l)∧v=.slice x.A x.n x.c∧b=true∧x.ok w∧x.n≤1000000
theorem Zw0 {p:Prop} (h:p:=by
 rcases h with h|⟨x,h1,h2,h3,h4,h5⟩
 ·exact .inl h
 ·exact .inr ⟨x,h1,h2,h3,h4.mono hb,h5⟩
):p:=h
theorem nH.mono {O:Option (List CZ)} {w w':World} {v:Value} {k:Int} (h:nH O w v k) (hb:Ai w w'):nH O w' v k:=by
 exact Zw0
theorem YQ.mono {O:Option (List CZ)} {w w':World} {v:Value} {k:Bool} (h:YQ O w v k) (hb:Ai w w'):YQ O w' v k:=by
 exact Zw0
def nI (O:Option (List CZ)) (w:World) (e:Ending) (w':World):Prop:=∃ v k,e=.returned (.tuple #[v,.int .i64 k])∧nH O w' v k∧Ai w w'
def Al0 (O:Option (List CZ)) (w:World) (e:Ending) (w':World):Prop:=∃ v b,e=.returned (.tuple #[v,.bool b])∧YQ O w' v b∧Ai w w'
theorem lY {acc r:List CZ} {f:CZ} (h:GN acc f=some r):r.length≤acc.length+1:=by
 unfold GN at h;split at h
 ·injection h with h;subst h;simp
 ·rename_i p hp;split at h
  ·split at h
   ·injection h with h;subst h;rw [Cn,Zd];simp
   ·cases h
  ·injection h with h;subst h;simp
theorem lZ (l:List CZ):∀ (acc r:List CZ),EF acc l=some r→r.length≤acc.length+l.length:=by
 induction l with
 |nil=>intro acc r h;injection h with h;subst h;simp
 |cons f l ih=>
  intro acc r h;rw [EF] at h;split at h
  ·cases h
  ·rename_i a ha;have h1:=lY ha;have h2:=ih _ _ h;rw [En];omega
theorem jE {l r:List CZ} (h:Nc l=some r):r.length≤l.length:=by
 have:=lZ l [] r h;simpa using this
theorem Y6 (w:World) (x:Row Br) (hx:x.ok w) (hn:x.n≤1000000):Calls prog 68 #[.slice x.A x.n x.c] w (nI (Nc (cons x.l)) w):=by
 refine (Y7 w x hx hn).mono ?_;rintro e w' (⟨h1,h2,h3⟩|⟨r,v,fs,h1,h2,h3,h4⟩)
 ·exact ⟨_,_,h2,.inl ⟨h1,rfl,rfl⟩,h3⟩
 ·have hl:=jE h1;rw [←h4,AR,AR,hx.len] at hl;obtain ⟨X,q1,q2,q3,q4,_⟩:=h3.run Xl;refine ⟨v,0,h2,.inr ⟨X,?_,q1,rfl,q4,Xl⟩,h3.Av⟩;rw [h1,q2,h4]
theorem ZO (w:World) (x:Row Br) (hx:x.ok w) (hn:x.n≤1000000):Calls prog 78 #[.slice x.A x.n x.c] w (Al0 (Nc (cons x.l)) w):=by
 refine (wP w x hx hn).mono ?_;rintro e w' (⟨h1,h2,h3⟩|⟨X,h1,h2,h3,h4⟩)
 ·exact ⟨_,_,h2,.inl ⟨h1,rfl,rfl⟩,h3⟩
 ·have hl:=jE h1;rw [AR,AR,hx.len,h3.len] at hl;exact ⟨_,_,h2,.inr ⟨X,h1,rfl,rfl,h3,Xl⟩,h4⟩
theorem uA (x:Row Br) (w:World) (hx:x.ok w) (hn:x.n≤5000):Calls prog 40 #[.slice x.A x.n x.c] w (nI (Nc (BK (cons x.l))) w):=by
 have HK:=Aa (V6 32 4 Xl Xl Xl Xl x w hx hn);have hxl:Hid (x.l.length=x.n):=hx.len;obtain ⟨A,N,c,X⟩:=x;simp only at *;clear hx;go_enter func40,ntmps40;go_wp2_with fail;refine HK.mono ?_;rintro e w1 ⟨v,fs,rfl,hG,hc⟩;have hfl:fs.length=N:=by have h:=CW List.length hc;rw [AR,FD,AR] at h;rw [h];exact hxl.Ab
 have HB:=Aa hG.Av;obtain ⟨Y,rfl,hYl,hYn,hYok,_⟩:=hG.run Xl;have HF:=Aa (Y6 w1 Y hYok Xl);rw [hYl,hc] at HF;clear hG hc hfl hYl hYn hYok HK;obtain ⟨YA,yn,yc,yl⟩:=Y;simp only [Row.v] at *;go_wp2_with fail;refine HF.mono ?_;rintro e w2 ⟨v,k,rfl,hF,hb⟩;have HRS:Hid (nI (Nc (BK (cons X))) w (.returned (.tuple #[v,.int .i64 k])) w2):=⟨v,k,rfl,hF,HB.trans hb⟩;clear hF hb HF;go_wp2;go_ret2;exact HRS.Ab
theorem ND (l:List Br):∀ u ∈ (l.flatMap AY.cells:List Value),u.oneCell'=true:=fun u hu=>by
 obtain ⟨c,_,hc⟩:=List.mem_flatMap.1 hu;exact JG c u hc
theorem Uv (w:World) (e:TypeId) (size:Nat):(w.alloc (.cells #[] e)).ownsRow w.heap.size e size (.slice (some ⟨w.heap.size,0,none⟩) 0 0) 0 []:=
 World.ownsRow_made w #[] 0 (Ci _) Za4 uH
theorem yM (x:Row Br) (w:World) (hx:x.ok w) (hn:x.n≤1000000):
 Calls prog 62 #[.slice x.A x.n x.c] w fun e w'=>∃ (A:Option Addr) (c:Nat),e=.returned (.slice A x.n c)∧Ai w w'∧w'.ownsRow w.heap.size 97 11 (.slice A x.n c) x.n (x.l.flatMap AY.cells):=by
 have hr:Rd w 11 x.A x.n (x.l.flatMap AY.cells):=hx.rd;have hlen:Hid (x.l.length=x.n):=hx.len;obtain ⟨A,n,c,l⟩:=x;simp only at *;clear hx;cases A with
 |none=>
  obtain rfl:n=0:=by
   rcases Vk n with h|h
   ·exact h
   ·obtain ⟨ad,e,_⟩:=hr.2 Xl;cases e
  have hl:l=[]:=LD hlen.Ab;subst hl;have he:=fun (c:Nat) (w:World)=>Xv (P:=prog) w 54 97 none 0 c 0 0 underlying54
  go_enter func62,ntmps62;go_wp2;go_ret;exact ⟨none,0,rfl,Ai.refl _,Tw _ _ _ _⟩
 |some ad=>
  have he:=fun (n c:Nat) (w:World)=>Xv (P:=prog) w 54 97 (some ad) n c 0 0 underlying54
  have HRR:=Aa (fun w' (hb:Ai w w')=>hr.Av hb);have H:=Aa ((SL.start No w).Co ((Ai.refl _).alloc _) (Uv w 97 11));(try simp only [LS] at H);go_enter func62,ntmps62;go_wp2_with ((with_reducible refine OP 7 ?_);(refine Az rfl (.tmp 5) (.tmp 6) _ rfl EI 0 (Bj _) _ 0 _ rfl (H.row 0 rfl) (some ad) n c (l.flatMap AY.cells) rfl (HRR _ H.to) (ND l) Za4 Xl ?_;intro vq wq AJ Aq AQ;replace H:=Aa (H.setRow 0 rfl Aq AJ AQ);(try simp only [LS] at H);clear AJ Aq AQ;obtain ⟨A2,c2,rfl,_⟩:=Ao (H.row 0 rfl);simp only [FI,FC] at H ⊢));go_ret;exact ⟨A2,c2,rfl,H.to,H.M7 0 rfl⟩
def Al6 (x:JZ) (w:World) (e:Ending) (w':World):Prop:=
 ∃ y:Row Br,e=.returned (.pointer (some ⟨w.heap.size,0,none⟩))∧cons y.l=cons x.rows.l∧SL No w w' [Aw w.heap.size 86 (JZ.mk x.ct y x.has x.closed).ms,rRun y]
theorem U9 (B:Nat) (x:JZ) (w:World) (hb:Bh w B 86 x.ms) (hx:x.rows.ok w) (hn:x.rows.n≤1000000):Calls prog 20 #[.pointer (some ⟨B,0,none⟩)] w (Al6 x w):=by
 have Ws:=Aa (fun w' (h:Ai w w')=>hb.Av h);have PM:=Aa (fun w' (h:Ai w w')=>KV x.rows w' (hx.mono h) hn);have hxl:Hid (x.rows.l.length=x.rows.n):=hx.len;have H:=Aa (SL.start No w);clear hb hx;go_enter func20,ntmps20;go_upto_region 4 with (first|((with_reducible refine OP 8 ?_);(refine CY rfl Ae4 (.tmp 7) rfl _ rfl (Ws _ H.to) rfl ?_))|((with_reducible refine OS 3 ?_);(refine DX Ae4 (x.ms) (Am3 x) ?_;replace H:=Aa (H.alloc (x.ms) 86);(try simp only [LS] at H))));(try simp only [LS] at H);obtain ⟨g,hg⟩:∃ g,g=w.heap.size:=⟨_,rfl⟩;rw [←hg] at H ⊢;have HGG:=Aa hg;clear hg;generalize World.alloc w _=w1 at *;have c9:w1.cell? ⟨B,9,none⟩=some (.slice x.rows.A x.rows.n x.rows.c):=(Ws _ H.to).cell 9;go_wp2_with fail;refine (PM _ H.to).mono ?_;rintro e w2 ⟨v,fs,rfl,hG,hfs⟩;obtain ⟨X,rfl,hXl,hXn,hXok,hXN⟩:=hG.run (by have h:=CW List.length hfs;rw [AR,AR,hxl.Ab] at h;omega);have HC:Hid (cons X.l=cons x.rows.l):=by show _=_;rw [hXl];exact hfs
 replace H:=Aa (H.add hG.Av _ hXN.1 hXN.2);(try simp only [LS] at H);clear hG hfs hXl hXn hXok hXN c9 PM Ws;have cz:=(H.blk 0 rfl).Ap 9;have fz:=(H.blk 0 rfl).frozen 9;simp only [Row.v];go_wp2_with fail;replace H:=Aa (H.setCell 0 rfl 9 (.slice X.A X.n X.c));(try simp only [LS] at H);go_ret;rw [HGG.Ab] at H ⊢;exact ⟨X,rfl,HC.Ab,H.Ab⟩
theorem aR (B:Nat) (x:JZ) (w:World) (hb:Bh w B 86 x.ms) (hx:x.rows.ok w) (hn:x.rows.n≤5000) (hf:QW (cons x.rows.l)):
 Calls prog 18 #[.pointer (some ⟨B,0,none⟩)] w fun e w'=>∃ y:Row Br,e=.returned y.v∧cons y.l=(if x.has=true then Kr (cons x.rows.l) else [])∧y.ok w'∧y.n≤1000000∧Ai w w':=by
 have Ws:=Aa (fun w' (h:Ai w w')=>hb.Av h);have HHA:=Aa (fun w' (h:Ai w w')=>VH B x w' (hb.Av h));have HAN:=Aa (fun w' (h:Ai w w')=>uA x.rows w' (hx.mono h) hn);have HFD:=Aa (Oa hf);have H:=Aa (SL.start No w);generalize hR:(if x.has=true then Kr (cons x.rows.l) else [])=R;have HR:=Aa hR;clear hb hx hf hR;go_enter func18,ntmps18;go_wp2_with fail;refine (HHA _ H.to).mono ?_;rintro e w1 ⟨rfl,hb1⟩;replace H:=Aa (H.Av hb1);clear hb1 HHA;cases hh:x.has with
 |false=>
  go_wp2_with fail;go_ret;exact ⟨⟨none,0,0,[]⟩,rfl,by rw [←HR.Ab,hh];rfl,(Qa _).rows,by show (0:Nat)≤_;omega,H.to⟩
 |true=>
  have c9:w1.cell? ⟨B,9,none⟩=some (.slice x.rows.A x.rows.n x.rows.c):=(Ws _ H.to).cell 9;go_wp2_with fail;refine (HAN _ H.to).mono ?_;rintro e w2 ⟨v,k,rfl,hF,hb2⟩;replace H:=Aa (H.Av hb2);rcases hF with ⟨h,_⟩|⟨y,hy,rfl,rfl,TQ,hyn⟩
  ·rw [HFD.Ab] at h;cases h
  have HY:Hid (cons y.l=Kr (cons x.rows.l)):=by show _=_;rw [HFD.Ab] at hy;injection hy with hy;exact hy.symm
  have HYO:=Aa TQ;clear hy TQ c9 hb2 HAN;go_wp2_with fail;go_ret;exact ⟨y,rfl,by rw [←HR.Ab,Al hh];exact HY.Ab,HYO.Ab,hyn,H.to⟩
theorem tO {c:CC} (h:Bu c=0):(Qx c).length≤900100:=by
 have hs:Ay c.sc=0:=by
  by_cases e:Ay c.sc=0
  ·exact e
  ·rw [Xj e] at h;exact absurd h e
 have h1:=Uh hs;have h2:=Cc c.fa.toNat;have h3:(((QR c).take c.sc.ms.length).flatMap JU).length≤18 * ((QR c).take c.sc.ms.length).length:=VS fun x hx=>by
  have:=Cc (FV x.1);have:=Cc (FV x.2);unfold JU;rw [Cn];omega
 have h4:((QR c).take c.sc.ms.length).length≤3:=by rw [FK];show min _ 3≤3;omega
 unfold Qx;simp only [Cn];omega
theorem U0 (B:Nat) (x:JZ) (w:World) (hb:Bh w B 86 x.ms) (hx:x.ct.rd w) (hm:C9 x.ct.sc) (hE:x.has=true→Bu x.ct.Ac=0) (hok:Vd x.ct.Ac):
 Calls prog 47 #[.pointer (some ⟨B,0,none⟩)] w fun e w'=>∃ D:Ct,e=.returned (.agg D.cs)∧D.Ac=(if x.has=true then x.ct.Ac else CC.nil)∧D.rd w'∧C9 D.sc∧Ai w w':=by
 have Ws:=Aa (fun w' (h:Ai w w')=>hb.Av h);have HHA:=Aa (fun w' (h:Ai w w')=>VH B x w' (hb.Av h));have HPU:=Aa (fun w' (h:Ai w w')=>yR x.ct w' (hx.mono h) hm);have HE:=Aa hE;have KC:=Aa hok;have H:=Aa ((SL.start No w).alloc #[.slice none 0 0,.slice none 0 0,.int .i64 0,.int .i64 0,.int .i64 0,.int .i64 0,.int .i64 0,.int .i64 0,.int .i64 0] 63);(try simp only [LS] at H);generalize hR:(if x.has=true then x.ct.Ac else CC.nil)=R;have HR:=Aa hR;clear hb hx hm hE hok hR;go_enter func47,ntmps47;go_upto_region 1 with fail;generalize w.heap.size=q at *;generalize World.alloc w _=w0 at *;go_wp2_with fail;refine (HHA _ H.to).mono ?_;rintro e w1 ⟨rfl,hb1⟩;replace H:=Aa (H.Av hb1);clear hb1 HHA;cases hh:x.has with
 |false=>
  have hbd:∀ w:World,(Instr.build 63 #[]).run prog w=.ok (.agg #[.slice none 0 0,.slice none 0 0,.int .i64 0,.int .i64 0,.int .i64 0,.int .i64 0,.int .i64 0,.int .i64 0,.int .i64 0]) w:=fun _=>by kernel_rfl
  go_wp2_with ((with_reducible refine OS 2 ?_);(refine Cj BI H 0 rfl (#[.slice none 0 0,.slice none 0 0,.int .i64 0,.int .i64 0,.int .i64 0,.int .i64 0,.int .i64 0,.int .i64 0,.int .i64 0]) Za2 ?_;clear H;intro wq H;(try simp only [LS] at H)));refine Bc (AO rfl BI rfl (H.blk 0 rfl) rfl) rfl ?_;exact ⟨Ct.nil,rfl,by rw [←HR.Ab,hh];rfl,NF _,Sw,H.to⟩
 |true=>
  have hE:=HE hh;have hv:OM x.ct.Ac=(Qx x.ct.Ac,0):=by unfold OM;rw [Al hE]
  have Tg:=Aa (fun w'=>mJ (Qx x.ct.Ac) w' (by have:=tO hE;omega));rw [tL hE KC.Ab] at Tg;rw [hv] at HPU;clear hE hv;go_wp2_with ((with_reducible refine OP 15 ?_);refine Af rfl BI (.tmp 14) rfl B 0 rfl x.ct.cs rfl ((Ws _ H.to).part 0 x.ct.cs.toList rfl) ?_);refine (HPU _ H.to).mono ?_;rintro e w2 ⟨rfl,hb2⟩;replace H:=Aa (H.Av hb2);clear hb2 HPU;go_wp2_with fail;refine (Tg _).mono ?_;rintro e w3 ⟨D,rfl,hD,Fj,rW,hb3,hN⟩;replace H:=Aa ((H.add hb3 _ hN.1 hN.2));(try simp only [LS] at H);have HD:=Aa hD;have HDI:=Aa Fj.ints;clear hD Fj hb3 hN Tg;go_upto_region 5 with ((with_reducible refine OS 5 ?_);(refine DX BI (D.cs) (Oc D) ?_;replace H:=Aa (H.alloc (D.cs) 63);(try simp only [LS] at H)));(try simp only [Act.put,LP]);generalize w3.heap.size=y at *;generalize World.alloc w3 _=w4 at *;go_wp2_with (first|((with_reducible refine OP 24 ?_);(refine Bf BI (H.blk 2 rfl) ?_))|((with_reducible refine OS 2 ?_);(refine Cj BI H 0 rfl (D.cs) (Oc D) ?_;clear H;intro wq H;(try simp only [LS] at H))));refine Bc (AO rfl BI rfl (H.blk 0 rfl) rfl) rfl ?_;exact ⟨D,rfl,by rw [←HR.Ab,Al hh];exact HD.Ab,HDI.rd (H.at_ 1 rfl),rW,H.to⟩
theorem U2 (D:Dm) (p:Pk) (M key j:Nat) (T:Bt) (u:List UInt8) (w:World) (hD:D.rd w) (hp:p.rd w) (hT:D.tr.l[M]?=some T) (hu:T.ts.l[j]?=some u) (hM:p.t=M) (hf:p.f=0∨p.f=1∨p.f=2)
 (hl:DI (D.tr.l.map Bt.Ac) 0 M key=j) (hn:D.tr.n≤1000000) (hk:key≤1000000) (hrs:Nf p.set.l) (hsn:p.set.n≤1000000):
 Calls prog 104 #[.agg D.cs,.agg p.cs,.int .i64 key] w fun e w'=>e=.returned (.bool (KQ p.Ac u))∧Ai w w':=by
 have H:=Aa (((SL.start No w).alloc D.cs 73).alloc p.cs 80);(try simp only [LS] at H);have hTr:=hD.tr.all T (CU hT);have hMn:M<D.tr.n:=by have:=(CB.1 hT).1;rw [hD.tr.len] at this;exact this
 have hkn:j<T.ts.n:=by have:=(CB.1 hu).1;rw [hTr.ts.len] at this;exact this
 obtain ⟨bt,ot,T',hA,hbt,hT',_,hrg⟩:=hD.tr.JO (k:=M) hMn;obtain rfl:T=T':=by rw [hT] at hT';injection hT'
 obtain ⟨bu,ou,u',hA2,hu',lT,lV⟩:=hTr.ts.GR (k:=j) hkn;obtain rfl:u=u':=by rw [hu] at hu';injection hu'
 have HRC:=Aa (fun w' (hb:Ai w w')=>(hb.cell (p:=⟨bt,ot+M * 3+1,none⟩) hbt).trans (hrg 1 (.slice T.ts.A T.ts.n T.ts.c) rfl));have HCU:=Aa (fun w' (hb:Ai w w')=>(hb.cell (p:=⟨bu,ou+j,none⟩) (JM _ _ lV)).trans lV);have HAT:=Aa (fun w' (hb:Ai w w')=>WI p.set u w' (hp.set.mono hb) hrs hsn);have HLF:=Aa (fun w' (hb:Ai w w')=>qX D 0 M key w' (hD.mono hb) Za5 Za5 Za5 hn);rw [hl] at HLF;have i0:(0:Int)≤M:=by omega
 have i1:(M:Int)<D.tr.n:=by omega
 have i2:(0:Int)≤j:=by omega
 have i3:(j:Int)<T.ts.n:=by omega
 have t63:=hTr.ts.n63;have hl0:p.f=0→KQ p.Ac u=true:=fun hf=>by unfold KQ;rw [Al (show p.Ac.f=0 from hf)]
 have hl1:p.f=1→KQ p.Ac u=within p.lo p.hi u:=fun hf=>by unfold KQ;rw [Ak (show ¬ p.Ac.f=0 by rw [show p.Ac.f=p.f from rfl,hf];decide),Al (show p.Ac.f=1 from hf)]
 have hl2:p.f=2→KQ p.Ac u=(posOf u p.set.l).isSome:=fun hf=>by unfold KQ;rw [Ak (show ¬ p.Ac.f=0 by rw [show p.Ac.f=p.f from rfl,hf];decide),Ak (show ¬ p.Ac.f=1 by rw [show p.Ac.f=p.f from rfl,hf];decide)]
 rw [hA2] at HRC;generalize KQ p.Ac u=R at *;clear hD hp hT hT' hTr hrg hMn hkn hu hu' hA2 hbt lV hl hn hk hrs;obtain ⟨QS,⟨TA,tn,tc,ts⟩,tup⟩:=T;obtain ⟨pf,pt,lo,hi,⟨A,n,c,set⟩,g,pb⟩:=p;obtain ⟨nm,⟨A2,n2,cp2,Bi⟩⟩:=D;simp only [Pk.cs,Dm.cs] at *;subst hA hM;rcases hf with rfl|rfl|rfl
 ·have HR:=Aa (hl0 rfl);clear hl0 hl1 hl2;go_enter func104,ntmps104;go_upto_region 1 with fail;generalize w.heap.size+1=y at *;generalize w.heap.size=x at *;generalize World.alloc (World.alloc _ _) _=w1 at *;have c1:=(H.blk 1 rfl).Ap 1;go_wp2_with ((with_reducible refine OP 11 ?_);(refine Bf CX (H.blk 0 rfl) ?_));refine (HLF _ H.to).mono ?_;rintro e w2 ⟨rfl,hb2⟩;replace H:=Aa (H.Av hb2);have hrc:=HRC _ H.to;have lV:=HCU _ H.to;clear hb2 HLF c1 HRC;have c0:=(H.blk 1 rfl).cell 0;have c1:=(H.blk 1 rfl).cell 1;have c2:=(H.blk 1 rfl).cell 2;have c3:=(H.blk 1 rfl).cell 3;have c4:=(H.blk 1 rfl).cell 4;have cd:=(H.blk 0 rfl).cell 1;simp only [LG] at c0 c1 c2 c3 c4 cd;go_wp2;go_ret;rw [HR.Ab];exact ⟨rfl,H.to⟩
 ·have HR:=Aa (hl1 rfl);clear hl0 hl1 hl2;go_enter func104,ntmps104;go_upto_region 1 with fail;generalize w.heap.size+1=y at *;generalize w.heap.size=x at *;generalize World.alloc (World.alloc _ _) _=w1 at *;have c1:=(H.blk 1 rfl).Ap 1;go_wp2_with ((with_reducible refine OP 11 ?_);(refine Bf CX (H.blk 0 rfl) ?_));refine (HLF _ H.to).mono ?_;rintro e w2 ⟨rfl,hb2⟩;replace H:=Aa (H.Av hb2);have hrc:=HRC _ H.to;have lV:=HCU _ H.to;clear hb2 HLF c1 HRC;have c0:=(H.blk 1 rfl).cell 0;have c1:=(H.blk 1 rfl).cell 1;have c2:=(H.blk 1 rfl).cell 2;have c3:=(H.blk 1 rfl).cell 3;have c4:=(H.blk 1 rfl).cell 4;have cd:=(H.blk 0 rfl).cell 1;simp only [LG] at c0 c1 c2 c3 c4 cd;unfold within at HR;cases h1:Op.bytesLess u lo with
  |true=>
   have q1:(Op.bytesLess lo u||lo==u)=false:=by rw [SK,h1];(try rfl)
   rw [h1] at HR;clear h1;go_upto_region 5 with fail;have f_c2:=fun u:Over w2=>Over.cell c2 u
   have f_c3:=fun u:Over w2=>Over.cell c3 u
   have Aj5:=fun u:Over w2=>Over.cell lV u
   refine Am ?_;(try simp only [Act.put,LP]);repeat (go_big_quiet_step (fail))
   refine CS ?_;rintro w5 ⟨⟨_,Gd⟩,rfl⟩;(try dsimp only);replace H:=Aa (H.Av Gd);clear f_c2 f_c3 Aj5 c2 c3 lV;go_wp2;go_ret;rw [HR.Ab];exact ⟨rfl,H.to⟩
  |false=>
   have q1:(Op.bytesLess lo u||lo==u)=true:=by rw [SK,h1];(try rfl)
   rw [h1] at HR;clear h1;have q2:(Op.bytesLess u hi||u==hi)=!Op.bytesLess hi u:=SK _ _;generalize Op.bytesLess hi u=z at *;go_upto_region 5 with fail;have f_c2:=fun u:Over w2=>Over.cell c2 u
   have f_c3:=fun u:Over w2=>Over.cell c3 u
   have Aj5:=fun u:Over w2=>Over.cell lV u
   refine Am ?_;(try simp only [Act.put,LP]);repeat (go_big_quiet_step (fail))
   refine CS ?_;rintro w5 ⟨⟨_,Gd⟩,rfl⟩;(try dsimp only);replace H:=Aa (H.Av Gd);clear f_c2 f_c3 Aj5 c2 c3 lV;go_wp2;go_ret;rw [HR.Ab];exact ⟨by cases z<;>rfl,H.to⟩
 ·have HR:=Aa (hl2 rfl);clear hl0 hl1 hl2;go_enter func104,ntmps104;go_upto_region 1 with fail;generalize w.heap.size+1=y at *;generalize w.heap.size=x at *;generalize World.alloc (World.alloc _ _) _=w1 at *;have c1:=(H.blk 1 rfl).Ap 1;go_wp2_with ((with_reducible refine OP 11 ?_);(refine Bf CX (H.blk 0 rfl) ?_));refine (HLF _ H.to).mono ?_;rintro e w2 ⟨rfl,hb2⟩;replace H:=Aa (H.Av hb2);have hrc:=HRC _ H.to;have lV:=HCU _ H.to;clear hb2 HLF c1 HRC;have c0:=(H.blk 1 rfl).cell 0;have c1:=(H.blk 1 rfl).cell 1;have c2:=(H.blk 1 rfl).cell 2;have c3:=(H.blk 1 rfl).cell 3;have c4:=(H.blk 1 rfl).cell 4;have cd:=(H.blk 0 rfl).cell 1;simp only [LG] at c0 c1 c2 c3 c4 cd;go_upto_region 7 with fail;refine Eo (S:=fun W=>W.cell? ⟨y,4,none⟩=some (.slice A n c)∧W.cell? ⟨bu,ou+j,none⟩=some (.string ⟨u.toArray⟩)) Za0 ⟨(H.blk 1 rfl).cell 4,by first|exact HCU _ H.to|exact HCU _ H.to.drew⟩ fun hHeld=>?_;replace H:=Aa (H.drew);generalize World.drew _=w8 at *;refine Bd Ml ?_;refine Bd KF ?_;refine Bd MN ?_;refine Bd Ky ?_;refine Bd LJ ?_;refine Bd KW ?_;refine BG MI fun KK Ad=>?_;go_simp;refine (HAT _ H.to).mono ?_;rintro e w3 ⟨m,fb,rfl,rfl,hF⟩;refine Aj Ad ⟨(H.blk 1 rfl).cell 4,by first|exact HCU _ H.to|exact HCU _ H.to.drew⟩ fun hHeld=>?_;clear Ad KK;refine Bd Lj ?_;refine Bd Mk ?_;refine Bd MH ?_;refine Bd FO ?_;refine Bd Ga ?_;refine BZ ?_;clear hHeld;have HR2:Hid (R=fb):=by
   show _=_;rw [HR.Ab];cases fb with
   |true=>rw [hF.2.1 rfl];rfl
   |false=>rw [hF.2.2 rfl];rfl
  clear hF HR;go_wp2;go_ret;rw [HR2.Ab];exact ⟨rfl,H.to⟩
theorem aU {D:Dm} {p:Pk} {w:World} (hD:D.rd w) (hd:BD D.Ac=0) (hp:DL D.Ac p.Ac=0) {key:Nat} (hk:key<Et (D.tr.l.map Bt.Ac) 0):
 ∃ (M j:Nat) (T:Bt) (u:List UInt8),p.t=M∧D.tr.l[M]?=some T∧T.ts.l[j]?=some u∧DI (D.tr.l.map Bt.Ac) 0 M key=j∧RX D.Ac p.Ac key=KQ p.Ac u∧(p.f=0∨p.f=1∨p.f=2)∧Nf p.set.l:=by
 obtain ⟨_,d1,d4,d5⟩:=ER hd;have hok:Iu (D.tr.l.map Bt.Ac):=Gq d5;have hlen:D.Ac.Bi.length=D.tr.l.length:=CQ ..;have hP:=IK hp;have h1:(p.f=0∨p.f=1∨p.f=2)∧Nf p.set.l∧0≤p.t∧p.t<D.tr.l.length:=by
  rcases hP.f with ⟨a,b,_,_,s⟩|⟨a,s,_,_,b,b2⟩|⟨a,_,_,s,b,tr,ht,_⟩
  ·have a:p.f=0:=a;have b:p.t=0:=b;have s:p.set.l=[]:=s;exact ⟨.inl a,by rw [s];exact List.Pairwise.nil,Xl,Xl⟩
  ·have a:p.f=1:=a;have b:0≤p.t:=b;have b2:p.t<(D.Ac.Bi.length:Int):=b2;have s:p.set.l=[]:=s;exact ⟨.inr (.inl a),by rw [s];exact List.Pairwise.nil,b,Xl⟩
  ·have a:p.f=2:=a;have b:0≤p.t:=b;have h2:=(CB.1 ht).1;have h3:p.Ac.t=p.t:=rfl;exact ⟨.inr (.inr a),WO s,b,Xl⟩
 obtain ⟨h2,h3,h4,h5⟩:=h1;obtain ⟨M,hM⟩:∃ M:Nat,p.t=M:=⟨p.t.toNat,Xl⟩;have hMl:M<D.tr.l.length:=by omega
 obtain ⟨e1,e2,e3⟩:=OH hok (f:=0) (t:=M) (i:=key) Xl (by rw [CQ];exact hMl) hk;have hsz:Et (D.tr.l.map Bt.Ac) M=D.tr.l[M].ts.l.length:=by unfold Et;rw [Ed,Fp hMl];rfl
 obtain ⟨j,hj⟩:∃ j:Nat,DI (D.tr.l.map Bt.Ac) 0 M key=j:=⟨(DI (D.tr.l.map Bt.Ac) 0 M key).toNat,by simp only [Int.natCast_zero] at e2;omega⟩;simp only [Int.natCast_zero] at e2 e3;have hjl:j<D.tr.l[M].ts.l.length:=by omega
 refine ⟨M,j,D.tr.l[M],D.tr.l[M].ts.l[j],hM,Fp hMl,Fp hjl,hj,?_,h2,h3⟩;unfold RX;have e4:p.Ac.t=(M:Int):=hM;rw [e4,Db,show D.Ac.Bi=D.tr.l.map Bt.Ac from rfl,Ed,Fp hMl,hj];simp only [Option.map_some,Option.bind_some,Db];rw [Fp hjl]
 rfl
theorem Ut {ds:List DC} {ps:List PC} {ks:List Int} {k:Nat} {d:DC} {p:PC} {key:Int} (hd:ds[k]?=some d) (hp:ps[k]?=some p) (hk:ks[k]?=some key):
 EP (ds.drop k) (ps.drop k) (ks.drop k)=if RX d p key=true then (EP (ds.drop (k+1)) (ps.drop (k+1)) (ks.drop (k+1))).map (fun l=>if p.g=true then DI d.Bi 0 p.Mf key::l else l) else none:=by
 rw [Bp hd,Bp hp,Bp hk,EP]
def KG (acc:List Int) (o:Option (List Int)):Option (List Int):=o.map (acc++·)
theorem qC {ds:List DC} {ps:List PC} {ks acc:List Int} {k:Nat} {d:DC} {p:PC} {key:Int} {R:Option (List Int)} (h:R=KG acc (EP (ds.drop k) (ps.drop k) (ks.drop k))) (hd:ds[k]?=some d) (hp:ps[k]?=some p) (hk:ks[k]?=some key) (hl:RX d p key=false):R=none:=by
 rw [h,Ut hd hp hk,Ak (by simp [hl])];rfl
theorem Zw1 {p:Prop} (h:p:=by rw [h,Ut hd hp hk,Al hl,hg];unfold KG;cases EP (ds.drop (k+1)) (ps.drop (k+1)) (ks.drop (k+1))<;>simp):p:=h
theorem aI {ds:List DC} {ps:List PC} {ks acc:List Int} {k:Nat} {d:DC} {p:PC} {key:Int} {R:Option (List Int)} (h:R=KG acc (EP (ds.drop k) (ps.drop k) (ks.drop k))) (hd:ds[k]?=some d) (hp:ps[k]?=some p) (hk:ks[k]?=some key) (hl:RX d p key=true) (hg:p.g=false):
 R=KG acc (EP (ds.drop (k+1)) (ps.drop (k+1)) (ks.drop (k+1))):=by
 exact Zw1
theorem aH {ds:List DC} {ps:List PC} {ks acc:List Int} {k:Nat} {d:DC} {p:PC} {key:Int} {R:Option (List Int)} (h:R=KG acc (EP (ds.drop k) (ps.drop k) (ks.drop k))) (hd:ds[k]?=some d) (hp:ps[k]?=some p) (hk:ks[k]?=some key) (hl:RX d p key=true) (hg:p.g=true):
 R=KG (acc++[DI d.Bi 0 p.Mf key]) (EP (ds.drop (k+1)) (ps.drop (k+1)) (ks.drop (k+1))):=by
 exact Zw1
theorem iM {ds:List DC} {ps:List PC} {ks acc:List Int} {k:Nat} {R:Option (List Int)} (h:R=KG acc (EP (ds.drop k) (ps.drop k) (ks.drop k))) (hp:ps.length≤k):R=some acc:=by
 rw [h,EN hp,EP]
 ·unfold KG;simp
 ·intros;contradiction
theorem bX {k:Row Int} {a:Ag} {A:Option Addr} {n c:Nat} {l':List Int}:(Br.mk k a).cs.setIfInBounds 0 (.slice A n c)=(Br.mk ⟨A,n,c,l'⟩ a).cs:=by
 simp [Br.cs,Row.v]
theorem Ij {ops:Array Oper} {rest:List Oper} {o:Oper} {a:Act} {w:World} {Q:Exit→Act→World→Prop} (hgd:o.guard=none) {t:TypeId} (ho:o.op=.build t #[])
 {v:Value} (hr:∀ w,(Instr.build t #[]).run prog w=.ok v w)
 (h:wpList prog ops Q rest (a.put o.dst v) w):wpList prog ops Q (o::rest) a w:=by
 refine Rk hgd fun K hK=>?_;unfold Oper.wp execOp;simp only [ho,QD,EX,KH,hr,LC,LB];exact hK _ _ h
theorem yV (a:Ag) (w:World):(Instr.build 97 #[(1,.agg a.cs)]).run prog w=.ok (.agg (Br.mk ⟨none,0,0,[]⟩ a).cs) w:=by kernel_rfl
theorem kS:Ep prog 95 10:=⟨⟨_,underlying95,rfl⟩,by kernel_rfl⟩
def A8 (o:Option (List Int)) (ag:Ag) (w:World) (e:Ending) (w':World):Prop:=
 match o with
 |none=>e=.returned (.tuple #[.agg (Br.mk ⟨none,0,0,[]⟩ .zero).cs,.bool false])∧Ai w w'
 |some l=>∃ (A:Option Addr) (c:Nat),e=.returned (.tuple #[.agg (Br.mk ⟨A,l.length,c,l⟩ ag).cs,.bool true])∧Ai w w'∧w'.ownsRow w.heap.size 3 1 (.slice A l.length c) l.length (l.map (Value.int .i64))
theorem Zi4 {p:Prop} (h:p:=by
 refine Aj Ad ⟨H.blk 6 rfl,(H.blk 5 rfl).cell 6,by rw [←TY.Ab];exact (H.blk 1 rfl).cell 0,by first|exact Nh _ H.to|exact Nh _ H.to.drew⟩ fun hHeld=>?_;clear Ad KK;refine BG Hw fun KK Ad=>?_;refine AX rfl (.tmp 45) (.tmp 55) _ rfl LM 0 (Bj _) _ l.length _ rfl (H.row 4 rfl) _ 1 1 [.int .i64 z] rfl (AV (H.blk 7 rfl) rfl) Za2 Za4 Xl ?_;intro vq wq AJ Aq AQ;replace H:=Aa (H.setRow 4 rfl Aq AJ AQ);(try simp only [LS] at H);clear AJ Aq AQ;obtain ⟨A2,c2,rfl,_⟩:=Ao (H.row 4 rfl);refine Aj Ad ⟨H.blk 6 rfl,(H.blk 5 rfl).cell 6,by rw [←TY.Ab];exact (H.blk 1 rfl).cell 0,by first|exact Nh _ H.to|exact Nh _ H.to.drew⟩ fun hHeld=>?_;clear Ad KK;refine Bd Jc ?_;refine BG Jw fun KK Ad=>?_;have Qt:=(H.blk 3 rfl).cell 0;replace Qt:=Qt.trans (show _=some (Value.slice A l.length c) from rfl);have fr1:=(H.blk 3 rfl).frozen 0;go_simp;replace H:=Aa (H.setCell 3 rfl 0 (.slice A2 (l.length+1) c2));(try simp only [LS] at H);clear Qt fr1;refine Aj Ad ⟨H.blk 6 rfl,(H.blk 5 rfl).cell 6,by rw [←TY.Ab];exact (H.blk 1 rfl).cell 0,by first|exact Nh _ H.to|exact Nh _ H.to.drew⟩ fun hHeld=>?_;clear Ad KK;refine BZ ?_;clear hHeld;rw [bX (l':=l++[z])] at H;replace H:=Aa (H.Fg [0,1,2,3,4] Za1 uH);(try simp only [LS] at H);have E1:l.length+1=(l++[z]).length:=by simp
 have E2:l.map (Value.int .i64)++[Value.int .i64 z]=(l++[z]).map (Value.int .i64):=by simp
 generalize World.setCell _ _ _=wz at H ⊢;rw [E2] at H;rw [E1] at H;clear E1 E2 F4 Nh;go_wp2_with fail;rw [←jS.Ab];go_roundg (n - (k+1));case rel=>exact ⟨k+1,A2,c2,l++[z],rfl,Xl,by rw [Cn];show l.length+1≤k+1;omega,by go_num,HN,H⟩
 case measure=>rw [Cs.Ab];omega
):p:=h
theorem Zn2 {p:Prop} (h:p:=by refine Aj Ad ⟨H.blk 6 rfl,(H.blk 5 rfl).cell 6,by rw [←TY.Ab];exact (H.blk 1 rfl).cell 0,by first|exact Nh _ H.to|exact Nh _ H.to.drew⟩ fun hHeld=>?_;clear Ad KK;refine BG Ga fun KK Ad=>?_;refine BP rfl LM (.tmp 54) rfl (.int .i64 z) rfl #[.int .i64 z] rfl rfl Xl ?_;replace H:=Aa (H.alloc #[.int .i64 z] 3);(try simp only [LS] at H);exact Zi4):p:=h
theorem xH (B:Nat) (x:JZ) (q:Qr) (f:Br) (w:World) (hb:Bh w B 86 x.ms) (hx:x.ct.sc.rd w) (hq:q.rd w) (hf:f.ok w) (hE:BV x.ct.sc.Ac q.Ac=0) (hk:OT x.ct.sc.Ac.Dx f.ks.l) (hps:∀ p ∈ q.ps.l,p.set.n≤1000000):
 Calls prog 64 #[.pointer (some ⟨B,0,none⟩),.agg q.cs,.agg f.cs] w (A8 (EP x.ct.sc.Ac.Dx q.Ac f.ks.l) f.ag w):=by
 obtain ⟨g1,g2,g3⟩:=EB hE;obtain ⟨g4,g5,g6,_⟩:=BH g1;have Ws:=Aa (fun w' (h:Ai w w')=>hb.Av h);have HX:=Aa hx.dm;have HQ:=Aa hq;have HF:=Aa hf.ks.zS;have hdl:x.ct.sc.Ac.Dx.length=x.ct.sc.dm.n:=by show (x.ct.sc.dm.l.map Dm.Ac).length=_;rw [CQ];exact hx.dm.len
 have hql:q.Ac.length=q.ps.n:=by show (q.ps.l.map Pk.Ac).length=_;rw [CQ];exact hq.len
 have hqd:q.ps.n=x.ct.sc.dm.n:=by omega
 have hfd:f.ks.n=x.ct.sc.dm.n:=by have h1:=hk.len;have h2:=hf.ks.len;omega
 have hn16:q.ps.n≤16:=by omega
 have zK:Hid (q.ps.n=x.ct.sc.dm.n∧f.ks.n=x.ct.sc.dm.n):=⟨hqd,hfd⟩;clear hqd hfd;have HPE:=Aa (fun (k:Nat) d p (hd:x.ct.sc.Ac.Dx[k]?=some d) (hp:q.Ac[k]?=some p)=>OE g3 g2 k d p hd hp);have HDE:=Aa g6;have HKO:=Aa (fun (k:Nat) d z (hd:x.ct.sc.Ac.Dx[k]?=some d) (hz:f.ks.l[k]?=some z)=>hk.at_ hd hz);have fQ:=Aa hps;obtain ⟨R,hR⟩:∃ R,R=EP x.ct.sc.Ac.Dx q.Ac f.ks.l:=⟨_,rfl⟩;rw [←hR];have HN:Hid (R=KG [] (EP (x.ct.sc.Ac.Dx.drop 0) (q.Ac.drop 0) (f.ks.l.drop 0))):=by
  show _=_;rw [hR];unfold KG;simp
 have HQL:=Aa hql;have H:=Aa ((((SL.start No w).alloc q.cs 29).alloc f.cs 97).alloc #[.slice none 0 0,.int .i64 0,.int .i64 0,.int .i64 0,.int .i64 0,.int .i64 0,.int .i64 0,.int .i64 0,.int .i64 0,.int .i64 0,.int .i64 0] 97);(try simp only [LS] at H);clear hb hx hq hf hE hk hps g1 g2 g3 g4 g5 g6 hR hdl hql;go_enter func64,ntmps64;go_upto_region 1 with fail;generalize w.heap.size+2=rx at H ⊢;generalize w.heap.size+1=fx at H ⊢;generalize w.heap.size=qx at H ⊢;generalize World.alloc (World.alloc (World.alloc _ _) _) _=w0 at H ⊢;have uQ:Hid (∀ w,w=w0→w.rangeAt fx 1 f.ag.cs.toList):=fun w e=>e ▸ (H.blk 1 rfl).part 1 f.ag.cs.toList rfl
 go_upto_region 2 with (first|((with_reducible refine OP 13 ?_);(refine Af rfl kS (.tmp 12) rfl fx (1) rfl f.ag.cs rfl (uQ _ rfl) ?_))|((with_reducible refine OP 14 ?_);refine Bv (vx:=.agg f.ag.cs) (v:=.agg (Br.mk ⟨none,0,0,[]⟩ f.ag).cs) rfl (.tmp 13) rfl rfl (yV f.ag) ?_)|((with_reducible refine OS 8 ?_);(refine DX Bz ((Br.mk ⟨none,0,0,[]⟩ f.ag).cs) (EA _) ?_;replace H:=Aa (H.alloc ((Br.mk ⟨none,0,0,[]⟩ f.ag).cs) 97);(try simp only [LS] at H))));(try simp only [Act.put,LP]);(try simp only [LS] at H);clear uQ;generalize w0.heap.size=ox at H ⊢;generalize World.alloc w0 _=w1 at H ⊢;replace H:=Aa (H.Dw 3 1);(try simp only [LS] at H);have cq:=(H.blk 0 rfl).Ap 0;go_upto_region 3 with fail;clear cq;obtain ⟨n,hn⟩:∃ n,n=q.ps.n:=⟨_,rfl⟩;rw [←hn] at zK hn16 HQL ⊢;have Vh:=Aa hn;clear hn;go_loopg [18] n (fun gg s18 wr=>∃ (k:Nat) (A:Option Addr) (c:Nat) (l:List Int),gg=n - k∧k≤n∧l.length≤k∧s18=.int .i64 k∧Hid (R=KG l (EP (x.ct.sc.Ac.Dx.drop k) (q.Ac.drop k) (f.ks.l.drop k)))∧Hid (SL No w wr [Aw qx 29 q.cs,Aw fx 97 f.cs,Aw rx 97 #[.slice none 0 0,.int .i64 0,.int .i64 0,.int .i64 0,.int .i64 0,.int .i64 0,.int .i64 0,.int .i64 0,.int .i64 0,.int .i64 0,.int .i64 0],Aw ox 97 (Br.mk ⟨A,l.length,c,l⟩ f.ag).cs,Ce 3 1 (.slice A l.length c) l.length (l.map (Value.int .i64))]));case atStart=>exact ⟨0,none,0,[],rfl,Xl,uH,rfl,HN,H⟩
 case round=>
  clear H HN;obtain ⟨k,A,c,l,BR,hk,hlk,rfl,HN,H⟩:=hrel;have Cs:=Aa BR;clear BR;by_cases hlt:k<n
  ·obtain ⟨b1,o1,D,hA1,hb1,Ve,Fj,hrg1⟩:=HX.Sd (k:=k) (by have h:=zK.1;omega);obtain ⟨b2,o2,p,hA2,hb2,hpk,hpr,hrg2⟩:=HQ.P7 (k:=k) (by have h:=Vh.Ab;omega);obtain ⟨bk,uX,key0,hA3,hzk,_,hck⟩:=HF.Pv (k:=k) (by have h:=zK.Ab;omega);have EW:x.ct.sc.Ac.Dx[k]?=some D.Ac:=by show (x.ct.sc.dm.l.map Dm.Ac)[k]?=_;rw [Ed,Ve];rfl
   have hpc:q.Ac[k]?=some p.Ac:=by show (q.ps.l.map Pk.Ac)[k]?=_;rw [Ed,hpk];rfl
   have hk1:=HKO k _ _ EW hzk;obtain ⟨key,rfl⟩:∃ key:Nat,key0=key:=⟨key0.toNat,Xl⟩;have hpe:=HPE k _ _ EW hpc;have hde:=HDE D.Ac (CU EW);obtain ⟨d0,d1,d4,d5⟩:=ER hde;have hdt:D.tr.n≤4:=by have h1:=Fj.tr.len;have h2:D.Ac.Bi.length=D.tr.l.length:=CQ ..;omega
   have hk2:key<Et (D.tr.l.map Bt.Ac) 0:=by have h:(key:Int)<((Et (D.tr.l.map Bt.Ac) 0:Nat):Int):=hk1.2;omega
   have hk3:key≤1000000:=by
    have h1:=PE hde;have h2:Et (D.tr.l.map Bt.Ac) 0≤200:=by
     unfold Et;cases ht:(D.tr.l.map Bt.Ac)[0]? with
     |none=>simp
     |some t=>exact (h1 t (CU ht)).2
    omega
   obtain ⟨Mt,j,TT,u,m1,m2,m3,m4,m5,m6,m7⟩:=aU Fj hde hpe hk2;have HLT:=Aa (fun w' (h:Ai w w')=>U2 D p Mt key j TT u w' (Fj.mono h) (hpr.mono h) m2 m3 m1 m6 m4 Xl hk3 m7 (fQ p (CU hpk)));have HLV:Hid (RX D.Ac p.Ac key=KQ p.Ac u):=m5;have HB0:Hid (p.g=true→AZ p.Mf):=fun _=>hpr.Mf
   have F4:=Aa (fun w' (h:Ai w w')=>qX D 0 p.Mf key w' (Fj.mono h) Za5 hpr.Mf Za5 Xl);have HR1:Hid (∀ w',Ai w w'→w'.rangeAt b1 (o1+k * 2) D.cs.toList):=fun w' h=>CP hb1 hrg1 h
   have HR2:Hid (∀ w',Ai w w'→w'.rangeAt b2 (o2+k * 7) p.cs.toList):=fun w' h=>CP hb2 hrg2 h
   have Nh:Hid (∀ w',Ai w w'→w'.cell? ⟨bk,uX+k,none⟩=some (.int .i64 key)):=fun w' h=>(h.cell (p:=⟨bk,uX+k,none⟩) (JM _ _ hck)).trans hck
   have OU:=Aa EW;have HPc:=Aa hpc;have HZk:=Aa hzk;have jS:=Aa hA2;have TY:=Aa hA3;have uK:=Aa hA1;have i0:(0:Int)≤k:=by omega
   have i1:(k:Int)<n:=by omega
   have i2:(k:Int)<x.ct.sc.dm.n:=by have h:=zK.Ab;omega
   have i3:(k:Int)<f.ks.n:=by have h:=zK.Ab;omega
   clear hb1 hb2 Ve hpk hzk hck EW hpc hk1 hpe hde d0 d1 d4 d5 hdt hk2 hk3 m1 m2 m3 m4 m5 m6 m7 Fj hpr hrg1 hrg2 hA1 hA3;rw [hA2];clear hA2;go_upto_region 5 with (first|((with_reducible refine OP 22 ?_);(refine Af rfl EC (.tmp 21) rfl b2 (o2+k * 7) rfl p.cs rfl (HR2 _ H.to) ?_))|((with_reducible refine OS 10 ?_);(refine DX EC (p.cs) (OZ p) ?_;replace H:=Aa (H.alloc (p.cs) 80);(try simp only [LS] at H))));(try simp only [Act.put,LP]);(try simp only [LS] at H);generalize wr.heap.size=pz at H ⊢;generalize World.alloc wr _=w3 at H ⊢;have c0:w3.cell? ⟨B,0,none⟩=some (.slice (some ⟨b1,o1,none⟩) x.ct.sc.dm.n x.ct.sc.dm.c):=by rw [←uK.Ab];exact (Ws _ H.to).cell 0
   go_upto_region 6 with (first|((with_reducible refine OP 31 ?_);(refine Af rfl CX (.tmp 30) rfl b1 (o1+k * 2) rfl D.cs rfl (HR1 _ H.to) ?_))|((with_reducible refine OS 11 ?_);(refine DX CX (D.cs) (Qs D) ?_;replace H:=Aa (H.alloc (D.cs) 73);(try simp only [LS] at H))));(try simp only [Act.put,LP]);(try simp only [LS] at H);clear c0 HR1 HR2;generalize w3.heap.size=dz at H ⊢;generalize World.alloc w3 _=w4 at H ⊢;have cf:w4.cell? ⟨fx,0,none⟩=some (.slice (some ⟨bk,uX,none⟩) f.ks.n f.ks.c):=by rw [←TY.Ab];exact (H.blk 1 rfl).cell 0
   have ck:=Nh _ H.to;have f_cf:=fun u:Over w4=>Over.cell cf u
   have f_ck:=fun u:Over w4=>Over.cell ck u
   refine Am ?_;(try simp only [Act.put,LP]);repeat (first
    |((with_reducible show wpQuiet _ _ _ _ (⟨some 32,_,_,_,_,_⟩::_) _);refine Ah (by first|rfl|go_simp) CX (.tmp 11) rfl _ (0) rfl _ rfl (H.blk 6 rfl).lt (H.blk 6 rfl).range ?_;simp only [Act.put,LP])
    |((with_reducible show wpQuiet _ _ _ _ (⟨some 33,_,_,_,_,_⟩::_) _);refine Ah (by first|rfl|go_simp) EC (.tmp 10) rfl _ (0) rfl _ rfl (H.blk 5 rfl).lt (H.blk 5 rfl).range ?_;simp only [Act.put,LP])
    |go_big_quiet_step (((go_at_call 104;rename_i u;exact AB (HLT _ (H.to.trans u.Av))))))
   refine CS ?_;rintro w5 ⟨⟨_,Gd⟩,rfl⟩;(try dsimp only);replace H:=Aa (H.Av Gd);clear f_cf f_ck cf ck;clear Gd HLT;rw [←HLV.Ab];cases hL:RX D.Ac p.Ac key with
   |false=>
    have HRN:Hid (R=none):=qC HN OU HPc HZk hL;clear hL HN HLV;go_wp2_with (first|((with_reducible refine OP 41 ?_);refine Ij rfl rfl (yU) ?_)|((with_reducible refine OS 6 ?_);(refine Cj Bz H 2 rfl ((Br.mk ⟨none,0,0,[]⟩ .zero).cs) (EA _) ?_;clear H;intro wq H;(try simp only [LS] at H))));(try simp only [Act.put,LP]);refine Bc (Au rfl Bz rfl (H.blk 2 rfl) rfl) rfl ?_;rw [HRN.Ab];exact ⟨rfl,H.to⟩
   |true=>
    have cg:w5.cell? ⟨pz,5,none⟩=some (.bool p.g):=(H.blk 5 rfl).cell 5;cases hg:p.g with
    |false=>
     have JS:=Aa (aI HN OU HPc HZk hL hg);rw [hg] at cg;clear hL HN HLV F4 hg;go_wp2_with fail;clear cg;rw [←jS.Ab];replace H:=Aa (H.Fg [0,1,2,3,4] Za1 uH);(try simp only [LS] at H);go_roundg (n - (k+1));case rel=>exact ⟨k+1,A,c,l,rfl,Xl,Xl,by go_num,JS,H⟩
     case measure=>rw [Cs.Ab];omega
    |true=>
     have QO:=aH HN OU HPc HZk hL hg;obtain ⟨z,hz⟩:∃ z,z=DI D.Ac.Bi 0 p.Ac.Mf key:=⟨_,rfl⟩;rw [←hz] at QO;rw [show DI (D.tr.l.map Bt.Ac) 0 p.Mf key=z from hz.symm] at F4;rw [hg] at cg;replace HN:=Aa QO;clear hL HLV hg hz QO HB0;go_upto_region 9 with fail;clear cg;refine Eo (S:=fun W=>Bh W dz 73 D.cs∧W.cell? ⟨pz,6,none⟩=some (.int .i64 p.Mf)∧W.cell? ⟨fx,0,none⟩=some (.slice (some ⟨bk,uX,none⟩) f.ks.n f.ks.c)∧W.cell? ⟨bk,uX+k,none⟩=some (.int .i64 key)) Za0 ⟨H.blk 6 rfl,(H.blk 5 rfl).cell 6,by rw [←TY.Ab];exact (H.blk 1 rfl).cell 0,by first|exact Nh _ H.to|exact Nh _ H.to.drew⟩ fun hHeld=>?_;replace H:=Aa (H.drew);generalize World.drew _=w8 at *;refine Bd Ml ?_;refine Lx (i:=2) (v:=.agg D.cs) MN Za0 Za0 Za0 Za7 (DU CX (by rfl) (.tmp 11) rfl dz 0 rfl (fun w h=>Bh.part h.1 0 D.cs.toList rfl) rfl) Zb0 ?_;try simp only [Act.put,LP]
     refine Bd Ky ?_;refine Bd LJ ?_;refine Bd KW ?_;refine Bd MI ?_;refine Bd Lj ?_;refine Bd Mk ?_;refine Bd MH ?_;refine Oh KF FO (fun KK Ad=>?_) fun KK Ad=>?_
     ·have Qt:=(H.blk 3 rfl).cell 0;replace Qt:=Qt.trans (show _=some (Value.slice A l.length c) from rfl);go_simp;clear Qt;refine Aj Ad ⟨H.blk 6 rfl,(H.blk 5 rfl).cell 6,by rw [←TY.Ab];exact (H.blk 1 rfl).cell 0,by first|exact Nh _ H.to|exact Nh _ H.to.drew⟩ fun hHeld=>?_;clear Ad KK;refine BG FO fun KK Ad=>?_;go_simp;refine (F4 _ H.to).mono ?_;rintro e' w6 ⟨rfl,hb6⟩;replace H:=Aa (H.Av hb6);clear hb6;exact Zn2
     ·go_simp;refine (F4 _ H.to).mono ?_;rintro e' w6 ⟨rfl,hb6⟩;replace H:=Aa (H.Av hb6);clear hb6;refine Aj Ad ⟨H.blk 6 rfl,(H.blk 5 rfl).cell 6,by rw [←TY.Ab];exact (H.blk 1 rfl).cell 0,by first|exact Nh _ H.to|exact Nh _ H.to.drew⟩ fun hHeld=>?_;clear Ad KK;refine Oh KF Ga (fun KK Ad=>?_) fun KK Ad=>?_
      ·have Qt:=(H.blk 3 rfl).cell 0;replace Qt:=Qt.trans (show _=some (Value.slice A l.length c) from rfl);go_simp;clear Qt;exact Zn2
      ·refine BP rfl LM (.tmp 54) rfl (.int .i64 z) rfl #[.int .i64 z] rfl rfl Xl ?_;replace H:=Aa (H.alloc #[.int .i64 z] 3);(try simp only [LS] at H);refine Aj Ad ⟨H.blk 6 rfl,(H.blk 5 rfl).cell 6,by rw [←TY.Ab];exact (H.blk 1 rfl).cell 0,by first|exact Nh _ H.to|exact Nh _ H.to.drew⟩ fun hHeld=>?_;clear Ad KK;refine BG KF fun KK Ad=>?_;have Qt:=(H.blk 3 rfl).cell 0;replace Qt:=Qt.trans (show _=some (Value.slice A l.length c) from rfl);go_simp;clear Qt;exact Zi4
  ·have HRN:Hid (R=some l):=iM HN (by rw [HQL.Ab];omega);clear HN;go_wp2_with (first|((with_reducible refine OP 59 ?_);(refine Bf Bz (H.blk 3 rfl) ?_))|((with_reducible refine OS 6 ?_);(refine Cj Bz H 2 rfl ((Br.mk ⟨A,l.length,c,l⟩ f.ag).cs) (EA _) ?_;clear H;intro wq H;(try simp only [LS] at H))));(try simp only [Act.put,LP]);refine Bc (Au rfl Bz rfl (H.blk 2 rfl) rfl) rfl ?_;rw [HRN.Ab];exact ⟨A,c,rfl,H.to,H.M7 4 rfl⟩
theorem RO:∀ {ds:List DC} {ps:List PC} {ks l:List Int},(∀ d ∈ ds,BD d=0)→ps.length=ds.length→Dq ds ps=0→OT ds ks→EP ds ps ks=some l→(∀ z ∈ l,AZ z)∧l.length≤ds.length
 |[],[],[],l,_,_,_,_,h=>by
  simp only [EP] at h;injection h with h;subst h;exact ⟨fun z hz=>(by cases hz),Ci _⟩
 |d::ds,p::ps,k::ks,l,hok,hl,hp,hk,h=>by
  have hp1:DL d p=0:=by
   rw [Dq] at hp;split at hp;· (rename_i h1;exact absurd hp h1)
   ·rename_i h1;exact jY.1 h1
  have hp2:Dq ds ps=0:=by rw [Dq,Ak (by simp [hp1])] at hp;exact hp
  rw [EP] at h;split at h
  ·cases hr:EP ds ps ks with
   |none=>rw [hr] at h;cases h
   |some m=>
    rw [hr] at h;simp only [Option.map_some] at h;injection h with h;subst h;obtain ⟨i1,i2⟩:=RO (fun x hx=>hok x (Ii _ hx)) Zd1 hp2 hk.2 hr;have hb:=(IK hp1).b;cases hg:p.g with
    |false=>
     rw [Ak uH];exact ⟨i1,by rw [En];omega⟩
    |true=>
     rcases hb with ⟨_,b0,b1⟩|⟨hx,_⟩
     ·have hde:=hok d Gg;obtain ⟨_,_,_,d5⟩:=ER hde;have hA:=Gq d5;obtain ⟨⟨k0,k1⟩,_⟩:=hk;obtain ⟨n,rfl⟩:∃ n:Nat,k=n:=⟨k.toNat,Xl⟩;obtain ⟨b,hbb⟩:∃ n:Nat,p.Mf=n:=⟨p.Mf.toNat,Xl⟩;have hlt:b<d.Bi.length:=by omega
      have hlw:=OH hA (f:=0) (t:=b) (i:=n) Xl hlt Xl;have e2:Et d.Bi b=d.Bi[b].ts.length:=by unfold Et;rw [Fp hlt]
      have h200:=(PE hde d.Bi[b] (List.getElem_mem hlt)).2;rw [e2] at hlw;have hlw0:=hlw.2.1;have hlw1:=hlw.2.2;simp only [Int.natCast_zero] at hlw0 hlw1;rw [Al rfl,hbb];refine ⟨fun z hz=>?_,by rw [En,En];omega⟩;rcases FJ.1 hz with rfl|hz
      ·unfold AZ;omega
      ·exact i1 z hz
     ·rw [hg] at hx;cases hx
  ·cases h
 |[],[],_::_,_,_,_,_,hk,_=>hk.elim
 |[],_::_,_,_,_,hl,_,_,_=>by simp at hl
 |_::_,[],_,_,_,hl,_,_,_=>by simp at hl
 |_::_,_::_,[],_,_,_,_,hk,_=>hk.elim
theorem Pb:∀ {ds:List DC} {ps:List PC} {ks:List Int} {acc ts:List (List UInt8)},(∀ d ∈ ds,∀ tr ∈ d.Bi,∀ t ∈ tr.ts,t.length≤16)→(∀ t ∈ acc,t.length≤16)→CJ ds ps ks acc=.ok ts→(∀ t ∈ ts,t.length≤16)∧ts.length≤acc.length+ds.length
 |d::ds,p::ps,ks,acc,ts,hd,ha,h=>by
  have hd2:∀ x ∈ ds,∀ tr ∈ x.Bi,∀ t ∈ tr.ts,t.length≤16:=fun x hx=>hd x (Ii _ hx)
  rw [CJ] at h;split at h
  ·cases ht:d.Bi[p.Mf.toNat]? with
   |none=>rw [ht] at h;cases h
   |some tr=>
    rw [ht] at h;simp only at h
    match ks,h with
    |[],h=>cases h
    |k::ks,h=>
     simp only at h;split at h
     ·cases h
     ·cases hx:tr.ts[k.toNat]? with
      |none=>rw [hx] at h;cases h
      |some t=>
       rw [hx] at h;simp only at h;have ht2:=hd d Gg tr (CU ht) t (CU hx);obtain ⟨i1,i2⟩:=Pb hd2 (fun y hy=>(Eb.1 hy).elim (ha y) (fun h=>by rw [Ee] at h;subst h;exact ht2)) h;refine ⟨i1,?_⟩;rw [Cn] at i2;rw [En];simp only [En,Ot] at i2;omega
  ·obtain ⟨i1,i2⟩:=Pb hd2 ha h;exact ⟨i1,by rw [En];omega⟩
 |[],ps,[],acc,ts,_,ha,h=>by
  simp only [CJ] at h;injection h with h;subst h;exact ⟨ha,uH⟩
 |[],ps,_::_,acc,ts,_,ha,h=>by
  simp only [CJ] at h;cases h
 |d::ds,[],[],acc,ts,_,ha,h=>by
  simp only [CJ] at h;injection h with h;subst h;exact ⟨ha,uH⟩
 |d::ds,[],_::_,acc,ts,_,ha,h=>by
  simp only [CJ] at h;cases h
theorem K4 {s:SC} (hE:Ay s=0):∀ d ∈ s.Dx,∀ tr ∈ d.Bi,∀ t ∈ tr.ts,t.length≤16:=fun d hd tr htr t ht=>((zR hE d hd).2.2 tr htr).2.1 t ht
theorem XO {s:SC} {q:List PC} {ks:List Int} {ts:List (List UInt8)} (hE:BV s q=0) (h:Ey s q ks=.ok ts):(∀ t ∈ ts,t.length≤16)∧ts.length≤16:=by
 obtain ⟨h1,h2,h3⟩:=EB hE;unfold Ey at h;rw [Ak Zb9] at h;obtain ⟨i1,i2⟩:=Pb (K4 h1) (fun t ht=>by cases ht) h;have:=(BH h1).2.1;exact ⟨i1,by simp only [Ot] at i2;omega⟩
theorem XV {s:SC} {q:List PC} {l:List CZ} {k:Nat} {f:CZ} (h:l[k]?=some f):Di s q (l.take (k+1))=Di s q (l.take k)++(match EP s.Dx q f.1 with|none=>[]|some ks=>[(ks,f.2)]):=by
 unfold Di;rw [Ra,h,List.filterMap_append];cases hp:EP s.Dx q f.1<;>simp [hp]
theorem aQ {s:SC} {q:List PC} {l:List CZ} {k:Nat} {f:CZ} (h:l[k]?=some f):NV s q (l.take (k+1))=NV s q (l.take k)++[(Pf s q f.1,f.2)]:=by
 unfold NV;rw [Ra,h,Cf];simp
theorem iV {f:Br} {w:World} (h:(Ce 3 1 (.slice f.ks.A f.ks.n f.ks.c) f.ks.n (f.ks.l.map (Value.int .i64))).holds w) (hk:∀ z ∈ f.ks.l,AZ z) (hn:f.ks.n≤1000000) (ha:f.ag.ok):(iC f).holds w:=
 ⟨h.1,fun w' hs hk'=>⟨RP (x:=f.ks) (by rw [Gz];exact h.2 w' hs hk') hk (by show f.ks.n * 8≤_;omega),ha⟩⟩
theorem p9 {A:Option Addr} {n c:Nat} {L:List Br} {w:World} (h1:(Ce 97 11 (.slice A n c) n (L.flatMap AY.cells)).holds w) (h2:(Gw iC L).holds w) (hn:n≤1000000):(Row.mk A n c L).ok w:=
 RP (x:=⟨A,n,c,L⟩) h1.now (fun f hf=>(h2.now.1 f hf).now) (by show n * 104≤_;omega)
abbrev Yp (g:KY):FM:=⟨(Ce 9 1 (.slice g.ks.A g.ks.n g.ks.c) g.ks.n (g.ks.l.map tx)).D,fun w=>g.rd w⟩
theorem iU {g:KY} {w:World} (h:(Ce 9 1 (.slice g.ks.A g.ks.n g.ks.c) g.ks.n (g.ks.l.map tx)).holds w) (hk:∀ z ∈ g.ks.l,z.length≤16) (hn:g.ks.n≤1000000) (ha:g.ag.ok):(Yp g).holds w:=
 ⟨h.1,fun w' hs hk'=>⟨⟨by rw [IQ];exact Rd.BC (h.2 w' hs hk'),fun t ht=>by have:=hk t ht;show t.length≤_;omega,Xl⟩,ha⟩⟩
theorem An9 {A:Option Addr} {n c:Nat} {L:List KY} {w:World} (h1:(Ce 136 11 (.slice A n c) n (L.flatMap AY.cells)).holds w) (h2:(Gw Yp L).holds w) (hn:n≤1000000):(Row.mk A n c L).rd w:=
 ⟨Rd.BC h1.now,fun f hf=>(h2.now.1 f hf).now,by show n≤_;omega⟩
theorem rZ (f:KY):∀ u ∈ f.cs.toList,u.oneCell'=true:=fun u hu=>Nb.1 (p8 f) u Zc2
theorem G6:Cy prog 46 136 11 104:=Cy.mk' (z:=.agg #[.slice none 0 0,.int .i64 0,.int .i64 0,.int .i64 0,.int .i64 0,.int .i64 0,.int .i64 0,.int .i64 0,.int .i64 0,.int .i64 0,.int .i64 0]) underlying46 Za0 rfl Xl
theorem Aa6 (A:Option Addr) (n c:Nat) (l:List (List UInt8)) (a:Ag) (w:World):(Instr.build 136 #[(0,.slice A n c),(1,.agg a.cs)]).run prog w=.ok (.agg (KY.mk ⟨A,n,c,l⟩ a).cs) w:=by kernel_rfl
theorem ZE (x:JZ) (E:Ct):Ea x.ms 0 E.cs.toList=(JZ.mk E x.rows x.has x.closed).ms:=by
 simp [Ea]
def uF (T:Nat→Prop) (B:Nat) (o:MC × Int) (w:World) (e:Ending) (w':World):Prop:=
 ∃ y:JZ,e=.returned (.agg (Es.err o.2).cs)∧Fr (One B) w w'∧Bh w' B 86 y.ms∧y.Ac=o.1∧ET T w' fun w=>y.rd w
theorem Zg9 {p:Prop} (h:p:=by (try simp only [Act.put,LP]);refine Bc (AO rfl AL rfl (H.blk 2 rfl) rfl) rfl ?_;rw [HO.Ab];exact ⟨x,rfl,H.fr,H.blk 0 rfl,rfl,Ns _ H.fr⟩):p:=h
theorem Zr4 {p:Prop} (h:p:=by replace H:=Aa (H.Av hbf);clear hbf;go_wp2_with ((with_reducible refine OS 4 ?_);(refine Cj AL H 2 rfl ((Es.err (K)).cs) (BJ _) ?_;clear H;intro wq H;(try simp only [LS] at H)));exact Zg9):p:=h
theorem qW (T:Nat→Prop) (B:Nat) (x:JZ) (c:Wt) (w:World) (hb:Bh w B 86 x.ms) (hT:∀ g,T g→g<w.heap.size) (hTB:T B) (hx:ET T w fun w=>x.rd w) (hc:c.data.length≤140737488351232):
 Calls prog 34 #[.pointer (some ⟨B,0,none⟩),.agg c.cs] w (uF T B (IP x.Ac c.data) w):=by
 have Tg:=Aa (fun w'=>oH c.data w' hc);have HX:=Aa hx;have HX2:=Aa (fun w' (k:Fr (One B) w w')=>hx w' (k.mono fun g (hg:g=B)=>hg ▸ hTB));have Ns:=Aa (fun w' (k:Fr (One B) w w')=>hx.fr (k.mono fun g (hg:g=B)=>hg ▸ hTB));have Yw:=Aa hT;have H:=Aa (((SL.blk1 w hb).alloc c.cs 41).alloc #[.int .i64 0,.slice none 0 0,.slice none 0 0] 49);(try simp only [LS] at H);clear hb hT hx hc;go_enter func34,ntmps34;go_upto_region 1 with fail;generalize w.heap.size+1=y at H ⊢;generalize w.heap.size=q at H ⊢;generalize World.alloc (World.alloc _ _) _=w0 at H ⊢;have c10:w0.cell? ⟨B,10,none⟩=some (.bool x.has):=(H.blk 0 rfl).cell 10;cases hh:x.has with
 |true=>
  have HO:Hid (IP x.Ac c.data=(x.Ac,11)):=by show _=_;unfold IP;rw [Al (show x.Ac.has=true from hh)]
  have HR:Hid (x=⟨x.ct,x.rows,true,x.closed⟩):=by show _=_;rw [←hh]
  rw [hh] at c10;go_wp2_with fail;clear c10;refine (DT 11 w0).mono ?_;rintro e wf ⟨rfl,hbf⟩;replace H:=Aa (H.Av hbf);clear hbf;go_wp2_with ((with_reducible refine OS 4 ?_);(refine Cj AL H 2 rfl ((Es.err (11)).cs) (BJ _) ?_;clear H;intro wq H;(try simp only [LS] at H)));exact Zg9
 |false=>
  have HHF:Hid (x.Ac.has=false):=hh;rw [hh] at c10;have c1:w0.cell? ⟨q,1,none⟩=some (.string ⟨c.data.toArray⟩):=(H.blk 1 rfl).cell 1;go_wp2_with fail;refine (Tg w0).mono ?_;rintro e w1 ⟨D,rfl,hD,hb1,hN⟩;replace H:=Aa (H.add hb1 _ hN.1 hN.2);(try simp only [LS] at H);have HD:=Aa hD;clear hD hb1 hN c10 c1 Tg;go_upto_region 4 with ((with_reducible refine OS 5 ?_);(refine DX Bb (D.cs) (FE D) ?_;replace H:=Aa (H.alloc (D.cs) 25);(try simp only [LS] at H)));(try simp only [Act.put,LP]);(try simp only [LS] at H);generalize w1.heap.size=z at H ⊢;generalize World.alloc w1 _=w2 at H ⊢;obtain ⟨K,hK⟩:∃ K,K=(Ex c.data).2:=⟨_,rfl⟩;rw [←hK];have HK:=Aa hK;clear hK;by_cases hz:K=0
  ·have HO:Hid (IP x.Ac c.data=(⟨⟨(Ex c.data).1,0,0,0,0,0,0,0⟩,x.Ac.rows,true,x.Ac.closed⟩,0)):=by show _=_;unfold IP;rw [Ak (by rw [HHF.Ab];decide),Ak (by rw [←HK.Ab,hz];decide)]
   have HE:Hid (Ay D.Ac=0):=by show _=_;rw [HD.Ab];exact Vs (by rw [←HK.Ab,hz])
   have dk:(K !=0)=false:=by simpa using hz
   clear HK hz;go_wp2_with ((with_reducible refine OP 24 ?_);(refine Bf Bb (H.blk 4 rfl) ?_));refine (tN D w2 (H.at_ 3 rfl).rd (GH (H.at_ 3 rfl))).mono ?_;rintro e w3 ⟨E,rfl,hE,hEr,hEm,hb3,hN⟩;replace H:=Aa (H.add hb3 _ hN.1 hN.2);(try simp only [LS] at H);have HEC:Hid (E.Ac=⟨D.Ac,0,0,0,0,0,0,0⟩):=by show _=_;rw [hE];unfold dI;rw [Ak (by rw [HE.Ab];decide)]
   have HEI:=Aa (And.intro hEr.ints hEm);clear hE hEr hEm hb3 hN;go_upto_region 7 with ((with_reducible refine OS 29 ?_);refine Bq rfl BI (.tmp 29) (.tmp 26) rfl B 0 rfl (H.blk 0 rfl) E.cs rfl uH rfl (Oc E) ?_;intro wq bq Aq;rw [ZE] at bq;replace H:=Aa (H.AA 0 rfl Aq bq);(try simp only [LS] at H);clear Aq bq);(try simp only [Act.put,LP]);have cz:=(H.blk 0 rfl).Ap 10;have fz:=(H.blk 0 rfl).frozen 10;go_wp2_with fail;replace H:=Aa (H.setCell 0 rfl 10 (.bool true));(try simp only [LS] at H);clear cz fz;refine (DT 0 _).mono ?_;rintro e wf ⟨rfl,hbf⟩;replace H:=Aa (H.Av hbf);clear hbf;go_wp2_with ((with_reducible refine OS 4 ?_);(refine Cj AL H 2 rfl ((Es.err (0)).cs) (BJ _) ?_;clear H;intro wq H;(try simp only [LS] at H)));(try simp only [Act.put,LP]);refine Bc (AO rfl AL rfl (H.blk 2 rfl) rfl) rfl ?_;have h3:=(ET.LY (T:=T) (r:=Kj E.sc) ⟨H.get 5 rfl,H.VG 5 0 Za1 rfl rfl rfl⟩ Yw.Ab);have h4:=Ns _ H.fr;rw [HO.Ab];refine ⟨⟨E,x.rows,true,x.closed⟩,rfl,H.fr,H.blk 0 rfl,?_,fun wz kz=>⟨HEI.1.rd (h3 wz kz),HEI.2,(h4 wz kz).rows⟩⟩;show MC.mk E.Ac _ true _=_;rw [HEC.Ab,HD.Ab]
   rfl
  ·have HO:Hid (IP x.Ac c.data=(x.Ac,K)):=by show _=_;unfold IP;rw [Ak (by rw [HHF.Ab];decide),Al (by rw [←HK.Ab];exact hz),←HK.Ab]
   have dk:(K !=0)=true:=by simpa using hz
   clear HK hz;go_wp2_with fail;refine (DT K w2).mono ?_;rintro e wf ⟨rfl,hbf⟩;exact Zr4
theorem kH {X:Row Rw} {L:List (Row Int)} {A:Option Addr} {c:Nat} {w:World} (hL:L.map Row.l=X.l.map (fun r=>r.vs.l)) (hn:X.l.length≤1000000) (hs:∀ r ∈ X.l,r.vs.l.length≤3∧∀ v ∈ r.vs.l,AZ v)
 (h1:(Ce 36 1 (.slice A X.l.length c) X.l.length (L.map Row.v)).holds w) (h2:(Gw rIv L).holds w):(Row.mk A X.l.length c L).rd w:=by
 have o1:w.ownsRow 0 36 1 (.slice A X.l.length c) X.l.length (L.map Row.v):=h1.now;have hlen:L.length=X.l.length:=by have h:=CW List.length hL;rw [CQ,CQ] at h;exact h
 refine ⟨by show Rd _ _ _ _ (L.flatMap _);rw [jG];exact Rd.BC o1,fun y hy=>?_,by show X.l.length≤_;omega⟩;have o2:w.ownsRow 0 2 1 (.slice y.A y.n y.c) y.n (y.l.map (Value.int .i64)):=(h2.now.1 y hy).now;have hl:y.l.length=y.n:=by have:=o2.1;rw [CQ] at this;omega
 have hm:y.l ∈ X.l.map (fun r=>r.vs.l):=by rw [←hL];exact Kc.2 ⟨y,hy,rfl⟩
 obtain ⟨r,hr,e⟩:=Kc.1 hm;have h3:=hs r hr;rw [e] at h3;exact RP (by rw [Gz];exact o2) h3.2 (by show y.n * 8≤_;omega)
theorem Ze8 {p:Prop} (h:p:=by rw [show x.Ac.cat=x.ct.Ac from rfl,show x.ct.Ac.sc=x.ct.sc.Ac from rfl,←UZ.Ab];simp only;rw [Al hK]):p:=h
theorem Zs9 {p:Prop} (h:p:=by show _=_;unfold DF;rw [show x.Ac.cat=x.ct.Ac from rfl,show x.ct.Ac.sc=x.ct.sc.Ac from rfl,←UZ.Ab];simp only;rw [←HG.Ab];simp only;rw [Ak uH,Al hK]):p:=h
theorem Zh5 {p:Prop} (h:p:=by show World.ownsRow _ 0 _ _ _ _ _;rw [EM];exact h1 wz kz):p:=h
theorem Zh6 {p:Prop} (h:p:=by show (x.rows.n+F.n) * 104≤_;omega):p:=h
theorem iP (T:Nat→Prop) (B:Nat) (x:JZ) (c:Wt) (w:World) (hb:Bh w B 86 x.ms) (hT:∀ g,T g→g<w.heap.size) (hTB:T B) (hx:ET T w fun w=>x.rd w) (hc:c.data.length≤140737488351232) (hi:MInv x.Ac) (hh:x.has=true):
 Calls prog 35 #[.pointer (some ⟨B,0,none⟩),.agg c.cs] w (uF T B (DF x.Ac c.data) w):=by
 have hx0:=hx.now;have hsm:=hx0.sm;have nO:=Aa hsm;have HBT:=Aa (fun w' (hr:x.ct.sc.rd w')=>tT x.ct.sc c.data w' hr hc hsm.1 hsm.2.1 hsm.2.2);have rC:x.rows.n≤4000:=by have h1:=hi.len;have h2:=hx0.rows.len;have h3:x.Ac.rows.length=x.rows.l.length:=AR _;omega
 have HCF:=Aa (fun w' (hr:x.rows.ok w')=>yM x.rows w' hr Xl);have HX:=Aa hx;have HX2:=Aa (fun w' (k:Fr (One B) w w')=>hx w' (k.mono fun g (hg:g=B)=>hg ▸ hTB));have Ns:=Aa (fun w' (k:Fr (One B) w w')=>hx.fr (k.mono fun g (hg:g=B)=>hg ▸ hTB));have Yw:=Aa hT;have H:=Aa (((SL.blk1 w hb).alloc c.cs 41).alloc #[.int .i64 0,.slice none 0 0,.slice none 0 0] 49);(try simp only [LS] at H);clear hb hT hx hc hx0 hsm hi hh;go_enter func35,ntmps35;go_upto_region 1 with fail;generalize w.heap.size+1=y at H ⊢;generalize w.heap.size=q at H ⊢;generalize World.alloc (World.alloc _ _) _=w0 at H ⊢;refine' Ac1 (P:=fun (X:Row Rw) wq=>X.l.map Rw.Ac=(De x.ct.sc.Ac c.data).1∧SL (One B) w wq [Aw B 86 x.ms,Aw q 41 c.cs,Aw y 49 #[.int .i64 0,.slice none 0 0,.slice none 0 0],eY X]) (fun key=>?mn) ?tl;case mn=>
  refine Eo (S:=fun W=>Bh W B 86 x.ms∧W.cell? ⟨q,1,none⟩=some (.string ⟨c.data.toArray⟩)) Za0 ⟨H.blk 0 rfl,(H.blk 1 rfl).cell 1⟩ fun hHeld=>?_;replace H:=Aa (H.drew);generalize World.drew _=w8 at *;refine Bd Ml ?_;refine Bd KF ?_;refine Bd MN ?_;refine Bd Ky ?_;refine Lx (i:=4) (v:=.agg x.ct.sc.cs) LJ Za0 Za0 Za0 Za7 (DU Bb (by rfl) (.tmp 14) rfl B 0 rfl (fun w h=>Bh.part h.1 0 x.ct.sc.cs.toList rfl) rfl) Zb0 ?_;try simp only [Act.put,LP]
  refine Bd KW ?_;refine Bd MI ?_;refine BG Lj fun KK Ad=>?_;go_simp;refine (HBT _ (HX2 _ H.fr).ct.sc).mono ?_;rintro e' w1 ⟨X,rfl,hX,hb1,hN⟩;replace H:=Aa (H.add hb1 _ hN.1 hN.2);(try simp only [LS] at H);have fO:=Aa hX;clear hX hb1 hN;refine Aj Ad ⟨H.blk 0 rfl,(H.blk 1 rfl).cell 1⟩ fun hHeld=>?_;clear Ad KK;refine Bd Mk ?_;refine Bd MH ?_;refine Bd FO ?_;refine Bd Ga ?_;refine Bd Hw ?_;refine BZ ?_;clear hHeld;exact key X _ ⟨fO.Ab,H.Ab⟩
 case tl=>
  rintro X wq ⟨hX,hH⟩;replace H:=Aa hH;clear hH HBT;(try simp only at H);obtain ⟨O,hO⟩:∃ O,O=De x.ct.sc.Ac c.data:=⟨_,rfl⟩;rw [←hO] at hX ⊢;have UZ:=Aa hO;clear hO;obtain ⟨R,K⟩:=O;simp only at hX ⊢;by_cases hK:K=0
  ·subst hK;have hB:CR x.ct.sc.Ac R=0:=by have h:=Qy (s:=x.ct.sc.Ac) (b:=c.data) (by rw [←UZ.Ab]);rw [←UZ.Ab] at h;exact h
   obtain ⟨b1,b2,b3⟩:=IE hB;have hXr:=(H.at_ 3 rfl:X.rd wq∧X.n≤300);have hxl:X.l.length=X.n:=hXr.1.len;have E9:Hid (X.l.length≤1000000):=by show _≤_;omega
   have hvs:∀ r ∈ X.l,r.vs.l.length≤3∧∀ v ∈ r.vs.l,AZ v:=fun r hr=>by
    have hm:r.Ac ∈ R:=by rw [←hX];exact Kc.2 ⟨r,hr,rfl⟩
    obtain ⟨ks,hk⟩:=b3 r.Ac hm;exact ⟨(WM b1 hk).2.1,(Rw.rd.vs (hXr.1.all r hr)).all⟩
   have HVS:=Aa hvs;have HVA:=Aa (fun w' (hr:X.rd w')=>vI X w' hr Xl (fun r h=>by have h1:=(hvs r h).1;have h2:=(Rw.rd.vs (hr.all r h)).len;omega));have HVR:Hid (X.l.map (fun r=>r.vs.l)=R.map (·.vs)):=by show _=_;rw [←hX,Ri];rfl
   have fO:Hid (X.l.map Rw.Ac=R):=hX;have HBE:=Aa hB;have hx3:=hXr.2;clear hB b1 b2 b3 hXr hxl hvs hX;go_upto_region 4 with fail;obtain ⟨G,hG⟩:∃ G,G=Fx x.ct.Ac (R.map (·.vs)):=⟨_,rfl⟩;refine' G9 (P:=fun z (VA:Option Addr) (vc:Nat) (D:Ct) wr=>D.Ac=(Fx x.ct.Ac (R.map (·.vs))).1∧(D.ints∧C9 D.sc)∧SL (One B) w wr [Aw B 86 x.ms,Aw q 41 c.cs,Aw y 49 #[.int .i64 0,.slice none 0 0,.slice none 0 0],eY X,Kj D.sc,Aw z 63 D.cs]) (fun key=>?mn2) ?tl2;case mn2=>
    refine Eo (S:=fun W=>Bh W B 86 x.ms) Za0 (H.blk 0 rfl) fun hHeld=>?_;replace H:=Aa (H.drew);generalize World.drew _=w8 at *;refine Bd Ml ?_;refine Bd KF ?_;refine Bd MN ?_;refine Lx (i:=3) (v:=.agg x.ct.cs) Ky Za0 Za0 Za0 Za7 (DU BI (by rfl) (.tmp 28) rfl B 0 rfl (fun w h=>Bh.part h 0 x.ct.cs.toList rfl) rfl) Zb0 ?_;try simp only [Act.put,LP]
    refine Bd LJ ?_;refine Oh KW FO (fun KK Ad=>?_) fun KK Ad=>?_
    ·go_simp;refine (HVA _ (H.at_ 3 rfl).1).mono ?_;rintro e' w5 ⟨VA,vc,L,rfl,hL,hV⟩;replace H:=Aa (H.join hV);(try simp only [LS] at H);have HL:=Aa hL;clear hL hV;refine Aj Ad (H.blk 0 rfl) fun hHeld=>?_;clear Ad KK;refine Oh MI FO (fun KK Ad=>?_) fun KK Ad=>?_
     ·go_simp;refine (Qv x.ct ⟨VA,X.l.length,vc,L⟩ _ (HX2 _ H.fr).ct nO (kH HL E9 HVS (H.get 4 rfl) (H.get 5 rfl)) E9.Ab).mono ?_;rintro e' w6 ⟨D,rfl,hD,Fj,rW,hb6,hN⟩;replace H:=Aa (H.add hb6 _ hN.1 hN.2);(try simp only [LS] at H);have hLL:L.map (fun y=>y.l)=R.map (·.vs):=HL.trans HVR.Ab;simp only at hD;rw [hLL] at hD;rw [hLL];have HD:=Aa hD;have HDI:=Aa (And.intro Fj.ints rW);clear hD Fj rW hb6 hN hLL HL;refine Aj Ad (H.blk 0 rfl) fun hHeld=>?_;clear Ad KK;refine Bd Lj ?_;refine Bd Mk ?_;refine Bd MH ?_;refine BG FO fun KK Ad=>?_;go_simp;replace H:=Aa (H.alloc #[.slice none 0 0,.slice none 0 0,.int .i64 0,.int .i64 0,.int .i64 0,.int .i64 0,.int .i64 0,.int .i64 0,.int .i64 0] 63);(try simp only [LS] at H);generalize w6.heap.size=z at H ⊢;generalize World.alloc w6 _=w7 at H ⊢;refine Aj Ad (H.blk 0 rfl) fun hHeld=>?_;clear Ad KK;refine BG Ga fun KK Ad=>?_;refine CK rfl BI (.tmp 7) (.tmp 33) rfl _ rfl (H.blk 7 rfl) rfl (D.cs) rfl rfl (Oc D) ?_;intro wq bq Aq;replace H:=Aa (H.AA 7 rfl Aq bq);(try simp only [LS] at H);clear Aq bq;refine Aj Ad (H.blk 0 rfl) fun hHeld=>?_;clear Ad KK;refine Bd Hw ?_;refine BZ ?_;clear hHeld;replace H:=Aa (H.Fg [0,1,2,3,6,7] Za1 uH);(try simp only [LS] at H);exact key z VA vc D _ ⟨HD.Ab,HDI.Ab,H.Ab⟩
     ·go_simp;replace H:=Aa (H.alloc #[.slice none 0 0,.slice none 0 0,.int .i64 0,.int .i64 0,.int .i64 0,.int .i64 0,.int .i64 0,.int .i64 0,.int .i64 0] 63);(try simp only [LS] at H);generalize w5.heap.size=z at H ⊢;generalize World.alloc w5 _=w7 at H ⊢;refine Aj Ad (H.blk 0 rfl) fun hHeld=>?_;clear Ad KK;refine BG MI fun KK Ad=>?_;go_simp;refine (Qv x.ct ⟨VA,X.l.length,vc,L⟩ _ (HX2 _ H.fr).ct nO (kH HL E9 HVS (H.get 4 rfl) (H.get 5 rfl)) E9.Ab).mono ?_;rintro e' w6 ⟨D,rfl,hD,Fj,rW,hb6,hN⟩;replace H:=Aa (H.add hb6 _ hN.1 hN.2);(try simp only [LS] at H);have hLL:L.map (fun y=>y.l)=R.map (·.vs):=HL.trans HVR.Ab;simp only at hD;rw [hLL] at hD;rw [hLL];have HD:=Aa hD;have HDI:=Aa (And.intro Fj.ints rW);clear hD Fj rW hb6 hN hLL HL;refine Aj Ad (H.blk 0 rfl) fun hHeld=>?_;clear Ad KK;refine Bd Lj ?_;refine Bd Mk ?_;refine Bd MH ?_;refine BG Ga fun KK Ad=>?_;refine CK rfl BI (.tmp 7) (.tmp 33) rfl _ rfl (H.blk 6 rfl) rfl (D.cs) rfl rfl (Oc D) ?_;intro wq bq Aq;replace H:=Aa (H.AA 6 rfl Aq bq);(try simp only [LS] at H);clear Aq bq;refine Aj Ad (H.blk 0 rfl) fun hHeld=>?_;clear Ad KK;refine Bd Hw ?_;refine BZ ?_;clear hHeld;replace H:=Aa (H.Fg [0,1,2,3,7,6] Za1 uH);(try simp only [LS] at H);exact key z VA vc D _ ⟨HD.Ab,HDI.Ab,H.Ab⟩
    ·go_simp;replace H:=Aa (H.alloc #[.slice none 0 0,.slice none 0 0,.int .i64 0,.int .i64 0,.int .i64 0,.int .i64 0,.int .i64 0,.int .i64 0,.int .i64 0] 63);(try simp only [LS] at H);generalize w8.heap.size=z at H ⊢;generalize World.alloc w8 _=w7 at H ⊢;refine Aj Ad (H.blk 0 rfl) fun hHeld=>?_;clear Ad KK;refine BG KW fun KK Ad=>?_;go_simp;refine (HVA _ (H.at_ 3 rfl).1).mono ?_;rintro e' w5 ⟨VA,vc,L,rfl,hL,hV⟩;replace H:=Aa (H.join hV);(try simp only [LS] at H);have HL:=Aa hL;clear hL hV;refine Aj Ad (H.blk 0 rfl) fun hHeld=>?_;clear Ad KK;refine BG MI fun KK Ad=>?_;go_simp;refine (Qv x.ct ⟨VA,X.l.length,vc,L⟩ _ (HX2 _ H.fr).ct nO (kH HL E9 HVS (H.get 5 rfl) (H.get 6 rfl)) E9.Ab).mono ?_;rintro e' w6 ⟨D,rfl,hD,Fj,rW,hb6,hN⟩;replace H:=Aa (H.add hb6 _ hN.1 hN.2);(try simp only [LS] at H);have hLL:L.map (fun y=>y.l)=R.map (·.vs):=HL.trans HVR.Ab;simp only at hD;rw [hLL] at hD;rw [hLL];have HD:=Aa hD;have HDI:=Aa (And.intro Fj.ints rW);clear hD Fj rW hb6 hN hLL HL;refine Aj Ad (H.blk 0 rfl) fun hHeld=>?_;clear Ad KK;refine Bd Lj ?_;refine Bd Mk ?_;refine Bd MH ?_;refine BG Ga fun KK Ad=>?_;refine CK rfl BI (.tmp 7) (.tmp 33) rfl _ rfl (H.blk 4 rfl) rfl (D.cs) rfl rfl (Oc D) ?_;intro wq bq Aq;replace H:=Aa (H.AA 4 rfl Aq bq);(try simp only [LS] at H);clear Aq bq;refine Aj Ad (H.blk 0 rfl) fun hHeld=>?_;clear Ad KK;refine Bd Hw ?_;refine BZ ?_;clear hHeld;replace H:=Aa (H.Fg [0,1,2,3,7,4] Za1 uH);(try simp only [LS] at H);exact key z VA vc D _ ⟨HD.Ab,HDI.Ab,H.Ab⟩
   case tl2=>
    rintro z VA vc D wr ⟨hD,hDI,hH⟩;replace H:=Aa hH;clear hH HVA;(try simp only at H);rw [←hG] at hD ⊢;have HG:=Aa hG;clear hG;obtain ⟨GC,GK⟩:=G;simp only at hD ⊢;have HD:=Aa hD;have HDI:=Aa hDI;clear hD hDI;by_cases hK:GK=0
    ·subst hK;have HO:Hid (DF x.Ac c.data=(⟨GC,x.Ac.rows++R.map (Gp x.ct.sc.Ac),x.has,x.closed⟩,0)):=by
      show _=_;unfold DF;rw [show x.Ac.cat=x.ct.Ac from rfl,show x.ct.Ac.sc=x.ct.sc.Ac from rfl,←UZ.Ab];simp only;rw [←HG.Ab]
      rfl
     have HBF:=Aa (fun w' (hs:x.ct.sc.rd w') (hr:X.rd w')=>mR x.ct.sc X w' hs hr nO.1 nO.2.1 nO.2.2 (by rw [fO.Ab];exact HBE.Ab));clear UZ HG HBE;go_wp2_with ((with_reducible refine OP 44 ?_);refine Af rfl Bb (.tmp 43) rfl B 0 rfl x.ct.sc.cs rfl ((H.blk 0 rfl).part 0 x.ct.sc.cs.toList rfl) ?_);refine (HBF _ (HX2 _ H.fr).ct.sc (H.at_ 3 rfl).1).mono ?_;rintro e w8 ⟨F,rfl,hFn,hFc,iY,hN⟩;replace H:=Aa (H.add iY _ hN.1 hN.2);(try simp only [LS] at H);have zM:Hid (F.l.map Br.Ac=R.map (Gp x.ct.sc.Ac)):=by show _=_;rw [hFc,fO.Ab]
     have hF3:F.n≤300:=(H.at_ 6 rfl).2;clear hFn hFc iY hN HBF;go_upto_region 8 with fail;refine Eo (S:=fun W=>Bh W z 63 D.cs) Za0 (H.blk 5 rfl) fun hHeld=>?_;replace H:=Aa (H.drew);generalize World.drew _=w8 at *;refine Bd Ml ?_;refine Bd KF ?_;refine Lx (i:=2) (v:=.agg D.cs) MN Za0 Za0 Za0 Za7 (DU BI (by rfl) (.tmp 7) rfl z 0 rfl (fun w h=>Bh.part h 0 D.cs.toList rfl) rfl) Zb0 ?_;try simp only [Act.put,LP]
     refine Bd Ky ?_;refine Bd LJ ?_;refine Bd KW ?_;refine Bd Mk ?_;refine BG MI fun KK Ad=>?_;have cr9:=(H.blk 0 rfl).Ap 9;go_simp;clear cr9;refine Aj Ad (H.blk 5 rfl) fun hHeld=>?_;clear Ad KK;refine BG Lj fun KK Ad=>?_;go_simp;refine (HCF _ (HX2 _ H.fr).rows).mono ?_;rintro e' w9 ⟨CA,cc,rfl,rP,ho9⟩;replace H:=Aa (H.Co rP ho9);(try simp only [LS] at H);clear rP ho9;refine Aj Ad (H.blk 5 rfl) fun hHeld=>?_;clear Ad KK;refine BG MH fun KK Ad=>?_;refine AX rfl (.tmp 56) (.tmp 57) _ rfl EI 0 (Bj _) _ x.rows.n _ rfl (H.row 7 rfl) F.A F.n F.c _ rfl ((H.at_ 6 rfl).1.rd) (ND F.l) Za4 Xl ?_;intro vq wq AJ Aq AQ;replace H:=Aa (H.setRow 7 rfl Aq AJ AQ);(try simp only [LS] at H);clear AJ Aq AQ;obtain ⟨A2,c2,rfl,_⟩:=Ao (H.row 7 rfl);refine Aj Ad (H.blk 5 rfl) fun hHeld=>?_;clear Ad KK;refine Bd FO ?_;refine Bd Ga ?_;refine BG Hw fun KK Ad=>?_;refine Zv rfl BI (.tmp 60) (.tmp 51) rfl B 0 rfl (H.blk 0 rfl) D.cs rfl uH rfl (Oc D) ?_;intro wq bq Aq;rw [ZE] at bq;replace H:=Aa (H.AA 0 rfl Aq bq);(try simp only [LS] at H);clear Aq bq;refine Aj Ad (H.blk 5 rfl) fun hHeld=>?_;clear Ad KK;refine Bd Jc ?_;refine Bd Jw ?_;refine BG bV fun KK Ad=>?_;have cz9:=(H.blk 0 rfl).Ap 9;have fz9:=(H.blk 0 rfl).frozen 9;go_simp;replace H:=Aa (H.setCell 0 rfl 9 (.slice A2 (x.rows.n+F.n) c2));(try simp only [LS] at H);clear cz9 fz9;refine Aj Ad (H.blk 5 rfl) fun hHeld=>?_;clear Ad KK;refine BZ ?_;clear hHeld;clear HCF HX2;go_wp2_with fail;refine (DT 0 _).mono ?_;rintro e wf ⟨rfl,hbf⟩;replace H:=Aa (H.Av hbf);clear hbf;go_wp2_with ((with_reducible refine OS 4 ?_);(refine Cj AL H 2 rfl ((Es.err (0)).cs) (BJ _) ?_;clear H;intro wq H;(try simp only [LS] at H)));(try simp only [Act.put,LP]);refine Bc (AO rfl AL rfl (H.blk 2 rfl) rfl) rfl ?_
     have h1:=(ET.LY (T:=T) (r:=Ce 97 11 (.slice A2 (x.rows.n+F.n) c2) (x.rows.n+F.n) (x.rows.l.flatMap AY.cells++F.l.flatMap AY.cells)) ⟨H.get 7 rfl,H.VG 7 0 Za1 rfl rfl rfl⟩ Yw.Ab);have h2:=(ET.LY (T:=T) (r:=wR F) ⟨H.get 6 rfl,H.VG 6 0 Za1 rfl rfl rfl⟩ Yw.Ab);have h3:=(ET.LY (T:=T) (r:=Kj D.sc) ⟨H.get 4 rfl,H.VG 4 0 Za1 rfl rfl rfl⟩ Yw.Ab);have h4:=Ns _ H.fr;rw [HO.Ab];refine ⟨⟨D,⟨A2,x.rows.n+F.n,c2,x.rows.l++F.l⟩,x.has,x.closed⟩,rfl,H.fr,H.blk 0 rfl,?_,fun wz kz=>⟨HDI.1.rd (h3 wz kz),HDI.2,RP (x:=⟨A2,x.rows.n+F.n,c2,x.rows.l++F.l⟩) Zh5 (fun a ha=>(Eb.1 ha).elim ((h4 wz kz).rows.all a) ((h2 wz kz).1.all a)) Zh6⟩⟩;show MC.mk D.Ac (cons (x.rows.l++F.l)) x.has x.closed=_;rw [HD.Ab];unfold cons;rw [Cf,zM.Ab]
     rfl
    ·have HO:Hid (DF x.Ac c.data=(x.Ac,GK)):=by
      exact Zs9
     have dk:(GK !=0)=true:=by simpa using hK
     clear HG hK UZ;go_wp2_with fail;refine (DT GK _).mono ?_;rintro e wf ⟨rfl,hbf⟩;replace H:=Aa (H.Av hbf);clear hbf;go_wp2_with ((with_reducible refine OS 4 ?_);(refine Cj AL H 2 rfl ((Es.err (GK)).cs) (BJ _) ?_;clear H;intro wq H;(try simp only [LS] at H)));exact Zg9
  ·have HO:Hid (DF x.Ac c.data=(x.Ac,K)):=by
    show _=_;unfold DF;exact Ze8
   have dk:(K !=0)=true:=by simpa using hK
   clear hK UZ hX;go_wp2_with fail;refine (DT K _).mono ?_;rintro e wf ⟨rfl,hbf⟩;exact Zr4
end Go.Proofs.YtijplolmkcdflaaGreat
