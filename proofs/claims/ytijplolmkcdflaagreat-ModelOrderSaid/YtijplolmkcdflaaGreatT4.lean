/- What follows was written short by a program: the walks that lead to YtijplolmkcdflaaGreatModelOrder. -/
import Derived.Handy
import Derived.RangeFuncNested
import Derived.RangeFuncBound
import Derived.RangeFuncCalls
import Derived.RangeFuncLeaves
import Derived.Shelf.Abstract
import Derived.Shelf.RegionOpen
import Derived.OwnWalkIn
import Derived.TacticsInMore
import Derived.LoopNIn
import Derived.LoopIn
import Derived.RangeFuncBox
import Derived.Sort.QuietIn
import Derived.Maps.AppendAt
import Derived.Test.YtijplolmkcdflaaGreatT3
set_option maxHeartbeats 8000000
set_option maxRecDepth 100000
set_option linter.unusedVariables false
set_option linter.unusedSimpArgs false
namespace Go.Proofs.YtijplolmkcdflaaGreat
open Tryz
open Go.RowKit
theorem Qs (s:String) (g:Nat) (w:World):(receiverAt 264 (.val (.pointer (some ⟨g,0,none⟩))) false (some s)).run prog w=(loadVar 266 ⟨g,0,none⟩).run prog w:=by kernel_rfl
theorem QK (g:Nat) {v:Value} {w:World} (h:w.cell? ⟨g,0,none⟩=some v):(loadVar 266 ⟨g,0,none⟩).run prog w=.ok v w:=by
 simp [loadVar,go_sem,h]
theorem tK (n:Nat) (v:Value) (w:World):(Go.method (n+1) 264 v "Len").run prog w=((receiverAt 264 (.val v) false (some ((("Len":String).splitOn ".").getLastD "Len"))) >>=fun r=>pure (184,r)).run prog w:=by kernel_rfl
theorem VR (n g:Nat) {v:Value} {w:World} (h:w.cell? ⟨g,0,none⟩=some v):(Go.method (n+1) 264 (.pointer (some ⟨g,0,none⟩)) "Len").run prog w=.ok (184,v) w:=by
 rw [tK,IP,Qs,QK g h]
 rfl
theorem kU (n:Nat) (v:Value) (w:World):(Go.method (n+1) 264 v "Less").run prog w=((receiverAt 264 (.val v) false (some ((("Less":String).splitOn ".").getLastD "Less"))) >>=fun r=>pure (222,r)).run prog w:=by kernel_rfl
theorem Mi (n g:Nat) {v:Value} {w:World} (h:w.cell? ⟨g,0,none⟩=some v):(Go.method (n+1) 264 (.pointer (some ⟨g,0,none⟩)) "Less").run prog w=.ok (222,v) w:=by
 rw [kU,IP,Qs,QK g h]
 rfl
theorem kT (n:Nat) (v:Value) (w:World):(Go.method (n+1) 264 v "Swap").run prog w=((receiverAt 264 (.val v) false (some ((("Swap":String).splitOn ".").getLastD "Swap"))) >>=fun r=>pure (225,r)).run prog w:=by kernel_rfl
theorem Mh (n g:Nat) {v:Value} {w:World} (h:w.cell? ⟨g,0,none⟩=some v):(Go.method (n+1) 264 (.pointer (some ⟨g,0,none⟩)) "Swap").run prog w=.ok (225,v) w:=by
 rw [kT,IP,Qs,QK g h]
 rfl
theorem tJ (n:Nat) (v:Value) (w:World):(Go.method (n+1) 264 v "Push").run prog w=.ok (224,v) w:=by kernel_rfl
theorem zL (n:Nat) (v:Value) (w:World):(Go.method (n+1) 264 v "Pop").run prog w=.ok (223,v) w:=by kernel_rfl
structure Dh where
 left:Row AV
 no:Nat
abbrev Dh.cs (h:Dh):Array Value:=#[.slice h.left.A h.left.n h.left.c,.int .i64 h.no]
structure Dh.ok (w:World) (h:Dh):Prop where
 left:h.left.ok w
 n1:1≤h.left.n
 no:h.no≤1000000
theorem Dh.ok.mono {w w':World} {h:Dh} (k:h.ok w) (hb:Aj w w'):h.ok w':=⟨k.left.mono hb,k.n1,k.no⟩
theorem Kt (h:Dh):h.cs.all (·.oneCell')=true:=by simp [Value.oneCell']
instance Ab6:Ar Dh where
 size:=2
 bytes:=32
 cells h:=h.cs.toList
 ok w h:=h.ok w
 len _:=rfl
 pos:=by omega
 mono hb h:=h.mono hb
abbrev Dh.Ac (h:Dh):Hd:=(cons h.left.l,h.no)
theorem IY:DV prog 269 2:=⟨⟨_,underlying269,rfl⟩,by kernel_rfl⟩
theorem YJ:BC prog 266 269 2 32:=BC.mk' (z:=.agg #[.slice none 0 0,.int .i64 0]) underlying266 (by kernel_rfl) rfl (by omega)
abbrev Gw (g:Nat) (A:Option Addr) (n c:Nat) (L:List Dh) (rest:List EE):List EE:=Av g 266 #[.slice A n c]::Cb 269 2 (.slice A n c) n (L.flatMap Ar.cells)::rest
theorem SL.tl {S:Nat→Prop} {w0 w:World} {r:EE} {l:List EE} (h:SL S w0 w (r::l)):SL S w0 w l:=h.pick l (·+1) (fun i q hq=>by simpa using hq) (fun i j _ _ e=>by omega)
theorem dD {w:World} {e:TypeId} {size n c:Nat} {A:Option Addr} {xs:List Value} (h:w.ownsRow 0 e size (.slice A n c) n xs) (hn:0<n):∃ g,A=some ⟨g,0,none⟩:=by
 rcases h.2 with ⟨h0,h1⟩|⟨g',cap,cur,hv,_⟩
 ·omega
 ·injection hv with hv1 _ _
  exact ⟨g',hv1⟩
theorem Mo {w:World} {A:Option Addr} {n c k:Nat} {L:List Dh} (h:w.ownsRow 0 269 2 (.slice A n c) n (L.flatMap Ar.cells)) (hk:k<n):
 ∃ b a,A=some ⟨b,0,none⟩∧b<w.heap.size∧L[k]?=some a∧w.rangeAt b (k * 2) a.cs.toList∧w.cell? ⟨b,k * 2,none⟩=some (.slice a.left.A a.left.n a.left.c)∧w.cell? ⟨b,k * 2+1,none⟩=some (.int .i64 a.no):=by
 obtain ⟨g,rfl⟩:=dD h (by omega)
 have hl:L.length=n:=FO (Rd.Bf h)
 have ha:=Ep (show k<L.length by omega)
 obtain ⟨h1,h2⟩:=Gd h ha
 exact ⟨g,_,rfl,h2,ha,h1,h1 0 _ rfl,h1 1 _ rfl⟩
theorem cons_cons {l:List AV} {f:AV} (h:l[0]?=some f):∃ t,cons l=f.Ac::t:=by
 cases l with
 |nil=>simp at h
 |cons a l=>injection h with h;subst h;exact ⟨_,rfl⟩
theorem zP {a b:Dh} {f g:AV} (hf:a.left.l[0]?=some f) (hg:b.left.l[0]?=some g):DJ a.Ac b.Ac=(decide (Cu f.ks.l g.ks.l=-1)||(decide (Cu f.ks.l g.ks.l=0) && decide (a.no<b.no))):=by
 obtain ⟨s,hs⟩:=cons_cons hf
 obtain ⟨t,ht⟩:=cons_cons hg
 simp only [DJ,Dh.Ac,hs,ht]
 rfl
theorem RL (A:Option Addr) (n c:Nat) (w:World):Calls prog 184 #[.slice A n c] w fun e w'=>e=.returned (.int .i64 n)∧w=w':=by
 go_enter func184,ntmps184
 go_wp2
 go_ret
 exact ⟨rfl,rfl⟩
theorem Yo (A:Option Addr) (n c i k:Nat) (L:List Dh) (a b:Dh) (w:World) (h:w.ownsRow 0 269 2 (.slice A n c) n (L.flatMap Ar.cells)) (hn:n≤1000000) (ha:L[i]?=some a) (hb:L[k]?=some b) (oa:a.ok w) (ob:b.ok w):
 Calls prog 222 #[.slice A n c,.int .i64 i,.int .i64 k] w fun e w'=>e=.returned (.bool (DJ a.Ac b.Ac))∧Aj w w':=by
 have hl:L.length=n:=FO (Rd.Bf h)
 have hi:=(Ca.1 ha).1
 have hk:=(Ca.1 hb).1
 obtain ⟨g,a',rfl,hg,ha',_,fM,ca1⟩:=Mo h (k:=i) (by omega)
 rw [ha] at ha';injection ha' with ha';subst ha'
 obtain ⟨g',b',e,_,hb',_,cb0,cb1⟩:=Mo h (k:=k) (by omega)
 rw [hb] at hb';injection hb' with hb';subst hb'
 injection e with e;injection e with e;subst e
 obtain ⟨ba,oo,f,hA,hba,hf0,hf,_,hrf,_⟩:=oa.left.U2 oa.n1
 obtain ⟨bb,pp,f2,hB,hbb,hf2,hf2k,_,hrf2,_⟩:=ob.left.U2 ob.n1
 have HL:Hid (DJ a.Ac b.Ac=(decide (Cu f.ks.l f2.ks.l=-1)||(decide (Cu f.ks.l f2.ks.l=0) && decide (a.no<b.no)))):=zP hf0 hf2
 have HC:=Aa (fun w' (hb:Aj w w')=>Nk f f2 w' ⟨hf.ks.mono hb,hf.ag⟩ ⟨hf2k.ks.mono hb,hf2k.ag⟩)
 have HR1:=Aa hrf
 have HR2:=Aa hrf2
 have H:=Aa (SL.start No w)
 have HCR:=Aa (FT f.ks.l f2.ks.l)
 have n1a:=oa.n1
 have n1b:=ob.n1
 have ga:=oa.no
 have gb:=ob.no
 obtain ⟨⟨LA,ln,lc,ll⟩,no⟩:=a
 obtain ⟨⟨MA,mn,mc,ml⟩,no2⟩:=b
 simp only at *
 subst hA hB
 clear hf0 hf hrf hf2 hf2k hrf2 h ha hb oa ob
 have i0:(0:Int)≤i:=by omega
 have i1:(i:Int)<n:=by omega
 have k0:(0:Int)≤k:=by omega
 have k1:(k:Int)<n:=by omega
 have l1:(0:Int)<ln:=by omega
 have m1:(0:Int)<mn:=by omega
 go_enter func222,ntmps222
 generalize Cu f.ks.l f2.ks.l=C at *
 go_upto_region 1 with fail
 have Ae7:=fun u:Over w=>Over.cell fM u
 have Ae6:=fun u:Over w=>Over.cell cb0 u
 refine Al ?_
 (try simp only [Act.put,LP])
 repeat (first
  |((with_reducible show wpQuiet _ _ _ _ (⟨some 14,_,_,_,_,_⟩::_) _);refine Af (by first|rfl|go_simp) BM (.tmp 13) rfl ba (oo) rfl _ rfl hba HR1.Ab ?_;simp only [Act.put,LP])
  |((with_reducible show wpQuiet _ _ _ _ (⟨some 21,_,_,_,_,_⟩::_) _);refine Af (by first|rfl|go_simp) BM (.tmp 20) rfl bb (pp) rfl _ rfl hbb HR2.Ab ?_;simp only [Act.put,LP])
  |go_big_quiet_step (((go_at_call 108;rename_i u;exact Be (HC _ u.Au)))))
 refine CX ?_
 rintro w5 ⟨⟨_,FP⟩,rfl⟩
 (try dsimp only)
 replace H:=Aa (H.Au FP)
 clear Ae7 Ae6 fM cb0
 have da1:w5.cell? ⟨g,i * 2+1,none⟩=some (.int .i64 no):=by rw [QY (FP.block g hg)];exact ca1
 have db1:w5.cell? ⟨g,k * 2+1,none⟩=some (.int .i64 no2):=by rw [QY (FP.block g hg)];exact cb1
 clear ca1 cb1 FP
 rcases HCR.Ab with rfl|rfl|rfl
 ·replace HL:Hid (_=true):=HL
  go_upto_region 2 with fail
  have Wy:=fun u:Over w5=>Over.cell da1 u
  have Wx:=fun u:Over w5=>Over.cell db1 u
  refine Al ?_
  (try simp only [Act.put,LP])
  repeat (go_big_quiet_step (fail))
  refine CX ?_
  rintro w5 ⟨⟨_,FP⟩,rfl⟩
  (try dsimp only)
  replace H:=Aa (H.Au FP)
  clear Wy Wx da1 db1
  go_wp2
  go_ret
  rw [HL.Ab]
  exact ⟨by first|rfl|(simp;done),H.to⟩
 ·by_cases hq:no<no2
  ·replace HL:=Aa (HL.trans (show _=true by simp [hq]))
   have q1:(no:Int)<no2:=by omega
   go_upto_region 2 with fail
   have Wy:=fun u:Over w5=>Over.cell da1 u
   have Wx:=fun u:Over w5=>Over.cell db1 u
   refine Al ?_
   (try simp only [Act.put,LP])
   repeat (go_big_quiet_step (fail))
   refine CX ?_
   rintro w5 ⟨⟨_,FP⟩,rfl⟩
   (try dsimp only)
   replace H:=Aa (H.Au FP)
   clear Wy Wx da1 db1
   go_wp2
   go_ret
   rw [HL.Ab]
   exact ⟨by first|rfl|(simp;done),H.to⟩
  ·replace HL:=Aa (HL.trans (show _=false by simp [hq]))
   have q1:¬ (no:Int)<no2:=by omega
   go_upto_region 2 with fail
   have Wy:=fun u:Over w5=>Over.cell da1 u
   have Wx:=fun u:Over w5=>Over.cell db1 u
   refine Al ?_
   (try simp only [Act.put,LP])
   repeat (go_big_quiet_step (fail))
   refine CX ?_
   rintro w5 ⟨⟨_,FP⟩,rfl⟩
   (try dsimp only)
   replace H:=Aa (H.Au FP)
   clear Wy Wx da1 db1
   go_wp2
   go_ret
   rw [HL.Ab]
   exact ⟨by first|rfl|(simp;done),H.to⟩
 ·replace HL:Hid (_=false):=HL
  go_upto_region 2 with fail
  have Wy:=fun u:Over w5=>Over.cell da1 u
  have Wx:=fun u:Over w5=>Over.cell db1 u
  refine Al ?_
  (try simp only [Act.put,LP])
  repeat (go_big_quiet_step (fail))
  refine CX ?_
  rintro w5 ⟨⟨_,FP⟩,rfl⟩
  (try dsimp only)
  replace H:=Aa (H.Au FP)
  clear Wy Wx da1 db1
  go_wp2
  go_ret
  rw [HL.Ab]
  exact ⟨by first|rfl|(simp;done),H.to⟩
section
variable {P : Program} {w : World}
theorem CU {ops:Array Oper} {o:Oper} {a:Act} {K:Act→World→Prop} {Q:Exit→Act→World→Prop} {X:Prop} (hgd:o.guard=none) {ty:TypeId} {n:Nat} (R:DV P ty n) (x:Operand) (ho:o.op=.load ty x)
 (b off:Nat) (hx:a.eval x=.pointer (some ⟨b,off,none⟩)) (cs:Array Value) (hr:w.rangeAt b off cs.toList) (hn:cs.size=n)
 (h:K (a.put o.dst (.agg cs)) w):if Region.wanted o (yielded ops a.tmps)=true then Oper.wp P o a w K Q else X:=by
 have hw:Region.wanted o (yielded ops a.tmps)=true:=by simp [Region.wanted,hgd]
 rw [Ak hw]
 obtain ⟨d,hu,hd⟩:=R.hu
 exact wp_load_mid ty x ho b off hx cs.toList d hr hu hd (by rw [R.hi];simp [hn]) (by simpa using h)
theorem IV {α:Type} [Ar α] {base:Nat} {e:TypeId} {g n c:Nat} {l:List α} {ops:Array Oper} {o:Oper} {a:Act} {K:Act→World→Prop} {Q:Exit→Act→World→Prop} {X:Prop} (hgd:o.guard=none) {ty:TypeId} {size:Nat} (R:DV P ty size) (x y:Operand) (ho:o.op=.store ty x y) (hsz:size=Ar.size α)
 (k:Nat) (hx:a.eval x=.pointer (some ⟨g,k * Ar.size α,none⟩)) (h:w.ownsRow base e (Ar.size α) (.slice (some ⟨g,0,none⟩) n c) n (l.flatMap Ar.cells)) (hk:k<n) (f:α) (cs:Array Value) (hcs:cs.toList=Ar.cells f) (hy:a.eval y=.agg cs) (h1:cs.all (·.oneCell')=true)
 (hn:∀ w',w'.ownsRow base e (Ar.size α) (.slice (some ⟨g,0,none⟩) n c) n ((l.set k f).flatMap Ar.cells)→w.grownBy w' (some g)→K (a.put o.dst undef) w'):if Region.wanted o (yielded ops a.tmps)=true then Oper.wp P o a w K Q else X:=by
 have hw:Region.wanted o (yielded ops a.tmps)=true:=by simp [Region.wanted,hgd]
 have hss:cs.size=Ar.size α:=by have:=Cm List.length hcs;rw [Array.length_toList,Ar.len] at this;exact this
 rw [Ak hw]
 refine UK ty x y ho g (k * Ar.size α) cs hx hy (by rw [hss];exact OT h hk) (by rw [R.hi,hss,hsz]) h1 ?_
 rw [hcs]
 exact hn _ (QB h hk f) (Db w g _ _)
end
theorem Mk (w0 w:World) (g:Nat) (A:Option Addr) (n c i k:Nat) (L:List Dh) (rest:List EE) (x y:Dh) (h:SL No w0 w (Gw g A n c L rest)) (hn:n≤1000000) (ha:L[i]?=some x) (hb:L[k]?=some y):
 Calls prog 225 #[.slice A n c,.int .i64 i,.int .i64 k] w fun e w'=>e=.returned (.tuple #[])∧SL No w0 w' (Gw g A n c ((L.set i y).set k x) rest):=by
 have hl:L.length=n:=FO (Rd.Bf (h.row 1 rfl))
 have hi:=(Ca.1 ha).1
 have hk:=(Ca.1 hb).1
 obtain ⟨b,rfl⟩:=dD (h.row 1 rfl) (by omega)
 have H:=Aa h
 clear h
 have i0:(0:Int)≤i:=by omega
 have i1:(i:Int)<n:=by omega
 have k0:(0:Int)≤k:=by omega
 have k1:(k:Int)<n:=by omega
 go_enter func225,ntmps225
 go_upto_region 0 with fail
 refine EG (S:=fun _=>True) (by kernel_rfl) trivial fun hHeld=>?_
 replace H:=Aa (H.drew)
 refine BJ NG ?_
 refine BJ KG ?_
 refine BJ NW ?_
 refine BJ KF ?_
 refine BJ Mr ?_
 refine BJ Lv ?_
 refine BJ Mq ?_
 refine BJ Px ?_
 refine BJ Qb ?_
 refine BJ Jj ?_
 refine NV LX IL (fun KK Ad=>?_) fun KK Ad=>?_
 ·refine CU rfl IY (.tmp 12) (by first|rfl|go_simp) b (k * 2) (by first|rfl|go_simp) y.cs (Gd (H.row 1 rfl) (by assumption)).1 rfl ?_
  refine Ai Ad trivial fun hHeld=>?_
  clear Ad KK
  refine BD IL fun KK Ad=>?_
  refine CU rfl IY (.tmp 16) (by first|rfl|go_simp) b (i * 2) (by first|rfl|go_simp) x.cs (Gd (H.row 1 rfl) (by assumption)).1 rfl ?_
  refine Ai Ad trivial fun hHeld=>?_
  clear Ad KK
  refine BD Ji fun KK Ad=>?_
  go_simp
  refine Ai Ad trivial fun hHeld=>?_
  clear Ad KK
  refine BD KZ fun KK Ad=>?_
  refine IV rfl IY (.tmp 18) (.tmp 13) rfl rfl i (by first|rfl|go_simp) (H.row 1 rfl) (by omega) y y.cs rfl (by first|rfl|go_simp) (Kt _) ?_
  intro wq AR Ay
  replace H:=Aa (H.setRow 1 rfl Ay AR (.inl rfl));(try simp only [LS] at H)
  clear AR Ay
  refine Ai Ad trivial fun hHeld=>?_
  clear Ad KK
  refine BD Ms fun KK Ad=>?_
  go_simp
  refine Ai Ad trivial fun hHeld=>?_
  clear Ad KK
  refine BD R9 fun KK Ad=>?_
  refine IV rfl IY (.tmp 19) (.tmp 17) rfl rfl k (by first|rfl|go_simp) (H.row 1 rfl) (by omega) x x.cs rfl (by first|rfl|go_simp) (Kt _) ?_
  intro wq AR Ay
  replace H:=Aa (H.setRow 1 rfl Ay AR (.inl rfl));(try simp only [LS] at H)
  clear AR Ay
  refine Ai Ad trivial fun hHeld=>?_
  clear Ad KK
  refine BX ?_
  clear hHeld
  go_wp2
  go_returns
  exact ⟨rfl,H.Ab⟩
 ·refine CU rfl IY (.tmp 16) (by first|rfl|go_simp) b (i * 2) (by first|rfl|go_simp) x.cs (Gd (H.row 1 rfl) (by assumption)).1 rfl ?_
  refine Ai Ad trivial fun hHeld=>?_
  clear Ad KK
  refine BD LX fun KK Ad=>?_
  refine CU rfl IY (.tmp 12) (by first|rfl|go_simp) b (k * 2) (by first|rfl|go_simp) y.cs (Gd (H.row 1 rfl) (by assumption)).1 rfl ?_
  refine Ai Ad trivial fun hHeld=>?_
  clear Ad KK
  refine BD Ji fun KK Ad=>?_
  go_simp
  refine Ai Ad trivial fun hHeld=>?_
  clear Ad KK
  refine BD KZ fun KK Ad=>?_
  refine IV rfl IY (.tmp 18) (.tmp 13) rfl rfl i (by first|rfl|go_simp) (H.row 1 rfl) (by omega) y y.cs rfl (by first|rfl|go_simp) (Kt _) ?_
  intro wq AR Ay
  replace H:=Aa (H.setRow 1 rfl Ay AR (.inl rfl));(try simp only [LS] at H)
  clear AR Ay
  refine Ai Ad trivial fun hHeld=>?_
  clear Ad KK
  refine BD Ms fun KK Ad=>?_
  go_simp
  refine Ai Ad trivial fun hHeld=>?_
  clear Ad KK
  refine BD R9 fun KK Ad=>?_
  refine IV rfl IY (.tmp 19) (.tmp 17) rfl rfl k (by first|rfl|go_simp) (H.row 1 rfl) (by omega) x x.cs rfl (by first|rfl|go_simp) (Kt _) ?_
  intro wq AR Ay
  replace H:=Aa (H.setRow 1 rfl Ay AR (.inl rfl));(try simp only [LS] at H)
  clear AR Ay
  refine Ai Ad trivial fun hHeld=>?_
  clear Ad KK
  refine BX ?_
  clear hHeld
  go_wp2
  go_returns
  exact ⟨rfl,H.Ab⟩
theorem fU (v:Value) (w:World):(Instr.typeAssert (.iface 269 v) 20 269 true).run prog w=.ok (.tuple #[v,.bool true]) w:=by kernel_rfl
theorem uG (w0 w:World) (g:Nat) (A:Option Addr) (n c:Nat) (L:List Dh) (rest:List EE) (h:Dh) (hh:SL No w0 w (Gw g A n c L rest)) (hn:n≤1000000):
 Calls prog 224 #[.pointer (some ⟨g,0,none⟩),.iface 269 (.agg h.cs)] w fun e w'=>e=.returned (.tuple #[])∧∃ (A':Option Addr) (c':Nat),SL No w0 w' (Gw g A' (n+1) c' (L++[h]) rest):=by
 have H:=Aa hh
 clear hh
 go_enter func224,ntmps224
 have hta:∀ w,(Instr.typeAssert (.iface 269 (.agg h.cs)) 20 269 true).run prog w=.ok (.tuple #[.agg h.cs,.bool true]) w:=fun w=>fU _ w
 go_upto_region 1 with ((with_reducible refine OS 4 ?_);refine Fu IY h.cs (Kt _) ?_;replace H:=Aa ((H.alloc h.cs 269).rot);(try simp only [LS] at H))
 (try simp only [Act.put,LP])
 generalize w.heap.size=x at *
 generalize World.alloc _ _=w1 at *
 refine EG (S:=fun _=>True) (by kernel_rfl) trivial fun hHeld=>?_
 replace H:=Aa (H.drew)
 refine BJ NG ?_
 refine BJ KG ?_
 refine BJ NW ?_
 refine NV KF Mr (fun KK Ad=>?_) fun KK Ad=>?_
 ·have c3:=(H.blk 1 rfl).Am 0
  go_simp
  clear c3
  refine Ai Ad trivial fun hHeld=>?_
  clear Ad KK
  refine BD Mr fun KK Ad=>?_
  refine CU rfl IY (.tmp 4) (by first|rfl|go_simp) _ 0 (by first|rfl|go_simp) h.cs (H.blk 0 rfl).range rfl ?_
  refine Ai Ad trivial fun hHeld=>?_
  clear Ad KK
  refine BD Lv fun KK Ad=>?_
  refine Bc rfl YJ (.tmp 15) rfl (h.cs) (by first|rfl|go_simp) rfl (by omega) ?_
  replace H:=Aa ((H.alloc (h.cs) 269).rot);(try simp only [LS] at H)
  generalize World.alloc _ _=w2 at *
  refine Ai Ad trivial fun hHeld=>?_
  clear Ad KK
  refine BD Mq fun KK Ad=>?_
  refine Aw rfl (.tmp 14) (.tmp 16) _ rfl YJ 0 (Bw _) _ n _ rfl (H.row 3 rfl) _ 1 1 h.cs.toList rfl (AQ (H.blk 0 rfl) rfl) (fun u hu=>NB.1 (Kt h) u (by simpa using hu)) (by unfold maxLen;omega) (by omega) ?_
  intro vq wq AR Ay Bb
  replace H:=Aa (H.setRow 3 rfl Ay AR Bb);(try simp only [LS] at H)
  clear AR Ay Bb
  obtain ⟨A2,c2,rfl,_⟩:=Ao (H.row 3 rfl)
  refine Ai Ad trivial fun hHeld=>?_
  clear Ad KK
  refine BD LX fun KK Ad=>?_
  go_simp
  refine Ai Ad trivial fun hHeld=>?_
  clear Ad KK
  refine BD Px fun KK Ad=>?_
  have c8:=(H.blk 2 rfl).Am 0;have f8:=(H.blk 2 rfl).frozen 0
  go_simp
  replace H:=Aa (H.setCell 2 rfl 0 (.slice A2 (n+1) c2));(try simp only [LS] at H)
  clear c8 f8
  refine Ai Ad trivial fun hHeld=>?_
  clear Ad KK
  refine BX ?_
  clear hHeld
  go_wp2
  go_returns
  refine ⟨rfl,A2,c2,?_⟩
  have hf:L.flatMap Ar.cells++h.cs.toList=(L++[h]).flatMap Ar.cells:=by simp [Ar.cells]
  have H2:=H.tl.tl
  rw [hf] at H2
  exact H2
 ·refine CU rfl IY (.tmp 4) (by first|rfl|go_simp) _ 0 (by first|rfl|go_simp) h.cs (H.blk 0 rfl).range rfl ?_
  refine Ai Ad trivial fun hHeld=>?_
  clear Ad KK
  refine NV KF Lv (fun KK Ad=>?_) fun KK Ad=>?_
  ·have c3:=(H.blk 1 rfl).Am 0
   go_simp
   clear c3
   refine Ai Ad trivial fun hHeld=>?_
   clear Ad KK
   refine BD Lv fun KK Ad=>?_
   refine Bc rfl YJ (.tmp 15) rfl (h.cs) (by first|rfl|go_simp) rfl (by omega) ?_
   replace H:=Aa ((H.alloc (h.cs) 269).rot);(try simp only [LS] at H)
   generalize World.alloc _ _=w2 at *
   refine Ai Ad trivial fun hHeld=>?_
   clear Ad KK
   refine BD Mq fun KK Ad=>?_
   refine Aw rfl (.tmp 14) (.tmp 16) _ rfl YJ 0 (Bw _) _ n _ rfl (H.row 3 rfl) _ 1 1 h.cs.toList rfl (AQ (H.blk 0 rfl) rfl) (fun u hu=>NB.1 (Kt h) u (by simpa using hu)) (by unfold maxLen;omega) (by omega) ?_
   intro vq wq AR Ay Bb
   replace H:=Aa (H.setRow 3 rfl Ay AR Bb);(try simp only [LS] at H)
   clear AR Ay Bb
   obtain ⟨A2,c2,rfl,_⟩:=Ao (H.row 3 rfl)
   refine Ai Ad trivial fun hHeld=>?_
   clear Ad KK
   refine BD LX fun KK Ad=>?_
   go_simp
   refine Ai Ad trivial fun hHeld=>?_
   clear Ad KK
   refine BD Px fun KK Ad=>?_
   have c8:=(H.blk 2 rfl).Am 0;have f8:=(H.blk 2 rfl).frozen 0
   go_simp
   replace H:=Aa (H.setCell 2 rfl 0 (.slice A2 (n+1) c2));(try simp only [LS] at H)
   clear c8 f8
   refine Ai Ad trivial fun hHeld=>?_
   clear Ad KK
   refine BX ?_
   clear hHeld
   go_wp2
   go_returns
   refine ⟨rfl,A2,c2,?_⟩
   have hf:L.flatMap Ar.cells++h.cs.toList=(L++[h]).flatMap Ar.cells:=by simp [Ar.cells]
   have H2:=H.tl.tl
   rw [hf] at H2
   exact H2
  ·refine Bc rfl YJ (.tmp 15) rfl (h.cs) (by first|rfl|go_simp) rfl (by omega) ?_
   replace H:=Aa ((H.alloc (h.cs) 269).rot);(try simp only [LS] at H)
   generalize World.alloc _ _=w2 at *
   refine Ai Ad trivial fun hHeld=>?_
   clear Ad KK
   refine BD KF fun KK Ad=>?_
   have c3:=(H.blk 2 rfl).Am 0
   go_simp
   clear c3
   refine Ai Ad trivial fun hHeld=>?_
   clear Ad KK
   refine BD Mq fun KK Ad=>?_
   refine Aw rfl (.tmp 14) (.tmp 16) _ rfl YJ 0 (Bw _) _ n _ rfl (H.row 3 rfl) _ 1 1 h.cs.toList rfl (AQ (H.blk 0 rfl) rfl) (fun u hu=>NB.1 (Kt h) u (by simpa using hu)) (by unfold maxLen;omega) (by omega) ?_
   intro vq wq AR Ay Bb
   replace H:=Aa (H.setRow 3 rfl Ay AR Bb);(try simp only [LS] at H)
   clear AR Ay Bb
   obtain ⟨A2,c2,rfl,_⟩:=Ao (H.row 3 rfl)
   refine Ai Ad trivial fun hHeld=>?_
   clear Ad KK
   refine BD LX fun KK Ad=>?_
   go_simp
   refine Ai Ad trivial fun hHeld=>?_
   clear Ad KK
   refine BD Px fun KK Ad=>?_
   have c8:=(H.blk 2 rfl).Am 0;have f8:=(H.blk 2 rfl).frozen 0
   go_simp
   replace H:=Aa (H.setCell 2 rfl 0 (.slice A2 (n+1) c2));(try simp only [LS] at H)
   clear c8 f8
   refine Ai Ad trivial fun hHeld=>?_
   clear Ad KK
   refine BX ?_
   clear hHeld
   go_wp2
   go_returns
   refine ⟨rfl,A2,c2,?_⟩
   have hf:L.flatMap Ar.cells++h.cs.toList=(L++[h]).flatMap Ar.cells:=by simp [Ar.cells]
   have H2:=H.tl.tl
   rw [hf] at H2
   exact H2
theorem yT {w:World} {base:Nat} {e:TypeId} {size n c k:Nat} {A:Option Addr} {xs:List Value} (h:w.ownsRow base e size (.slice A n c) n xs) (hk:k≤n):w.ownsRow base e size (.slice A k c) k (xs.take (k * size)):=by
 have hm:k * size≤n * size:=Nv _ hk
 refine ⟨by rw [Fa,h.1];omega,?_⟩
 rcases h.2 with ⟨h0,h1⟩|⟨g,cap,cur,hv,hb,hh,hn,hx,hs,ht⟩
 ·have hk0:k=0:=by omega
  subst hk0
  injection h0 with h2 _ h3
  subst h2 h3
  exact .inl ⟨rfl,rfl⟩
 ·injection hv with h2 _ h3
  subst h2 h3
  refine .inr ⟨g,c,cur,rfl,hb,hh,by omega,hx,hs,?_⟩
  rw [←ht,List.take_take,PD hm]
theorem lX (L:List Dh) (k:Nat):(L.take k).flatMap Ar.cells=(L.flatMap Ar.cells).take (k * 2):=by
 induction L generalizing k with
 |nil=>simp
 |cons a L ih=>
  cases k with
  |zero=>simp
  |succ k=>
   have ha:(Ar.cells a).length=2:=rfl
   rw [nW,CY,CY,ih,show (k+1) * 2=(Ar.cells a).length+k * 2 by rw [ha];omega,List.take_length_add_append]
theorem j5 (w0 w:World) (g:Nat) (A:Option Addr) (m c:Nat) (L:List Dh) (rest:List EE) (h:SL No w0 w (Gw g A (m+1) c L rest)) (hn:m≤1000000):
 Calls prog 223 #[.pointer (some ⟨g,0,none⟩)] w fun e w'=>(∃ v,e=.returned v)∧SL No w0 w' (Gw g A m c (L.take m) rest):=by
 have hc:m+1≤c:=by
  rcases (h.row 1 rfl).2 with ⟨_,h1⟩|⟨_,cap,_,hv,_,_,h2,_⟩
  ·omega
  ·injection hv with _ _ h3;omega
 obtain ⟨b,a,rfl,hb,ha,hrg,_,_⟩:=Mo (h.row 1 rfl) (k:=m) (by omega)
 have HR:=Aa hrg
 have H:=Aa h
 clear h hrg ha
 have cg:=(H.blk 0 rfl).Am 0;have fg:=(H.blk 0 rfl).frozen 0
 have i0:(0:Int)≤m:=by omega
 have i1:(m:Int)<(m+1:Nat):=by omega
 have e1:((m+1:Nat):Int) - 1=m:=by omega
 go_enter func223,ntmps223
 go_upto_region 3 with (first|((with_reducible refine OP 13 ?_);(refine Ae rfl IY (.tmp 12) rfl b (m * 2) rfl a.cs rfl HR.Ab ?_))|((with_reducible refine OS 4 ?_);refine Fu IY a.cs (Kt _) ?_;replace H:=Aa ((H.alloc a.cs 269).rot);(try simp only [LS] at H)))
 (try simp only [Act.put,LP])
 clear cg fg
 generalize w.heap.size=x at *
 generalize World.alloc _ _=w1 at *
 have cg:=(H.blk 1 rfl).Am 0;have fg:=(H.blk 1 rfl).frozen 0
 go_upto_region 4 with fail
 replace H:=Aa (H.setCell 1 rfl 0 (.slice (some ⟨b,0,none⟩) m c));(try simp only [LS] at H)
 clear cg fg
 generalize World.setCell _ _ _=w2 at *
 have H2:=Aa (H.setRow (w':=w2) 2 rfl (e':=269) (size':=2) (n':=m) (v':=.slice (some ⟨b,0,none⟩) m c) (xs':=((L.take m).flatMap Ar.cells)) (Fr.grown (Fr.refl _ _)) (by rw [lX];exact yT (H.row 2 rfl) (by omega)) (.inl rfl))
 clear H
 go_wp2_with ((with_reducible refine OP 21 ?_);refine Er rfl IY (.tmp 4) rfl _ rfl (H2.blk 0 rfl) rfl ?_)
 go_returns
 exact ⟨⟨_,rfl⟩,H2.tl⟩
theorem RD {L:List Dh} {i j:Nat} {a b:Dh}:((L.set i a).set j b).map Dh.Ac=PS (L.map Dh.Ac) i j b.Ac a.Ac:=by rw [List.map_set,List.map_set];(try rfl)
theorem Nf {L:List Dh} {i:Nat} {a:Dh} (h:L[i]?=some a):(L.map Dh.Ac)[i]?=some a.Ac:=by rw [DD,h];(try rfl)
theorem WC {L:List Dh} {w:World} (h:∀ x ∈ L,x.ok w):∀ x ∈ L.map Dh.Ac,x.1≠[]:=fun x hx e=>by
 obtain ⟨y,hy,rfl⟩:=GZ.1 hx
 have h1:=(h y hy).n1
 have h2:=(h y hy).left.len
 have h3:(cons y.left.l).length=0:=by rw [show cons y.left.l=[] from e];(try rfl)
 rw [AL] at h3
 omega
theorem xC (w0 w:World) (g:Nat) (A:Option Addr) (n c j0:Nat) (L0:List Dh) (rest:List EE) (h:SL No w0 w (Gw g A n c L0 rest)) (hn:n≤1000000) (hok:∀ x ∈ L0,x.ok w0) (hj:j0<n) (hu:Xx (L0.map Dh.Ac) j0):
 Calls prog 199 #[.iface 264 (.pointer (some ⟨g,0,none⟩)),.int .i64 j0] w fun e w'=>e=.returned (.tuple #[])∧∃ L,L.Perm L0∧Heap (L.map Dh.Ac) n∧SL No w0 w' (Gw g A n c L rest):=by
 have H:=Aa h
 have JB:=Aa hok
 have hl0:L0.length=n:=FO (Rd.Bf (h.row 1 rfl))
 have HU:=Aa hu
 have HP:Hid (L0.Perm L0):=List.Perm.refl _
 have HL0:=Aa hl0
 clear h hok hu hl0
 go_enter func199,ntmps199
 go_wp2_with fail
 go_loopg [1,4] j0 (fun gg s1 s4 wr=>∃ (j:Nat) (L:List Dh),gg=j∧j<n∧s1=.int .i64 j∧Hid (L.Perm L0)∧Hid (Xx (L.map Dh.Ac) j)∧Hid (SL No w0 wr (Gw g A n c L rest)))
 case atStart=>exact ⟨j0,L0,rfl,hj,rfl,HP,HU,H⟩
 case round=>
  clear H HU HP hj
  obtain ⟨j,L,BG,hj,rfl,HP,HU,H⟩:=hrel
  have Cg:=Aa BG
  clear BG
  have J3:Hid (L.length=n):=FO (Rd.Bf (H.row 1 rfl))
  by_cases hj0:j=0
  ·subst hj0
   have HH:Hid (Heap (L.map Dh.Ac) n):=by have h:=xB HU.Ab;rw [Cq,J3.Ab] at h;exact h
   go_wp2_with fail
   go_returns
   exact ⟨rfl,L,HP.Ab,HH.Ab,H.Ab⟩
  ·obtain ⟨k,rfl⟩:∃ k,j=k+1:=⟨j - 1,by omega⟩
   have e1:((k+1:Nat):Int) - 1=k:=by omega
   have e2:(k:Int).tdiv 2=((k / 2:Nat):Int):=rfl
   have e3:¬ ((k / 2:Nat):Int)=((k+1:Nat):Int):=by omega
   have e4:((((k / 2:Nat):Int))==((k+1:Nat):Int))=false:=by simp<;>omega
   obtain ⟨x,hx⟩:∃ x,L[k+1]?=some x:=⟨_,Ep (by rw [J3.Ab];exact hj)⟩
   obtain ⟨y,hy⟩:∃ y,L[k / 2]?=some y:=⟨_,Ep (by rw [J3.Ab];omega)⟩
   have HX:=Aa hx
   have HY:=Aa hy
   have K8:=Aa (fun w' (hb:Aj w0 w') (ho:w'.ownsRow 0 269 2 (.slice A n c) n (L.flatMap Ar.cells))=>Yo A n c (k+1) (k / 2) L x y w' ho hn hx hy ((JB x (HP.mem_iff.1 (CE hx))).mono hb) ((JB y (HP.mem_iff.1 (CE hy))).mono hb))
   clear hx hy
   have cm:=(H.blk 0 rfl).Am 0
   have mm:=fun k=>Mi k g cm
   clear cm
   go_wp2_with fail
   clear mm
   refine (K8 _ H.to (H.row 1 rfl)).mono ?_;rintro e w2 ⟨rfl,hb2⟩
   replace H:=Aa (H.Au hb2)
   clear hb2 K8
   cases hL:DJ x.Ac y.Ac with
   |false=>
    have HH:Hid (Heap (L.map Dh.Ac) n):=by have h:=M6 HU (Nf HX.Ab) (Nf HY.Ab) hL;rw [Cq,J3.Ab] at h;exact h
    clear hL
    go_wp2_with fail
    go_returns
    exact ⟨rfl,L,HP.Ab,HH.Ab,H.Ab⟩
   |true=>
    have V9:Hid (Xx (((L.set (k / 2) x).set (k+1) y).map Dh.Ac) (k / 2)):=by show Xx _ _;rw [RD];exact M7 (j:=k+1) (by omega) HU (WC (w:=w0) fun z hz=>JB z (HP.mem_iff.1 hz)) (Nf HX.Ab) (Nf HY.Ab) hL
    have Xy:Hid (((L.set (k / 2) x).set (k+1) y).Perm L0):=(swap_perm (by omega) HY HX.Ab).trans HP.Ab
    clear hL HU HP
    have cm:=(H.blk 0 rfl).Am 0
    have mm:=fun k=>Mh k g cm
    clear cm
    go_wp2_with fail
    clear mm
    refine (Mk w0 _ g A n c (k / 2) (k+1) L rest y x H hn HY HX.Ab).mono ?_;rintro e w3 ⟨rfl,hh3⟩
    replace H:=Aa hh3
    clear hh3
    go_wp2_with fail
    go_roundg (k / 2)
    case rel=>exact ⟨k / 2,_,rfl,by omega,by go_num,Xy,V9,H⟩
    case measure=>rw [Cg.Ab];omega
theorem Rc {L:List Dh} {m k:Nat} {x:Dh} (h:L[k]?=some x) (hk:k<m):((L.take m).map Dh.Ac)[k]?=some x.Ac:=Nf (by rw [Gu hk];exact h)
theorem tmem {L:List Dh} {m k:Nat} {x:Dh} (h:L[k]?=some x) (hk:k<m):x ∈ L.take m:=CE (by rw [Gu hk];exact h)
theorem tne {L:List Dh} {w:World} {m k:Nat} {x:Dh} (h:∀ z ∈ L.take m,z.ok w) (hx:L[k]?=some x) (hk:k<m):x.Ac.1≠[]:=WC h _ (List.mem_map_of_mem (tmem hx hk))
theorem QL (a:Hd):DJ a a=false:=by
 cases hq:DJ a a with
 |false=>rfl
 |true=>have:=JS hq;rw [this] at hq;cases hq
theorem eZ (w0 w:World) (g:Nat) (A:Option Addr) (n m c i0:Nat) (L0:List Dh) (rest:List EE) (h:SL No w0 w (Gw g A n c L0 rest)) (hn:n≤1000000) (hm:m≤n) (hok:∀ x ∈ L0.take m,x.ok w0) (hi:i0≤m) (hu:Je ((L0.take m).map Dh.Ac) m i0):
 Calls prog 200 #[.iface 264 (.pointer (some ⟨g,0,none⟩)),.int .i64 i0,.int .i64 m] w fun e w'=>(∃ b,e=.returned (.bool b))∧∃ L,(L.take m).Perm (L0.take m)∧L.drop m=L0.drop m∧Heap ((L.take m).map Dh.Ac) m∧SL No w0 w' (Gw g A n c L rest):=by
 have H:=Aa h
 have JB:=Aa hok
 have HU:=Aa hu
 have HP:Hid ((L0.take m).Perm (L0.take m)):=List.Perm.refl _
 clear h hok hu
 go_enter func200,ntmps200
 go_wp2_with fail
 go_loopg [7,8,9,10] (m - i0) (fun gg s7 s8 s9 s10 wr=>∃ (i:Nat) (L:List Dh),gg=m - i∧i≤m∧s7=.int .i64 i∧Hid ((L.take m).Perm (L0.take m))∧Hid (L.drop m=L0.drop m)∧Hid (∀ x ∈ L.take m,x.ok w0)∧Hid (Je ((L.take m).map Dh.Ac) m i)∧Hid (SL No w0 wr (Gw g A n c L rest)))
 case atStart=>exact ⟨i0,L0,rfl,hi,rfl,HP,Aa rfl,JB,HU,H⟩
 case round=>
  clear H HU HP JB hi
  obtain ⟨i,L,BG,hi,rfl,HP,HD,JB,HU,H⟩:=hrel
  have Cg:=Aa BG
  clear BG
  have J3:Hid (L.length=n):=FO (Rd.Bf (H.row 1 rfl))
  obtain ⟨j1,hj1⟩:∃ j1,j1=2 * i+1:=⟨_,rfl⟩
  have e1:2 * (i:Int)+1=(j1:Int):=by omega
  have b1:j1≤2000001:=by omega
  have l1:i<j1:=by omega
  have HJ1:=Aa hj1
  have HPj1:Hid ((j1 - 1) / 2=i):=by show _=_;omega
  clear hj1
  have e1p:(0:Int)≤j1:=by omega
  by_cases hb1:m≤j1
  ·have HH:Hid (Heap ((L.take m).map Dh.Ac) m):=Pg HU (fun k a b h0 hk hp ha hb=>by have:=HJ1.Ab;omega)
   go_wp2_with fail
   go_returns
   exact ⟨⟨_,rfl⟩,L,HP.Ab,HD.Ab,HH.Ab,H.Ab⟩
  ·obtain ⟨y,hy⟩:∃ y,L[i]?=some y:=⟨_,Ep (by rw [J3.Ab];omega)⟩
   obtain ⟨x,hx⟩:∃ x,L[j1]?=some x:=⟨_,Ep (by rw [J3.Ab];omega)⟩
   have HY:=Aa hy
   have Si:=Aa hx
   have K8:=Aa (fun (p q:Nat) (a b:Dh) (ha:L[p]?=some a) (hb:L[q]?=some b) (hp:p<m) (hq:q<m) w' (hb2:Aj w0 w') (ho:w'.ownsRow 0 269 2 (.slice A n c) n (L.flatMap Ar.cells))=>Yo A n c p q L a b w' ho hn ha hb ((JB a (tmem ha hp)).mono hb2) ((JB b (tmem hb hq)).mono hb2))
   clear hx hy
   obtain ⟨j2,hj2⟩:∃ j2,j2=j1+1:=⟨_,rfl⟩
   have e2:(j1:Int)+1=(j2:Int):=by omega
   have l2:j1<j2:=by omega
   have b2:j2≤2000002:=by omega
   have HJ2:=Aa hj2
   have HPj2:Hid ((j2 - 1) / 2=i):=by show _=_;have:=HJ1.Ab;omega
   clear hj2
   by_cases hb2:j2<m
   ·obtain ⟨x2,hx2⟩:∃ x,L[j2]?=some x:=⟨_,Ep (by rw [J3.Ab];omega)⟩
    have gP:=Aa hx2
    clear hx2
    have cm:=(H.blk 0 rfl).Am 0
    have mm:=fun k=>Mi k g cm
    clear cm
    go_wp2_with fail
    clear mm
    refine (K8 j2 j1 x2 x gP Si (by omega) (by omega) _ H.to (H.row 1 rfl)).mono ?_;rintro e w2 ⟨rfl,hb2⟩
    replace H:=Aa (H.Au hb2)
    clear hb2
    cases hq:DJ x2.Ac x.Ac with
    |true=>
     have HM:Hid (∀ k c,0<k→k<m→(k - 1) / 2=i→((L.take m).map Dh.Ac)[k]?=some c→DJ c x2.Ac=false):=fun k c h0 hk hp hc=>by
      rcases (show k=j1∨k=j2 by have:=HJ1.Ab;have:=HJ2.Ab;omega) with rfl|rfl
      ·rw [Rc Si (by omega)] at hc;injection hc with hc;subst hc;exact JS hq
      ·rw [Rc gP (by omega)] at hc;injection hc with hc;subst hc;exact QL _
     clear hq
     have cm:=(H.blk 0 rfl).Am 0
     have mm:=fun k=>Mi k g cm
     clear cm
     go_wp2_with fail
     clear mm
     refine (K8 j2 i x2 y gP HY (by omega) (by omega) _ H.to (H.row 1 rfl)).mono ?_;rintro e w2 ⟨rfl,hb2⟩
     replace H:=Aa (H.Au hb2)
     clear hb2
     cases hL:DJ x2.Ac y.Ac with
     |false=>
      have HH:Hid (Heap ((L.take m).map Dh.Ac) m):=Pg HU (fun k a b h0 hk hp ha hb=>by
       rw [Rc HY (by omega)] at hb
       injection hb with hb;subst hb
       exact GN (tne JB gP (by omega)) hL (HM k a h0 hk hp ha))
      clear hL
      go_wp2_with fail
      go_returns
      exact ⟨⟨_,rfl⟩,L,HP.Ab,HD.Ab,HH.Ab,H.Ab⟩
     |true=>
      have HT:Hid ((((L.set i x2).set j2 y).take m).map Dh.Ac=PS ((L.take m).map Dh.Ac) i j2 y.Ac x2.Ac):=by show _=_;rw [Jo,Jo,RD]
      have V9:Hid (Je ((((L.set i x2).set j2 y).take m).map Dh.Ac) m j2):=by
       show Je _ _ _
       rw [HT.Ab]
       exact SY (by rw [Cq,Fa,J3.Ab];omega) (by omega) (by omega) HPj2 HU (WC (w:=w0) JB.Ab) (Rc gP (by omega)) (Rc HY (by omega)) hL HM.Ab
      have Xy:Hid ((((L.set i x2).set j2 y).take m).Perm (L0.take m)):=by
       show List.Perm _ _
       rw [Jo,Jo]
       exact (swap_perm (by omega) (by rw [Gu (by omega)];exact HY.Ab) (by rw [Gu (by omega)];exact gP.Ab)).trans HP.Ab
      have HD2:Hid (((L.set i x2).set j2 y).drop m=L0.drop m):=by show _=_;rw [Sq (by omega),Sq (by omega),HD.Ab]
      have Tp:Hid (∀ z ∈ ((L.set i x2).set j2 y).take m,z.ok w0):=fun z hz=>JB z ((HP.mem_iff).2 (Xy.mem_iff.1 hz))
      clear hL HT
      have cm:=(H.blk 0 rfl).Am 0
      have mm:=fun k=>Mh k g cm
      clear cm
      go_wp2_with fail
      clear mm
      refine (Mk w0 _ g A n c i j2 L rest y x2 H hn HY gP.Ab).mono ?_;rintro e w3 ⟨rfl,hh3⟩
      replace H:=Aa hh3
      clear hh3
      go_wp2_with fail
      go_roundg (m - j2)
      case rel=>exact ⟨j2,_,rfl,by omega,by go_num,Xy,HD2,Tp,V9,H⟩
      case measure=>rw [Cg.Ab];omega
    |false=>
     have HM:Hid (∀ k c,0<k→k<m→(k - 1) / 2=i→((L.take m).map Dh.Ac)[k]?=some c→DJ c x.Ac=false):=fun k c h0 hk hp hc=>by
      rcases (show k=j1∨k=j2 by have:=HJ1.Ab;have:=HJ2.Ab;omega) with rfl|rfl
      ·rw [Rc Si (by omega)] at hc;injection hc with hc;subst hc;exact QL _
      ·rw [Rc gP (by omega)] at hc;injection hc with hc;subst hc;exact hq
     clear hq
     have cm:=(H.blk 0 rfl).Am 0
     have mm:=fun k=>Mi k g cm
     clear cm
     go_wp2_with fail
     clear mm
     refine (K8 j1 i x y Si HY (by omega) (by omega) _ H.to (H.row 1 rfl)).mono ?_;rintro e w2 ⟨rfl,hb2⟩
     replace H:=Aa (H.Au hb2)
     clear hb2
     cases hL:DJ x.Ac y.Ac with
     |false=>
      have HH:Hid (Heap ((L.take m).map Dh.Ac) m):=Pg HU (fun k a b h0 hk hp ha hb=>by
       rw [Rc HY (by omega)] at hb
       injection hb with hb;subst hb
       exact GN (tne JB Si (by omega)) hL (HM k a h0 hk hp ha))
      clear hL
      go_wp2_with fail
      go_returns
      exact ⟨⟨_,rfl⟩,L,HP.Ab,HD.Ab,HH.Ab,H.Ab⟩
     |true=>
      have HT:Hid ((((L.set i x).set j1 y).take m).map Dh.Ac=PS ((L.take m).map Dh.Ac) i j1 y.Ac x.Ac):=by show _=_;rw [Jo,Jo,RD]
      have V9:Hid (Je ((((L.set i x).set j1 y).take m).map Dh.Ac) m j1):=by
       show Je _ _ _
       rw [HT.Ab]
       exact SY (by rw [Cq,Fa,J3.Ab];omega) (by omega) (by omega) HPj1 HU (WC (w:=w0) JB.Ab) (Rc Si (by omega)) (Rc HY (by omega)) hL HM.Ab
      have Xy:Hid ((((L.set i x).set j1 y).take m).Perm (L0.take m)):=by
       show List.Perm _ _
       rw [Jo,Jo]
       exact (swap_perm (by omega) (by rw [Gu (by omega)];exact HY.Ab) (by rw [Gu (by omega)];exact Si.Ab)).trans HP.Ab
      have HD2:Hid (((L.set i x).set j1 y).drop m=L0.drop m):=by show _=_;rw [Sq (by omega),Sq (by omega),HD.Ab]
      have Tp:Hid (∀ z ∈ ((L.set i x).set j1 y).take m,z.ok w0):=fun z hz=>JB z ((HP.mem_iff).2 (Xy.mem_iff.1 hz))
      clear hL HT
      have cm:=(H.blk 0 rfl).Am 0
      have mm:=fun k=>Mh k g cm
      clear cm
      go_wp2_with fail
      clear mm
      refine (Mk w0 _ g A n c i j1 L rest y x H hn HY Si.Ab).mono ?_;rintro e w3 ⟨rfl,hh3⟩
      replace H:=Aa hh3
      clear hh3
      go_wp2_with fail
      go_roundg (m - j1)
      case rel=>exact ⟨j1,_,rfl,by omega,by go_num,Xy,HD2,Tp,V9,H⟩
      case measure=>rw [Cg.Ab];omega
   ·have HM:Hid (∀ k c,0<k→k<m→(k - 1) / 2=i→((L.take m).map Dh.Ac)[k]?=some c→DJ c x.Ac=false):=fun k c h0 hk hp hc=>by
     obtain rfl:k=j1:=by have:=HJ1.Ab;have:=HJ2.Ab;omega
     rw [Rc Si (by omega)] at hc;injection hc with hc;subst hc;exact QL _
    have cm:=(H.blk 0 rfl).Am 0
    have mm:=fun k=>Mi k g cm
    clear cm
    go_wp2_with fail
    clear mm
    refine (K8 j1 i x y Si HY (by omega) (by omega) _ H.to (H.row 1 rfl)).mono ?_;rintro e w2 ⟨rfl,hb2⟩
    replace H:=Aa (H.Au hb2)
    clear hb2
    cases hL:DJ x.Ac y.Ac with
    |false=>
     have HH:Hid (Heap ((L.take m).map Dh.Ac) m):=Pg HU (fun k a b h0 hk hp ha hb=>by
      rw [Rc HY (by omega)] at hb
      injection hb with hb;subst hb
      exact GN (tne JB Si (by omega)) hL (HM k a h0 hk hp ha))
     clear hL
     go_wp2_with fail
     go_returns
     exact ⟨⟨_,rfl⟩,L,HP.Ab,HD.Ab,HH.Ab,H.Ab⟩
    |true=>
     have HT:Hid ((((L.set i x).set j1 y).take m).map Dh.Ac=PS ((L.take m).map Dh.Ac) i j1 y.Ac x.Ac):=by show _=_;rw [Jo,Jo,RD]
     have V9:Hid (Je ((((L.set i x).set j1 y).take m).map Dh.Ac) m j1):=by
      show Je _ _ _
      rw [HT.Ab]
      exact SY (by rw [Cq,Fa,J3.Ab];omega) (by omega) (by omega) HPj1 HU (WC (w:=w0) JB.Ab) (Rc Si (by omega)) (Rc HY (by omega)) hL HM.Ab
     have Xy:Hid ((((L.set i x).set j1 y).take m).Perm (L0.take m)):=by
      show List.Perm _ _
      rw [Jo,Jo]
      exact (swap_perm (by omega) (by rw [Gu (by omega)];exact HY.Ab) (by rw [Gu (by omega)];exact Si.Ab)).trans HP.Ab
     have HD2:Hid (((L.set i x).set j1 y).drop m=L0.drop m):=by show _=_;rw [Sq (by omega),Sq (by omega),HD.Ab]
     have Tp:Hid (∀ z ∈ ((L.set i x).set j1 y).take m,z.ok w0):=fun z hz=>JB z ((HP.mem_iff).2 (Xy.mem_iff.1 hz))
     clear hL HT
     have cm:=(H.blk 0 rfl).Am 0
     have mm:=fun k=>Mh k g cm
     clear cm
     go_wp2_with fail
     clear mm
     refine (Mk w0 _ g A n c i j1 L rest y x H hn HY Si.Ab).mono ?_;rintro e w3 ⟨rfl,hh3⟩
     replace H:=Aa hh3
     clear hh3
     go_wp2_with fail
     go_roundg (m - j1)
     case rel=>exact ⟨j1,_,rfl,by omega,by go_num,Xy,HD2,Tp,V9,H⟩
     case measure=>rw [Cg.Ab];omega
theorem lG (w0 w:World) (g:Nat) (A:Option Addr) (n c:Nat) (L:List Dh) (rest:List EE) (a:Dh) (h:SL No w0 w (Gw g A n c L rest)) (hn:n≤999999) (hok:∀ x ∈ L,x.ok w0) (ha:a.ok w0) (hh:Heap (L.map Dh.Ac) n):
 Calls prog 183 #[.iface 264 (.pointer (some ⟨g,0,none⟩)),.iface 269 (.agg a.cs)] w fun e w'=>e=.returned (.tuple #[])∧∃ (A':Option Addr) (c':Nat) (L':List Dh),L'.Perm (L++[a])∧Heap (L'.map Dh.Ac) (n+1)∧SL No w0 w' (Gw g A' (n+1) c' L' rest):=by
 have hl:L.length=n:=FO (Rd.Bf (h.row 1 rfl))
 have JB:Hid (∀ x ∈ L++[a],x.ok w0):=fun x hx=>(DT.1 hx).elim (hok x) (fun h=>by rw [Dt] at h;subst h;exact ha)
 have HU:Hid (Xx ((L++[a]).map Dh.Ac) n):=by
  constructor
  ·intro k x y h0 hk hP hx hy
   rw [Cq,BQ,List.length_singleton] at hk
   rw [BR,Nz (by rw [Cq];omega)] at hx hy
   exact hh k x y h0 (by omega) (fun h=>h) hx hy
  ·intro k x y h0 h1 hk hx hy
   have:=(Ca.1 hx).1
   rw [Cq,BQ,List.length_singleton] at this
   omega
 have HP:=Aa (uG w0 w g A n c L rest a h (by omega))
 clear h hok ha hh hl
 go_enter func183,ntmps183
 have mm:=fun k w=>tJ k (.pointer (some ⟨g,0,none⟩)) w
 go_wp2_with fail
 clear mm
 refine HP.mono ?_;rintro e w2 ⟨rfl,A2,c2,h2⟩
 have H:=Aa h2
 clear h2 HP
 have cm:=(H.blk 0 rfl).Am 0
 have mm:=fun k=>VR k g cm
 clear cm
 go_wp2_with fail
 clear mm
 refine (RL _ _ _ _).mono ?_;rintro e w3 ⟨rfl,rfl⟩
 have e1:((n+1:Nat):Int) - 1=n:=by omega
 go_wp2_with fail
 refine (xC w0 _ g A2 (n+1) c2 n (L++[a]) rest H (by omega) JB (by omega) HU.Ab).mono ?_;rintro e w4 ⟨rfl,L',hp,hh,hs⟩
 have HR:Hid (∃ (A':Option Addr) (c':Nat) (L':List Dh),L'.Perm (L++[a])∧Heap (L'.map Dh.Ac) (n+1)∧SL No w0 w4 (Gw g A' (n+1) c' L' rest)):=⟨A2,c2,L',hp,hh,hs⟩
 clear hp hh hs
 go_wp2
 go_returns
 exact ⟨rfl,HR.Ab⟩
theorem uI (w0 w:World) (g:Nat) (A:Option Addr) (n c:Nat) (L:List Dh) (rest:List EE) (h:SL No w0 w (Gw g A n c L rest)) (hn:n≤1000000) (h1:1≤n) (hok:∀ x ∈ L,x.ok w0) (hu:Je (L.map Dh.Ac) n 0):
 Calls prog 186 #[.iface 264 (.pointer (some ⟨g,0,none⟩)),.int .i64 0] w fun e w'=>e=.returned (.tuple #[])∧∃ (L':List Dh),L'.Perm L∧Heap (L'.map Dh.Ac) n∧SL No w0 w' (Gw g A n c L' rest):=by
 have hl:L.length=n:=FO (Rd.Bf (h.row 1 rfl))
 have ht:L.take n=L:=DY (by omega)
 have HDn:=Aa (eZ w0 w g A n n c 0 L rest h hn (BZ _) (by rw [ht];exact hok) (Bw _) (by rw [ht];exact hu))
 have JB:=Aa hok
 have HT:=Aa ht
 have H:=Aa h
 clear h hok hu hl ht
 go_enter func186,ntmps186
 have cm:=(H.blk 0 rfl).Am 0
 have mm:=fun k=>VR k g cm
 clear cm
 go_wp2_with fail
 clear mm
 refine (RL _ _ _ _).mono ?_;rintro e w3 ⟨rfl,rfl⟩
 go_wp2_with fail
 refine HDn.mono ?_;rintro e w4 ⟨⟨b,rfl⟩,L',hp,hd,hh,hs⟩
 have hl2:L'.length=n:=FO (Rd.Bf (hs.row 1 rfl))
 have ht2:L'.take n=L':=DY (by omega)
 rw [ht2,HT.Ab] at hp
 rw [ht2] at hh
 have HP:=Aa hp
 have HH:=Aa hh
 have HU:Hid (Xx (L'.map Dh.Ac) 0):=⟨fun k x y h0 hk hP hx hy=>by
  rw [Cq,hl2] at hk
  exact hh k x y h0 hk (fun h=>h) hx hy,fun k x y h0=>by omega⟩
 have Tp:Hid (∀ x ∈ L',x.ok w0):=fun x hx=>JB x (hp.mem_iff.1 hx)
 clear H HDn hp hd hh hl2 ht2
 have H:=Aa hs
 clear hs
 cases b with
 |true=>
  go_wp2
  go_returns
  exact ⟨rfl,L',HP.Ab,HH.Ab,H.Ab⟩
 |false=>
  go_wp2_with fail
  refine (xC w0 _ g A n c 0 L' rest H hn Tp (by omega) HU.Ab).mono ?_;rintro e w5 ⟨rfl,L2,hp2,hh2,hs2⟩
  have HR:Hid (∃ (L2:List Dh),L2.Perm L∧Heap (L2.map Dh.Ac) n∧SL No w0 w5 (Gw g A n c L2 rest)):=⟨L2,hp2.trans HP.Ab,hh2,hs2⟩
  clear hp2 hh2 hs2
  go_wp2
  go_returns
  exact ⟨rfl,HR.Ab⟩
theorem uH (w0 w:World) (g:Nat) (A:Option Addr) (m c:Nat) (L:List Dh) (rest:List EE) (r:Dh) (h:SL No w0 w (Gw g A (m+1) c L rest)) (hn:m≤999999) (hr:L[0]?=some r) (hok:∀ k x,0<k→L[k]?=some x→x.ok w0) (hh:Heap (L.map Dh.Ac) (m+1)):
 Calls prog 185 #[.iface 264 (.pointer (some ⟨g,0,none⟩))] w fun e w'=>(∃ v,e=.returned v)∧∃ (L':List Dh),(L'++[r]).Perm L∧Heap (L'.map Dh.Ac) m∧SL No w0 w' (Gw g A m c L' rest):=by
 have hl:L.length=m+1:=FO (Rd.Bf (h.row 1 rfl))
 obtain ⟨z,hz⟩:∃ z,L[m]?=some z:=⟨_,Ep (by omega)⟩
 obtain ⟨L1,hL1⟩:∃ L1,L1=(L.set 0 z).set m r:=⟨_,rfl⟩
 have r9:∀ k,L1[k]?=if k=m then some r else if k=0 then some z else L[k]?:=fun k=>by
  rw [hL1]
  by_cases e1:k=m
  ·rw [Ak e1,e1,LZ (by simp;omega)]
  ·rw [Ah e1,Nw (fun h=>e1 h.symm)]
   by_cases e2:k=0
   ·rw [Ak e2,e2,LZ (by omega)]
   ·rw [Ah e2,Nw (fun h=>e2 h.symm)]
 have hl1:L1.length=m+1:=by rw [hL1];simp [hl]
 have hp1:L1.Perm L:=by
  rw [hL1]
  by_cases e:m=0
  ·subst e
   rw [hr] at hz;injection hz with hz;subst hz
   rw [List.set_set]
   rw [show L.set 0 r=L from UJ fun k=>by
    by_cases e:k=0
    ·rw [e,LZ (by omega),hr]
    ·rw [Nw (fun h=>e h.symm)]]
  ·exact swap_perm (by omega) hr hz
 have JB:Hid (∀ x ∈ L1.take m,x.ok w0):=fun x hx=>by
  obtain ⟨k,hk⟩:=Iz.1 hx
  rw [Qk] at hk
  split at hk
  ·rename_i hkm
   rw [r9,Ah (by omega)] at hk
   split at hk
   ·injection hk with hk;subst hk
    exact hok m z (by omega) hz
   ·exact hok k x (by omega) hk
  ·cases hk
 have HU:Hid (Je ((L1.take m).map Dh.Ac) m 0):=by
  constructor
  ·intro k x y h0 hk hP hx hy
   rw [DD,Gu hk,r9,Ah (by omega),Ah (by omega),←DD] at hx
   rw [DD,Gu (by omega),r9,Ah (by omega),Ah hP,←DD] at hy
   exact hh k x y h0 (by omega) (fun h=>h) hx hy
  ·intro k x y h0;omega
 have HSw:=Aa (Mk w0 w g A (m+1) c 0 m L rest r z h (by omega) hr hz)
 rw [←hL1] at HSw
 have HG:Hid (L1=L1.take m++[r]):=by
  show _=_
  have:=Ki m L1
  conv=>lhs;rw [←this]
  congr 1
  rw [DZ (by omega),EY (by omega)]
  have hg:=r9 m
  rw [Ak rfl,Ep (by omega)] at hg
  injection hg with hg
  rw [hg]
 have HP1:=Aa hp1
 have H:=Aa h
 clear h hok hh hl hr hz hL1 r9 hl1 hp1
 go_enter func185,ntmps185
 have cm:=(H.blk 0 rfl).Am 0
 have mm:=fun k=>VR k g cm
 clear cm
 go_wp2_with fail
 clear mm
 refine (RL _ _ _ _).mono ?_;rintro e w3 ⟨rfl,rfl⟩
 have e1:((m+1:Nat):Int) - 1=m:=by omega
 have cm:=(H.blk 0 rfl).Am 0
 have mm:=fun k=>Mh k g cm
 clear cm
 go_wp2_with fail
 clear mm
 refine HSw.mono ?_;rintro e w4 ⟨rfl,h4⟩
 replace H:=Aa h4
 clear h4 HSw
 go_wp2_with fail
 refine (eZ w0 _ g A (m+1) m c 0 L1 rest H (by omega) (by omega) JB (Bw _) HU.Ab).mono ?_;rintro e w5 ⟨⟨b,rfl⟩,L2,hp,hd,hh,hs⟩
 have Xy:=Aa hp
 have HH:=Aa hh
 clear H HU JB hp hd hh
 have H:=Aa hs
 clear hs
 have mm:=fun k w=>zL k (.pointer (some ⟨g,0,none⟩)) w
 go_wp2_with fail
 clear mm
 refine (j5 w0 _ g A m c L2 rest H (by omega)).mono ?_;rintro e w6 ⟨⟨v,rfl⟩,h6⟩
 have HR:Hid (∃ (L':List Dh),(L'++[r]).Perm L∧Heap (L'.map Dh.Ac) m∧SL No w0 w6 (Gw g A m c L' rest)):=⟨L2.take m,((Xy.append_right [r]).trans (by rw [←HG.Ab])).trans HP1.Ab,HH.Ab,h6⟩
 clear h6 Xy HH H
 go_wp2
 go_returns
 exact ⟨⟨_,rfl⟩,HR.Ab⟩
section
variable {P : Program}
theorem Vd {ops:Array Oper} {rest:List Oper} {o:Oper} {a:Act} {w:World} {Q:Exit→Act→World→Prop} (hgd:o.guard=none) {t:TypeId} (x y:Operand) {i j:Nat} (ho:o.op=.build t #[(i,x),(j,y)])
 {vx vy v:Value} (hx:a.eval x=vx) (hy:a.eval y=vy) (hr:∀ w,(Instr.build t #[(i,vx),(j,vy)]).run P w=.ok v w)
 (h:wpList P ops Q rest (a.put o.dst v) w):wpList P ops Q (o::rest) a w:=by
 refine MO hgd fun K hK=>?_
 unfold Oper.wp execOp
 simp only [ho,PI,DI,EF,hx,hy,IP,hr,JK,JJ]
 exact hK _ _ h
end
theorem Rz {α:Type} [Ar α] {w:World} {base:Nat} {e:TypeId} {x:Row α} (h:w.ownsRow base e (Ar.size α) (.slice x.A x.n x.c) x.n (x.l.flatMap Ar.cells)) (ha:∀ a ∈ x.l,Ar.ok w a) (hz:x.n * Ar.bytes α≤140737488351232):x.ok w:=by
 refine ⟨Rd.Bf h,ha,?_,?_,hz⟩
 ·rcases h.2 with ⟨h0,h1⟩|⟨g',cap,cur,hv,hb,hh,hn,hm,hs,hx⟩
  ·omega
  ·injection hv with _ _ hv;omega
 ·rcases h.2 with ⟨h0,h1⟩|⟨g',cap,cur,hv,hb,hh,hn,hm,hs,hx⟩
  ·injection h0 with _ _ h0;omega
  ·injection hv with _ _ hv;omega
theorem Mw (f:AV):∀ u ∈ f.cs.toList,u.oneCell'=true:=fun u hu=>NB.1 (FC f) u (by simpa using hu)
abbrev rRun (x:Row AV):EE:=⟨fun g=>(0<x.n∧x.v.ownBlock=some g)∨∃ f ∈ x.l,0<f.ks.n∧f.ks.v.ownBlock=some g,fun w=>x.ok w⟩
theorem bH {α:Type} [Ar α] {w w':World} {x:Row α} (h:x.ok w) (hs:w.heap.size≤w'.heap.size) (ha:∀ a ∈ x.l,Ar.ok w' a) (hk:∀ g,0<x.n→x.v.ownBlock=some g→w'.heap[g]?=w.heap[g]?):x.ok w':=by
 refine ⟨⟨h.rd.1,fun hn=>?_⟩,ha,h.le,h.cap,h.reach⟩
 obtain ⟨ad,e,hb,hc⟩:=h.rd.2 hn
 refine ⟨ad,e,by omega,fun j u hu=>?_⟩
 rw [←hc j u hu]
 refine QY ?_
 rw [FU]
 exact hk _ hn (by show Value.ownBlock (.slice x.A x.n x.c)=_;rw [e];(try rfl))
theorem yC {α:Type} [Ar α] {w:World} {x:Row α} (h:x.ok w) {g:Nat} (hn:0<x.n) (hg:x.v.ownBlock=some g):g<w.heap.size:=by
 obtain ⟨ad,e,hb,_⟩:=h.rd.2 hn
 have hg:Value.ownBlock (.slice x.A x.n x.c)=some g:=hg
 rw [e] at hg
 injection hg with hg
 omega
theorem uJ {x:Row AV} {w:World} (h:x.ok w):(rRun x).holds w:=by
 refine ⟨?_,fun w' hs hk=>bH h hs (fun f hf=>⟨bH (h.all f hf).ks hs (h.all f hf).ks.all fun g hn hg=>hk g (.inr ⟨f,hf,hn,hg⟩),(h.all f hf).ag⟩) fun g hn hg=>hk g (.inl ⟨hn,hg⟩)⟩
 rintro g (⟨hn,hg⟩|⟨f,hf,hn,hg⟩)
 ·exact yC h hn hg
 ·exact yC (h.all f hf).ks hn hg
theorem Im.run {w0 w:World} {v:Value} {fs:List AV} (h:Im w0 w v fs) (hn:fs.length≤1000000):∃ X:Row AV,v=X.v∧X.l=fs∧X.n=fs.length∧X.ok w∧Uq w0 w (rRun X):=by
 obtain ⟨A,n,c,rfl,hnl⟩:∃ A n c,v=.slice A n c∧n=fs.length:=by
  rcases h.own.2 with ⟨hv,h0⟩|⟨g,cap,cur,hv,_⟩
  ·exact ⟨_,_,_,hv,h0.symm⟩
  ·exact ⟨_,_,_,hv,rfl⟩
 subst hnl
 have hok:Row.ok w (⟨A,fs.length,c,fs⟩:Row AV):=Rz (x:=⟨A,fs.length,c,fs⟩) h.own h.ok (by show fs.length * 104≤_;omega)
 refine ⟨⟨A,fs.length,c,fs⟩,rfl,rfl,rfl,hok,uJ hok,?_⟩
 rintro g (⟨hn,hg⟩|⟨f,hf,hn,hg⟩)
 ·exact Gj h.own hg
 ·obtain ⟨ad,e,_⟩:=(hok.all f hf).ks.rd.2 hn
  have hg:Value.ownBlock (.slice f.ks.A f.ks.n f.ks.c)=some g:=hg
  rw [e] at hg
  injection hg with hg
  have:=h.new f hf hn ad e
  omega
def Ku (x:Row AV):Row AV:=⟨if x.c=1 then x.A else x.A.map (·.add 11),x.n - 1,x.c - 1,x.l.drop 1⟩
theorem M9 {w:World} {x:Row AV} (h:x.ok w) (h1:1≤x.n):(Ku x).ok w:=by
 have hl:=h.len
 have hle:=h.le
 have hcap:=h.cap
 have hre:=h.reach
 refine ⟨⟨?_,fun hn=>?_⟩,fun f hf=>h.all f (QX hf),by show x.n - 1≤x.c - 1;omega,by show x.c - 1≤_;omega,by show (x.n - 1) * 104≤_;have:x.n * 104≤140737488351232:=hre;omega⟩
 ·rw [Dz]
  show (x.l.drop 1).length * 11=(x.n - 1) * 11
  rw [IA,hl]
 ·have hn:0<x.n - 1:=hn
  obtain ⟨ad,e,hb,hc⟩:=h.rd.2 (by omega)
  refine ⟨ad.add 11,by show (if x.c=1 then x.A else x.A.map (·.add 11))=_;rw [Ah (by omega),e];(try rfl),by rw [FU];exact hb,fun j u hu=>?_⟩
  have hu':(x.l.flatMap Ar.cells)[11+j]?=some u:=by
   have hx:x.l=x.l.take 1++x.l.drop 1:=(Ki 1 x.l).symm
   have ht:((x.l.take 1).flatMap Ar.cells).length=11:=by rw [Dz,Fa,hl];show min 1 x.n * 11=11;rw [PD h1]
   rw [hx,FD,NZ (by rw [ht];omega),ht,Nat.add_sub_cancel_left]
   exact hu
  have:=hc (11+j) u hu'
  rw [←this]
  congr 1
  unfold Addr.add
  by_cases h0:j=0
  ·subst h0;simp
  ·simp [h0,Ns]
theorem xD:prog.underlying 54=some (.slice (prog.elem 54)):=by kernel_rfl
theorem jF (x:Row AV) (h1:1≤x.n) (w:World):(Instr.sliceAt 54 (.slice x.A x.n x.c) (some (.int .i64 1)) none none).run prog w=.ok (.slice (Ku x).A (Ku x).n (Ku x).c) w:=by
 have hz:∀ w,(sizeOf (prog.elem 54)).run prog w=.ok 11 w:=fun _=>by kernel_rfl
 rw [run_sliceAt_slice (h:=xD),run_slice_l (ht:=xD) (h0:=by omega) (h1:=by omega),hz]
 simp [sliced,Ku]
theorem vL {l:List AV} {f:AV} (h:l[0]?=some f):cons l=f.Ac::cons (l.drop 1):=by
 cases l with
 |nil=>simp at h
 |cons a l=>injection h with h;subst h;rfl
theorem Zc {w:World} {base:Nat} {e:TypeId} {size g n c o:Nat} {xs:List Value} (h:w.ownsRow base e size (.slice (some ⟨g,0,none⟩) n c) n xs) (ho:o<n * size) (u:Value):(w.setCell ⟨g,o,none⟩ u).ownsRow base e size (.slice (some ⟨g,0,none⟩) n c) n (xs.set o u):=by
 refine ⟨by rw [Qm];exact h.1,?_⟩
 rcases h.2 with ⟨h0,h1⟩|⟨g',cap,cur,hv,hb,hh,hn,hm,hs,hx⟩
 ·cases h0
 ·injection hv with hv1 _ hv2
  injection hv1 with hv1
  injection hv1 with hv1 _ _
  subst hv1 hv2
  refine .inr ⟨g,c,cur.setIfInBounds o u,rfl,hb,Br.Gr (t:=e) (cs:=cur) hh o u,hn,hm,by simpa using hs,?_⟩
  rw [←hx,Array.toList_setIfInBounds,Jo]
theorem yV {w:World} {base:Nat} {e:TypeId} {size g n c o:Nat} {xs:List Value} (h:w.ownsRow base e size (.slice (some ⟨g,0,none⟩) n c) n xs) (ho:o<n * size):w.frozen? ⟨g,o,none⟩=false:=by
 rcases h.2 with ⟨h0,h1⟩|⟨g',cap,cur,hv,hb,hh,hn,hm,hs,hx⟩
 ·cases h0
 ·injection hv with hv1 _ hv2
  injection hv1 with hv1
  injection hv1 with hv1 _ _
  subst hv1 hv2
  have hb2:Br w g e cur:=hh
  exact hb2.frozen o
theorem uO {L:List Dh} {r r':Dh} {m:Nat} (h0:L[0]?=some r) (hh:Heap (L.map Dh.Ac) m):Je ((L.set 0 r').map Dh.Ac) m 0∧(r'.Ac.1=[]→Heap ((L.set 0 r').map Dh.Ac) m):=by
 have g:∀ k,0<k→((L.set 0 r').map Dh.Ac)[k]?=(L.map Dh.Ac)[k]?:=fun k hk=>by rw [DD,DD,Nw (by omega)]
 refine ⟨⟨fun k a b h0 hk hP ha hb=>?_,fun k a b h=>by omega⟩,fun he k a b hk0 hk _ ha hb=>?_⟩
 ·rw [g _ h0] at ha
  rw [g _ (by omega)] at hb
  exact hh k a b h0 hk (fun h=>h) ha hb
 ·by_cases hp:(k - 1) / 2=0
  ·rw [hp,DD,LZ (Ca.1 h0).1] at hb
   injection hb with hb;subst hb
   show DJ a r'.Ac=false
   unfold DJ
   rw [he]
   cases a.1<;>rfl
  ·rw [g _ hk0] at ha
   rw [g _ (by omega)] at hb
   exact hh k a b hk0 hk (fun h=>h) ha hb
theorem Wi {R:List (List BS)} {k:Nat} {l:List BS} (h:R[k]?=some l):CP 0 (R.take (k+1))=CP 0 (R.take k)++(if l=[] then [] else [(l,k)]):=by
 have hk:=(Ca.1 h).1
 rw [Tw,h,Option.toList_some,QM,Fa,PD (by omega),Hw]
 rfl
theorem sI (w:World) (e:TypeId) (size:Nat):(w.alloc (.cells #[] e)).ownsRow w.heap.size e size (.slice (some ⟨w.heap.size,0,none⟩) 0 0) 0 []:=
 ⟨by simp,.inr ⟨w.heap.size,0,#[],rfl,BZ _,Br.new w e #[],BZ _,by unfold maxLen;omega,by simp,by simp⟩⟩
theorem SN (w:World) (t:TypeId) (cs:Array Value) (size:Nat) (hs:cs.size=size):(w.alloc (.cells cs t)).ownsRow w.heap.size t size (.slice (some ⟨w.heap.size,0,none⟩) 1 1) 1 cs.toList:=
 ⟨by simp [hs],.inr ⟨w.heap.size,1,cs,rfl,BZ _,Qn w _,BZ _,by unfold maxLen;omega,by omega,by rw [DY (by simp [hs])]⟩⟩
theorem Xd {P:Program} {ops:Array Oper} {rest:List Oper} {o:Oper} {a:Act} {w:World} {Q:Exit→Act→World→Prop} (hgd:o.guard=none) {t:TypeId} (x:Operand) (lo hi:Option Operand) (ho:o.op=.slice t x lo hi none) {v:Value}
 (hr:∀ w,(Instr.sliceAt t (a.eval x) (lo.map a.eval) (hi.map a.eval) none).run P w=.ok v w) (h:wpList P ops Q rest (a.put o.dst v) w):wpList P ops Q (o::rest) a w:=by
 refine MO hgd fun K hK=>?_
 unfold Oper.wp execOp
 simp only [ho,Option.map_none,IP,hr,JK,JJ]
 exact hK _ _ h
theorem xR {L:List Dh} {A A':Option Addr} {n c n' c' no:Nat} {l l':List AV} (h:L[0]?=some ⟨⟨A,n,c,l⟩,no⟩):(L.flatMap Ar.cells).set 0 (.slice A' n' c')=(L.set 0 ⟨⟨A',n',c',l'⟩,no⟩).flatMap Ar.cells:=by
 cases L with
 |nil=>simp at h
 |cons a L=>injection h with h;subst h;rfl
def pU (l:List BS) (w:World) (e:Ending) (w':World):Prop:=∃ v fs,e=.returned v∧Im w w' v fs∧cons fs=l
theorem sJ {w:World} {base base':Nat} {e:TypeId} {size n:Nat} {v:Value} {xs:List Value} (h:w.ownsRow base e size v n xs) (hb:base'≤base):w.ownsRow base' e size v n xs:=by
 refine ⟨h.1,?_⟩
 rcases h.2 with h0|⟨g,cap,cur,hv,hg,hr⟩
 ·exact .inl h0
 ·exact .inr ⟨g,cap,cur,hv,Gm hb hg,hr⟩
theorem Im.from_ {w w1 w2:World} {v:Value} {fs:List AV} (hb:Aj w w1) (h:Im w1 w2 v fs):Im w w2 v fs:=⟨hb.trans h.Au,sJ h.own hb.size,h.ok,h.away,fun f hf hn ad e=>Gm hb.size (h.new f hf hn ad e)⟩
abbrev EH (x:List (Row AV)):List (List BS):=x.map fun r=>cons r.l
theorem SQ (w:World) (x:Row (Row AV)) (hx:x.ok w) (hn:x.n≤5000) (ht:(EH x.l).flatten.length≤100000) (hs:∀ r ∈ EH x.l,Uh r):
 Calls prog 152 #[.slice x.A x.n x.c] w (pU (AZ (EH x.l).flatten) w):=by
 have HX:=Aa hx
 have hlen:Hid (x.l.length=x.n):=hx.len
 obtain ⟨A0,N,c0,X⟩:=x
 simp only at *
 obtain ⟨R,hR⟩:∃ R,R=EH X:=⟨_,rfl⟩
 have HRl:Hid (R.length=N):=by show _=_;rw [hR,Cq];exact hlen.Ab
 have nL:Hid (∀ (k:Nat) (y:Row AV),X[k]?=some y→R[k]?=some (cons y.l)):=fun k y h=>by rw [hR,DD,h];(try rfl)
 rw [←hR] at ht hs ⊢
 have HS0:=Aa hs
 have HT:=Aa ht
 clear hR hx ht hs
 go_enter func152,ntmps152
 go_upto_region 2 with fail
 have H:=Aa ((((SL.start No w).CJ ((Aj.refl _).alloc _) (sI w 269 2)).alloc #[.slice (some ⟨w.heap.size,0,none⟩) 0 0] 266).rot)
 (try simp only [LS] at H)
 generalize w.heap.size+1=g at *
 generalize World.alloc (World.alloc _ _) _=w1 at *
 generalize (some (⟨w.heap.size,0,none⟩:Addr))=A at *
 have HP:Hid ((List.map Dh.Ac ([]:List Dh)).Perm (CP 0 (R.take 0))):=by rw [wU];exact List.Perm.nil
 have HH:Hid (Heap (List.map Dh.Ac ([]:List Dh)) 0):=fun k a b h0 hk=>by omega
 have JB:Hid (∀ h ∈ ([]:List Dh),h.ok w):=fun h hh=>by cases hh
 replace H:Hid (SL No w w1 (Gw g A 0 0 [] [])):=H
 go_wp2_with fail
 go_loopg [12,4,5] N (fun gg s12 s4 s5 wr=>∃ (k m c:Nat) (A:Option Addr) (L:List Dh),gg=N - k∧k≤N∧m≤k∧s12=.int .i64 k∧Hid ((L.map Dh.Ac).Perm (CP 0 (R.take k)))∧Hid (Heap (L.map Dh.Ac) m)∧Hid (∀ h ∈ L,h.ok w)∧Hid (SL No w wr (Gw g A m c L [])))
 case atStart=>exact ⟨0,0,0,A,[],rfl,by omega,by omega,rfl,HP,HH,JB,H⟩
 case round=>
  clear H HP HH JB
  obtain ⟨k,m,c,A,L,BG,hk,hmk,rfl,HP,HH,JB,H⟩:=hrel
  have Cg:=Aa BG
  clear BG
  by_cases hlt:k<N
  ·obtain ⟨bb,oo,y,hA,hyk,q1⟩:=OO rfl (HX.mono H.to).rd (k:=k) hlt
   simp only at hA
   subst hA
   have q1:=q1 _ rfl
   have Pw:y.ok w:=HX.all y (CE hyk)
   have HRk:=Aa (nL k y hyk)
   have hyl:(cons y.l).length=y.n:=by rw [AL];exact Pw.len
   have i0:(0:Int)≤k:=by omega
   have i1:(k:Int)<N:=by omega
   clear hyk
   obtain ⟨YA,yn,yc,yl⟩:=y
   simp only [Row.v] at *
   by_cases hy0:0<yn
   ·have d1:decide ((0:Int)<yn)=true:=by simp;omega
    have HYok:=Aa Pw
    have HPn:Hid (CP 0 (R.take (k+1))=CP 0 (R.take k)++[(cons yl,k)]):=by show _=_;rw [Wi HRk.Ab,Ah (fun e=>by rw [e] at hyl;simp at hyl;omega)]
    have hbd:∀ w:World,(Instr.build 269 #[(0,.slice YA yn yc),(1,.int .i64 k)]).run prog w=.ok (.agg #[.slice YA yn yc,.int .i64 k]) w:=fun _=>by kernel_rfl
    clear hyl Pw
    go_wp2_with ((with_reducible refine OP 24 ?_);refine Vd rfl (.tmp 22) (.tmp 23) rfl rfl rfl hbd ?_)
    refine (lG w _ g A m c L [] ⟨⟨YA,yn,yc,yl⟩,k⟩ H (by omega) JB ⟨HYok.Ab,hy0,by show k≤_;omega⟩ HH.Ab).mono ?_;rintro e w3 ⟨rfl,A2,c2,L2,hp,hh,hs3⟩
    have Xy:Hid ((L2.map Dh.Ac).Perm (CP 0 (R.take (k+1)))):=by
     show List.Perm _ _
     rw [HPn.Ab]
     refine (hp.map Dh.Ac).trans ?_
     rw [BR]
     exact HP.append_right _
    have Tp:Hid (∀ h ∈ L2,h.ok w):=fun h hm=>by
     rcases DT.1 (hp.mem_iff.1 hm) with h1|h1
     ·exact JB h h1
     ·rw [Dt] at h1;subst h1;exact ⟨HYok.Ab,hy0,by show k≤_;omega⟩
    have HH2:=Aa hh
    clear HP HH JB HPn hp hh H
    have H:=Aa hs3
    clear hs3 hbd d1 q1
    go_wp2_with fail
    go_roundg (N - (k+1))
    case rel=>exact ⟨k+1,m+1,c2,A2,L2,rfl,by omega,by omega,by go_num,Xy,HH2,Tp,H⟩
    case measure=>rw [Cg.Ab];omega
   ·have d1:decide ((0:Int)<yn)=false:=by simp;omega
    have Xy:Hid ((L.map Dh.Ac).Perm (CP 0 (R.take (k+1)))):=by
     show List.Perm _ _
     rw [Wi HRk.Ab,Ak (Km (by rw [hyl];omega)),EZ]
     exact HP.Ab
    clear HP hyl Pw
    go_wp2_with fail
    clear q1 d1
    go_roundg (N - (k+1))
    case rel=>exact ⟨k+1,m,c,A,L,rfl,by omega,by omega,by go_num,Xy,HH,JB,H⟩
    case measure=>rw [Cg.Ab];omega
  ·obtain rfl:k=N:=by omega
   have HP0:Hid ((L.map Dh.Ac).Perm (CP 0 R)):=by have h:=HP.Ab;rw [DY (by rw [HRl.Ab];exact BZ _)] at h;exact h
   replace H:Hid (SL No w wr [Av g 266 #[.slice A m c],Cb 269 2 (.slice A m c) m (L.flatMap Ar.cells),Cb 97 11 (.slice none 0 0) 0 []]):=Aa (H.ES 97 11)
   have HCO:Hid (cons []++AZ R.flatten=AZ R.flatten):=rfl
   have YI:Hid (∀ f ∈ ([]:List AV),f.ok w):=fun f hf=>by cases hf
   clear HP
   go_wp2_with fail
   clear hlt
   go_loopg [6,7] R.flatten.length (fun gg s6 s7 wr=>∃ (m c:Nat) (A:Option Addr) (L:List Dh) (Rm:List (List BS)) (B:Option Addr) (q d:Nat) (out:List AV),gg=Rm.flatten.length∧s6=.slice B q d∧m≤k∧Hid (out.length=q)∧Hid (q+Rm.flatten.length=R.flatten.length)∧Hid ((L.map Dh.Ac).Perm (CP 0 Rm))∧Hid (Heap (L.map Dh.Ac) m)∧Hid (∀ h ∈ L,h.ok w)∧Hid (∀ l ∈ Rm,Uh l)∧Hid (cons out++AZ Rm.flatten=AZ R.flatten)∧Hid (∀ f ∈ out,f.ok w)∧Hid (SL No w wr [Av g 266 #[.slice A m c],Cb 269 2 (.slice A m c) m (L.flatMap Ar.cells),Cb 97 11 (.slice B q d) q (out.flatMap Ar.cells)]))
   case atStart=>exact ⟨m,c,A,L,R,none,0,0,[],rfl,rfl,hmk,Aa rfl,Aa (Hw _),HP0,HH,JB,HS0,HCO,YI,H⟩
   case round=>
    clear H HP0 HH JB HS0 HCO YI
    obtain ⟨m,c,A,L,Rm,B,q,d,out,BG,rfl,hmk,hq,hqT,HP,HH,JB,HSr,HCO,YI,H⟩:=hrel
    have Hgk2:=Aa BG
    have HQ:=Aa hq.Ab
    clear BG hq
    have ch:=(H.blk 0 rfl).Am 0
    go_wp2_with fail
    clear ch
    refine (RL _ _ _ _).mono ?_;rintro e w3 ⟨rfl,rfl⟩
    by_cases hm0:0<m
    ·obtain ⟨m,rfl⟩:∃ m',m=m'+1:=⟨m - 1,by omega⟩
     have d1:decide ((0:Int)<((m+1:Nat):Int))=true:=by simp<;>omega
     obtain ⟨b,a,rfl,hb,ha0,hrg,fM,ca1⟩:=Mo (H.row 1 rfl) (k:=0) (by omega)
     have lI:a.ok w:=JB a (CE ha0)
     obtain ⟨fb,fo,f,hLA,hfb,hf0,hfok,_,hfr,_⟩:=(lI.left.mono H.to).U2 lI.n1
     have gW:Hid (f.ok w):=lI.left.all f (CE hf0)
     have HR:=Aa hfr
     have hch:=vL hf0
     have HCH:=Aa hch
     have h0:(L.map Dh.Ac)[0]?=some (f.Ac::cons (a.left.l.drop 1),a.no):=by rw [Nf ha0];show some (cons a.left.l,a.no)=_;rw [hch]
     have hlm:(L.map Dh.Ac).length=m+1:=by rw [Cq];exact FO (Rd.Bf (H.row 1 rfl))
     have hst:=kV HP (by rw [hlm];exact HH.Ab) h0 HSr.Ab
     have HJ:=Aa hst.1
     have HST:=Aa hst.2
     have K7:=Aa (kW HP h0 hst.1)
     have HA0:=Aa ha0
     have HSR2:=Aa (N7 HSr hst.1)
     clear hst hfr hch h0 hlm hrg ca1 hf0 hfok hfb ha0 hb
     have hq1:q≤100000:=by have:=hqT.Ab;have:=HT.Ab;omega
     have hsl:=jF a.left lI.n1
     have HAOK:=Aa lI
     have fM:wr.cell? ⟨b,0,none⟩=some (.slice a.left.A a.left.n a.left.c):=by simpa using fM
     have n1:=lI.n1
     clear lI
     obtain ⟨⟨LA,ln,lc,ll⟩,no⟩:=a
     simp only at *
     subst hLA
     have n1i:(0:Int)<ln:=by omega
     have ch:=(H.blk 0 rfl).Am 0
     go_upto_region 12 with (first|((with_reducible refine OP 43 ?_);(refine Ae rfl BM (.tmp 42) rfl fb (fo) rfl f.cs rfl HR.Ab ?_))|((with_reducible refine OP 44 ?_);(refine Cr rfl MJ (.tmp 43) rfl (f.cs) rfl (JU f) (by omega) ?_;replace H:=Aa (H.CJ ((Aj.refl _).alloc _) (SN _ 97 (f.cs) 11 (JU f)));(try simp only [LS] at H)))|((with_reducible refine OP 45 ?_);(refine BI rfl (.tmp 37) (.tmp 44) _ rfl MJ 0 (Bw _) _ q _ rfl (H.row 2 rfl) _ 1 1 f.cs.toList rfl (Rd.Bf (H.row 3 rfl)) (Mw f) (by unfold maxLen;omega) (by omega) ?_;intro vq wq AR Ay Bb;replace H:=Aa (H.setRow 2 rfl Ay AR Bb);(try simp only [LS] at H);clear AR Ay Bb;obtain ⟨B2,d2,rfl,_⟩:=Ao (H.row 2 rfl))))
     (try simp only [Act.put,LP])
     replace H:=Aa (H.Gh [0,1,2] (by decide) (by simp));(try simp only [LS] at H)
     clear ch n1i fM
     (try simp only [LS] at H)
     have Y1:Hid (cons (out++[f])++AZ (Rm.set no (cons (ll.drop 1))).flatten=AZ R.flatten):=by
      show _=_
      rw [←HCO.Ab,HST.Ab,show cons (out++[f])=cons out++[f.Ac] by simp [cons]]
      simp
     have gX:Hid (∀ z ∈ out++[f],z.ok w):=fun z hz=>(DT.1 hz).elim (YI z) (fun h=>by rw [Dt] at h;subst h;exact gW.Ab)
     have HQ2:Hid ((out++[f]).length=q+1):=by show _=_;rw [BQ,HQ.Ab];(try rfl)
     have TS:out.flatMap Ar.cells++f.cs.toList=(out++[f]).flatMap Ar.cells:=by simp [Ar.cells]
     rw [TS] at H
     have Qa:(Rm.set no (cons (ll.drop 1))).flatten.length+1=Rm.flatten.length:=by
      have h:=Cm List.length HST.Ab
      rw [EW,CZ,EW] at h
      omega
     have HL2:=Aa Qa
     have HQT2:Hid (q+1+(Rm.set no (cons (ll.drop 1))).flatten.length=R.flatten.length):=by show _=_;have:=hqT.Ab;omega
     clear TS Qa HCO YI HQ hqT HST HSr
     have fM:=(Mo (H.row 1 rfl) (k:=0) (by omega))
     obtain ⟨b',a',hb',_,ha',_,fM,_⟩:=fM
     injection hb' with hb';injection hb' with hb';subst hb'
     rw [HA0.Ab] at ha';injection ha' with ha';subst ha'
     rw [Sn] at fM
     have fa0:=yV (H.row 1 rfl) (o:=0) (by omega)
     generalize hTA:(Ku ⟨some ⟨fb,fo,none⟩,ln,lc,ll⟩).A=TA at *
     generalize hTN:(Ku ⟨some ⟨fb,fo,none⟩,ln,lc,ll⟩).n=TN at *
     generalize hTC:(Ku ⟨some ⟨fb,fo,none⟩,ln,lc,ll⟩).c=TC at *
     have HTA:=Aa hTA
     have HTN:=Aa hTN
     have X0:=Aa hTC
     clear hTA hTN hTC
     go_upto_region 13 with ((with_reducible refine OP 51 ?_);refine Xd rfl (.tmp 50) (some (.const (.int .i64 1))) none rfl hsl ?_)
     (try simp only [Act.put,LP])
     replace H:=Aa (H.setRow 1 rfl (grownBy_setCell _ b 0 (.slice TA TN TC)) (Zc (H.row 1 rfl) (by omega) (.slice TA TN TC)) (.inl rfl));(try simp only [LS] at H)
     generalize World.setCell _ _ _=wz at *
     rw [xR (l':=ll.drop 1) HA0.Ab] at H
     obtain ⟨a2,ha2⟩:∃ a2:Dh,a2=⟨⟨TA,TN,TC,ll.drop 1⟩,no⟩:=⟨_,rfl⟩
     have HTL:Hid ((⟨TA,TN,TC,ll.drop 1⟩:Row AV)=Ku ⟨some ⟨fb,fo,none⟩,ln,lc,ll⟩):=by show _=_;rw [←HTA.Ab,←HTN.Ab,←X0.Ab];(try rfl)
     have HTok:Hid (Row.ok w (⟨TA,TN,TC,ll.drop 1⟩:Row AV)):=by show Row.ok _ _;rw [HTL.Ab];exact M9 HAOK.left HAOK.n1
     have HLT:Hid ((cons (ll.drop 1)).length=TN):=by show _=_;rw [AL];exact HTok.len
     have nN:=HAOK.no
     have nN:no≤1000000:=nN
     obtain ⟨L2,hL2⟩:∃ L2,L2=L.set 0 a2:=⟨_,rfl⟩
     rw [←ha2,←hL2] at H
     have HG0:Hid (L2[0]?=some a2):=by show _=_;rw [hL2,LZ (Ca.1 HA0.Ab).1]
     have HGk:Hid (∀ k,0<k→L2[k]?=L[k]?):=fun k hk=>by rw [hL2,Nw (by omega)]
     have HRT:=Aa (uO (r':=a2) HA0 HH.Ab)
     rw [←hL2] at HRT
     have HMP:Hid (L2.map Dh.Ac=(L.map Dh.Ac).set 0 (cons (ll.drop 1),no)):=by show _=_;rw [hL2,List.map_set,ha2]
     have HA2:=Aa ha2
     have X5:Hid (L.map Dh.Ac=(f.Ac::cons (ll.drop 1),no)::(L.map Dh.Ac).tail∧L2.map Dh.Ac=(cons (ll.drop 1),no)::(L.map Dh.Ac).tail):=by
      have h1:=Nf HA0.Ab
      show _∧_
      rw [HMP.Ab]
      cases hq:L.map Dh.Ac with
      |nil=>rw [hq] at h1;simp at h1
      |cons z zs=>
       have hz:L[0]?=some _:=HA0.Ab
       have hj:=(Ca.1 HJ.Ab).1
       refine ⟨?_,rfl⟩
       rw [hq] at h1
       injection h1 with h1
       rw [List.tail_cons,h1]
       congr 1
       show (cons ll,no)=_
       rw [HCH.Ab]
     clear hL2 ha2 fM fa0 hsl HMP
     have fM:=(Mo (H.row 1 rfl) (k:=0) (by omega))
     obtain ⟨b',a',hb',_,ha',_,fM,_⟩:=fM
     injection hb' with hb';injection hb' with hb';subst hb'
     rw [HG0.Ab] at ha';injection ha' with ha';subst ha'
     rw [Sn,HA2.Ab] at fM
     by_cases hz:TN=0
     ·have dz:decide (TN=0)=true:=by simp [hz]
      have HT0:Hid (cons (ll.drop 1)=[]):=Km (by rw [HLT.Ab];exact hz)
      subst hz
      go_wp2_with fail
      refine (uH w _ g (some ⟨b,0,none⟩) m c L2 [Cb 97 11 (.slice B2 (q+1) d2) (q+1) ((out++[f]).flatMap Ar.cells)] a2 H (by omega) HG0 (fun k x h0 hx=>by rw [HGk k h0] at hx;exact JB x (CE hx)) (HRT.2 (by rw [HA2.Ab];exact HT0.Ab))).mono ?_;rintro e w9 ⟨⟨v,rfl⟩,L',hp,hh,hs9⟩
      have Xy:Hid ((L'.map Dh.Ac).Perm (CP 0 (Rm.set no (cons (ll.drop 1))))):=by
       refine K7.2 HT0 _ ?_
       have h1:=hp.map Dh.Ac
       rw [BR,X5.2,List.map_singleton,HA2.Ab] at h1
       rw [X5.1]
       have h2:((cons (ll.drop 1),no)::L'.map Dh.Ac).Perm ((cons (ll.drop 1),no)::(L.map Dh.Ac).tail):=(List.perm_append_singleton _ _).symm.trans h1
       exact (h2.cons_inv.symm.cons _).trans (List.perm_append_singleton _ _).symm
      have Tp:Hid (∀ h ∈ L',h.ok w):=fun h hm=>by
       have hc:L2=a2::L2.tail:=by
        have hg:=HG0.Ab
        cases hq:L2 with
        |nil=>rw [hq] at hg;simp at hg
        |cons z zs=>rw [hq] at hg;injection hg with hg;subst hg;rfl
       have h2:(a2::L').Perm (a2::L2.tail):=by rw [←hc];exact (List.perm_append_singleton _ _).symm.trans hp
       obtain ⟨k,hk⟩:=Iz.1 (h2.cons_inv.mem_iff.1 hm)
       have hk2:L2[k+1]?=some h:=by rw [hc,FW];exact hk
       rw [HGk (k+1) (by omega)] at hk2
       exact JB h (CE hk2)
      have HH2:=Aa hh
      clear H hp hh fM
      have H:=Aa hs9
      clear hs9
      go_wp2_with fail
      go_roundg ((Rm.set no (cons (ll.drop 1))).flatten.length)
      case rel=>exact ⟨m,c,some ⟨b,0,none⟩,L',_,B2,q+1,d2,out++[f],rfl,rfl,by omega,HQ2,HQT2,Xy,HH2,Tp,HSR2,Y1,gX,H⟩
      case measure=>rw [Hgk2.Ab];have:=HL2.Ab;omega
     ·have dz:decide (TN=0)=false:=by simp [hz]
      have HT0:Hid (cons (ll.drop 1)≠[]):=fun e=>by have:=HLT.Ab;rw [e] at this;simp at this;omega
      go_wp2_with fail
      have HOK1:Hid (∀ h ∈ L2,h.ok w):=fun h hm=>by
       obtain ⟨k,hk⟩:=Iz.1 hm
       by_cases h0:k=0
       ·subst h0
        rw [HG0.Ab] at hk;injection hk with hk;subst hk
        rw [HA2.Ab]
        exact ⟨HTok.Ab,by show 1≤TN;omega,nN⟩
       ·rw [HGk k (by omega)] at hk
        exact JB h (CE hk)
      refine (uI w _ g (some ⟨b,0,none⟩) (m+1) c L2 [Cb 97 11 (.slice B2 (q+1) d2) (q+1) ((out++[f]).flatMap Ar.cells)] H (by omega) (by omega) HOK1 HRT.1).mono ?_;rintro e w9 ⟨rfl,L',hp,hh,hs9⟩
      have Xy:Hid ((L'.map Dh.Ac).Perm (CP 0 (Rm.set no (cons (ll.drop 1))))):=by
       refine (hp.map Dh.Ac).trans ?_
       rw [X5.2]
       have h1:=K7.1 HT0.Ab
       rw [X5.1] at h1
       exact h1
      have Tp:Hid (∀ h ∈ L',h.ok w):=fun h hm=>HOK1 h (hp.mem_iff.1 hm)
      have HH2:=Aa hh
      clear H hp hh fM
      have H:=Aa hs9
      clear hs9
      go_wp2_with fail
      go_roundg ((Rm.set no (cons (ll.drop 1))).flatten.length)
      case rel=>exact ⟨m+1,c,some ⟨b,0,none⟩,L',_,B2,q+1,d2,out++[f],rfl,rfl,by omega,HQ2,HQT2,Xy,HH2,Tp,HSR2,Y1,gX,H⟩
      case measure=>rw [Hgk2.Ab];have:=HL2.Ab;omega
    ·obtain rfl:m=0:=by omega
     have hL0:L=[]:=Km (FO (Rd.Bf (H.row 1 rfl)))
     have hfl:Rm.flatten=[]:=flatten_nil (by have h:=HP.Ab;rw [hL0] at h;exact h)
     have Y1:Hid (cons out=AZ R.flatten):=by have h:=HCO.Ab;rw [hfl,show AZ []=[] from rfl,EZ] at h;exact h
     have hq1:q≤100000:=by have:=hqT.Ab;have:=HT.Ab;omega
     have HX0:=Aa (Jz ⟨B,q,d,out⟩ wr (Rz (x:=⟨B,q,d,out⟩) (H.row 2 rfl) (fun f hf=>⟨(YI f hf).ks.mono H.to,(YI f hf).ag⟩) (by show q * 104≤_;omega)) (by show q≤_;omega))
     clear hL0 hfl HP HCO
     go_wp2_with fail
     refine HX0.mono ?_;rintro e w9 ⟨v,fs,rfl,hG,hc⟩
     have HRS:Hid (pU (AZ R.flatten) w (.returned v) w9):=⟨v,fs,rfl,hG.from_ H.to,by rw [hc];exact Y1.Ab⟩
     clear hG hc HX0
     go_wp2
     go_ret
     exact HRS.Ab
def ET (T:Nat→Prop) (w:World) (P:World→Prop):Prop:=∀ w',Fr T w w'→P w'
section
variable {T : Nat → Prop} {w w' : World} {P Q : World → Prop}
theorem ET.now (h:ET T w P):P w:=h w (Fr.refl _ _)
theorem ET.fr (h:ET T w P) (k:Fr T w w'):ET T w' P:=fun w2 k2=>h w2 (k.trans k2 fun _ h=>.inl h)
theorem ET.Au (h:ET T w P) (k:Aj w w'):ET T w' P:=h.fr (Fr.QF k)
theorem ET.imp (h:ET T w P) (k:∀ w',P w'→Q w'):ET T w Q:=fun w2 k2=>k w2 (h w2 k2)
theorem ET.and (h:ET T w P) (k:ET T w Q):ET T w fun w'=>P w'∧Q w':=fun w2 k2=>⟨h w2 k2,k w2 k2⟩
theorem ET.const {p:Prop} (h:p):ET T w fun _=>p:=fun _ _=>h
theorem Fr.mono {S:Nat→Prop} (h:Fr S w w') (hS:∀ g,S g→T g):Fr T w w':=⟨h.os,h.tape,h.output,h.size,fun g hg hn=>h.block g hg fun hs=>hn (hS g hs)⟩
theorem ET.Aa9 {r:EE} (h:r.holds w) (hT:∀ g,T g→¬ r.D g):ET T w r.p:=fun w2 k=>h.2 w2 k.size fun g hg=>k.block g (h.1 g hg) fun ht=>hT g ht hg
theorem ET.VK {w0:World} {r:EE} (h:Uq w0 w r) (hT:∀ g,T g→g<w0.heap.size):ET T w r.p:=ET.Aa9 h.1 fun g ht hd=>by have:=hT g ht;have:=h.2 g hd;omega
end
section
variable {P : Program} {w : World}
theorem EU {ops:Array Oper} {o:Oper} {a:Act} {K:Act→World→Prop} {Q:Exit→Act→World→Prop} {X:Prop} (hgd:o.guard=none) {ty:TypeId} {n:Nat} (R:DV P ty n) (x y:Operand) (ho:o.op=.store ty x y)
 (g:Nat) (hx:a.eval x=.pointer (some ⟨g,0,none⟩)) {t:TypeId} {cs:Array Value} (hb:Br w g t cs) (hn:cs.size=n) (cs':Array Value) (hn':cs'.size=n) (hy:a.eval y=.agg cs') (h1:cs'.all (·.oneCell')=true)
 (h:∀ w',Br w' g t cs'→w.grownBy w' (some g)→K (a.put o.dst undef) w'):if Region.wanted o (yielded ops a.tmps)=true then Oper.wp P o a w K Q else X:=by
 have hw:Region.wanted o (yielded ops a.tmps)=true:=by simp [Region.wanted,hgd]
 rw [Ak hw]
 refine UK ty x y ho g 0 cs' hx hy (hb.there (by omega)) (by rw [R.hi,hn']) h1 (h _ ?_ (Db w g _ _))
 have:=Br.Dp cs'.toList 0 hb
 rwa [Js cs cs' (by omega)] at this
theorem Vg {ops:Array Oper} {o:Oper} {a:Act} {K:Act→World→Prop} {Q:Exit→Act→World→Prop} {X:Prop} (hgd:o.guard=none) {ty:TypeId} {n:Nat} (R:DV P ty n) (x y:Operand) (ho:o.op=.store ty x y)
 (g off:Nat) (hx:a.eval x=.pointer (some ⟨g,off,none⟩)) {t:TypeId} {cs:Array Value} (hb:Br w g t cs) (cs':Array Value) (hn':cs'.size=n) (hfit:off+n≤cs.size) (hy:a.eval y=.agg cs') (h1:cs'.all (·.oneCell')=true)
 (h:∀ w',Br w' g t (Dp cs off cs'.toList)→w.grownBy w' (some g)→K (a.put o.dst undef) w'):if Region.wanted o (yielded ops a.tmps)=true then Oper.wp P o a w K Q else X:=by
 have hw:Region.wanted o (yielded ops a.tmps)=true:=by simp [Region.wanted,hgd]
 rw [Ak hw]
 refine UK ty x y ho g off cs' hx hy (fun j hj=>?_) (by rw [R.hi,hn']) h1 (h _ (Br.Dp cs'.toList off hb) (Db w g _ _))
 rw [hb.cell,hb.frozen]
 exact ⟨by rw [UY (by omega)];rfl,rfl⟩
end
theorem Fb {P:Program} {ops:Array Oper} {S:World→Prop} {op:Oper} {a:Act} {ty:TypeId} {n:Nat} (R:DV P ty n) (hw:Region.wanted op (yielded ops a.tmps)=true) (x:Operand) (ho:op.op=.load ty x)
 (g off:Nat) (hx:a.eval x=.pointer (some ⟨g,off,none⟩)) {cs:Array Value} (hS:∀ w,S w→w.rangeAt g off cs.toList) (hn:cs.size=n):YieldsIf P ops S op (.agg cs) a:=by
 obtain ⟨d,hu,hd⟩:=R.hu
 have:=yieldsIf_load_mid (P:=P) (ops:=ops) (S:=S) (op:=op) (a:=a) hw ty x ho g off hx cs.toList d (fun w h=>hS w h) hu hd (by rw [R.hi];simp [hn])
 simpa using this
theorem wY {α β:Type} {P:α→β→Prop} {G:α→β→Prop} {Q:Prop} (h1:(∀ a b,P a b→G a b)→Q) (h2:∀ a b,P a b→G a b):Q:=h1 h2
theorem qK {α β γ:Type} {P G:α→β→γ→Prop} {Q:Prop} (h1:(∀ a b c,P a b c→G a b c)→Q) (h2:∀ a b c,P a b c→G a b c):Q:=h1 h2
theorem qJ {α β γ δ ε:Type} {P G:α→β→γ→δ→ε→Prop} {Q:Prop} (h1:(∀ a b c d e,P a b c d e→G a b c d e)→Q) (h2:∀ a b c d e,P a b c d e→G a b c d e):Q:=h1 h2
theorem SL.blk1 {b:Nat} {t:TypeId} {cs:Array Value} (w:World) (h:Br w b t cs):SL (One b) w w [Av b t cs]:=by
 refine ⟨Fr.refl _ _,fun i r hi=>?_,fun i j r q hij hi hj=>?_,fun i r hi g hg=>?_⟩
 ·match i,hi with
  |0,hi=>injection hi with hi;subst hi;exact Mm h
 ·match i,j,hi,hj with
  |0,0,_,_=>exact absurd rfl hij
 ·match i,hi with
  |0,hi=>injection hi with hi;subst hi;exact .inr hg
structure Py where
 ct:Ct
 rows:Row AV
 has:Bool
 closed:Bool
abbrev Py.nil:Py:=⟨Ct.nil,⟨none,0,0,[]⟩,false,false⟩
abbrev Py.cs (x:Py):Array Value:=#[.slice x.ct.sc.dm.A x.ct.sc.dm.n x.ct.sc.dm.c,.slice x.ct.sc.ms.A x.ct.sc.ms.n x.ct.sc.ms.c,.int .i64 x.ct.fa,.int .i64 x.ct.p0,.int .i64 x.ct.q0,.int .i64 x.ct.p1,.int .i64 x.ct.q1,.int .i64 x.ct.p2,.int .i64 x.ct.q2,.slice x.rows.A x.rows.n x.rows.c,.bool x.has,.bool x.closed]
abbrev Py.ms (x:Py):Array Value:=#[.slice x.ct.sc.dm.A x.ct.sc.dm.n x.ct.sc.dm.c,.slice x.ct.sc.ms.A x.ct.sc.ms.n x.ct.sc.ms.c,.int .i64 x.ct.fa,.int .i64 x.ct.p0,.int .i64 x.ct.q0,.int .i64 x.ct.p1,.int .i64 x.ct.q1,.int .i64 x.ct.p2,.int .i64 x.ct.q2,.slice x.rows.A x.rows.n x.rows.c,.bool x.has,.bool x.closed,.bool true]
structure Py.rd (w:World) (x:Py):Prop where
 ct:x.ct.rd w
 sm:SmS x.ct.sc
 rows:x.rows.ok w
def Py.Ac (x:Py):MC:=⟨x.ct.Ac,cons x.rows.l,x.has,x.closed⟩
theorem Py.rd.mono {w w':World} {x:Py} (h:x.rd w) (hb:Aj w w'):x.rd w':=⟨h.ct.mono hb,h.sm,h.rows.mono hb⟩
theorem MU (w:World):Py.nil.rd w:=⟨Yv w,XP,⟨(Row.Ou w:(Row.mk none 0 0 ([]:List AV)).rd w).r,fun f hf=>(by cases hf),BZ _,Bw _,by show 0 * _≤_;omega⟩⟩
theorem Bh:DV prog 49 3:=⟨⟨_,underlying49,rfl⟩,by kernel_rfl⟩
theorem CL (x:Io):x.cs.all (·.oneCell')=true:=by simp [Value.oneCell']
abbrev Io.err (e:Int):Io:=⟨e,⟨none,0,0,[]⟩,⟨none,0,0,[]⟩⟩
theorem CQ (e:Int) (w:World):(Io.err e).rd w:=⟨Row.Ou w,Row.Ou w⟩
theorem CF (e:Int) (w:World):Calls prog 33 #[.int .i64 e] w fun e' w'=>e'=.returned (.agg (Io.err e).cs)∧Aj w w':=by
 have hbd:∀ w:World,(Instr.build 49 #[(0,.int .i64 e)]).run prog w=.ok (.agg #[.int .i64 e,.slice none 0 0,.slice none 0 0]) w:=fun _=>by kernel_rfl
 have H:=Aa ((SL.start No w).alloc #[.int .i64 0,.slice none 0 0,.slice none 0 0] 49)
 (try simp only [LS] at H)
 go_enter func33,ntmps33
 go_wp2_with (first|((with_reducible refine OP 4 ?_);refine Fq (vx:=.int .i64 e) (v:=.agg #[.int .i64 e,.slice none 0 0,.slice none 0 0]) rfl (.tmp 3) rfl rfl hbd ?_)|((with_reducible refine OS 2 ?_);(refine Ec Bh H 0 rfl (#[.int .i64 e,.slice none 0 0,.slice none 0 0]) (by simp [Value.oneCell']) ?_;clear H;intro wq H;(try simp only [LS] at H))))
 (try simp only [Act.put,LP])
 refine Ce (Aq rfl Bh rfl (H.blk 0 rfl) rfl) rfl ?_
 exact ⟨rfl,H.to⟩
theorem VQ (w:World):Calls prog 12 #[] w fun e w'=>e=.returned (.pointer (some ⟨w.heap.size,0,none⟩))∧w'=w.alloc (.cells Py.nil.ms 86):=by
 go_enter func12,ntmps12
 go_wp2
 go_ret
 exact ⟨rfl,rfl⟩
theorem dR (B:Nat) (x:Py) (w:World) (hb:Br w B 86 x.ms):Calls prog 28 #[.pointer (some ⟨B,0,none⟩)] w fun e w'=>e=.returned (.bool x.has)∧Aj w w':=by
 have c0:w.cell? ⟨B,10,none⟩=some (.bool x.has):=hb.cell 10
 go_enter func28,ntmps28
 go_wp2
 go_ret
 exact ⟨rfl,Aj.refl _⟩
attribute [local go_sem] Jc
end Go.Proofs.YtijplolmkcdflaaGreat
namespace Go.Proofs.YtijplolmkcdflaaGreat
open Tryz
open Go.RowKit
attribute [local go_sem] Jc
def mid (L:List AV) (i k:Nat) (x:AV):List AV:=L.take k++x::((L.take i).drop k++L.drop (i+1))
theorem tF {L:List AV} {i:Nat} {f:AV} (h:L[i]?=some f):mid L i i f=L:=by
 obtain ⟨hi,rfl⟩:=Ca.1 h
 unfold mid
 rw [EY (by rw [Fa];omega),Fy,←DZ hi,Ki]
theorem Kq {L:List AV} {i k:Nat} {x y:AV} (hk:k≤L.length):(mid L i k x).set k y=mid L i k y:=by
 unfold mid
 rw [List.set_append_right _ _ (by rw [Fa];omega),Fa,PD hk,Ql,YL]
theorem tH {L:List AV} {i k:Nat} {y:AV} (h:L[k]?=some y) (hk:k<i):mid L i (k+1) y=mid L i k y:=by
 obtain ⟨hl,rfl⟩:=Ca.1 h
 unfold mid
 rw [Oa hl]
 have:(L.take i).drop k=L[k]::(L.take i).drop (k+1):=by
  rw [DZ (by rw [Fa];omega),List.getElem_take]
 rw [this]
 simp only [Dk,IQ,Fy]
theorem Q3 {L:List AV} {i k:Nat} {x:AV} (hk:k<L.length):(mid L i (k+1) x)[k]?=L[k]?:=by
 unfold mid
 rw [Nz (by rw [Fa];omega),Gu (by omega)]
theorem Uz {L:List AV} {i k:Nat} {x:AV} (hi:i<L.length) (hk:k≤i):(mid L i k x).length=L.length:=by
 unfold mid
 simp
 omega
theorem zK {L:List AV} {i k:Nat} {f:AV} (hi:i<L.length) (hk:k≤i):(mid L i k f).take (i+1)=L.take k++f::(L.take i).drop k:=by
 unfold mid
 rw [show L.take k++f::((L.take i).drop k++L.drop (i+1))=(L.take k++f::(L.take i).drop k)++L.drop (i+1) by simp]
 rw [List.take_append_of_le_length (by simp;omega),DY (by simp;omega)]
theorem dQ {L:List AV} {i k:Nat} {f:AV} (hi:i<L.length) (hk:k≤i):(mid L i k f).drop (i+1)=L.drop (i+1):=by
 unfold mid
 rw [show L.take k++f::((L.take i).drop k++L.drop (i+1))=(L.take k++f::(L.take i).drop k)++L.drop (i+1) by simp]
 rw [List.drop_append_of_le_length (by simp;omega),EY (by simp;omega),Fy]
theorem Tc (L:List AV) (i:Nat):cons (L.take i)=(cons L).take i:=by unfold cons;rw [List.map_take]
theorem ME (L:List AV) (i:Nat):cons (L.drop i)=(cons L).drop i:=by unfold cons;rw [List.map_drop]
theorem F7 (L M:List AV):cons (L++M)=cons L++cons M:=by unfold cons;rw [BR]
theorem oN {L:List AV} {i k:Nat} {f:AV} (hi:i<L.length) (hk:k=Bi f.Ac (cons (L.take i)) i):cons ((mid L i k f).take (i+1))=Ik f.Ac (cons (L.take i)):=by
 have hki:k≤i:=by rw [hk];exact Qx _ _ _
 have hl:(cons (L.take i)).length=i:=by rw [AL,Fa];omega
 rw [zK hi hki]
 unfold Ik
 rw [hl,←hk,F7]
 have e1:cons (L.take k)=(cons (L.take i)).take k:=by rw [←Tc,List.take_take,PD hki]
 have e2:cons (f::(L.take i).drop k)=f.Ac::(cons (L.take i)).drop k:=by rw [←ME];(try rfl)
 rw [e1,e2]
theorem Im.set {w0 w w':World} {g n c:Nat} {M:List AV} {k:Nat} {f:AV} (h:Im w0 w (.slice (some ⟨g,0,none⟩) n c) M) (hn:n=M.length) (ho:w'.ownsRow w0.heap.size 97 11 (.slice (some ⟨g,0,none⟩) n c) n ((M.set k f).flatMap Ar.cells)) (hg:w.grownBy w' (some g))
 (hf:f.ok w) (hA:iC (.slice (some ⟨g,0,none⟩) n c) f) (hN:0<f.ks.n→∀ ad,f.ks.A=some ad→w0.heap.size≤ad.block):Im w0 w' (.slice (some ⟨g,0,none⟩) n c) (M.set k f):=by
 have hall:∀ x ∈ M.set k f,x.ok w∧iC (.slice (some ⟨g,0,none⟩) n c) x∧(0<x.ks.n→∀ ad,x.ks.A=some ad→w0.heap.size≤ad.block):=fun x hx=>by
  rcases YO hx with h1|rfl
  ·exact ⟨h.ok x h1,h.away x h1,h.new x h1⟩
  ·exact ⟨hf,hA,hN⟩
 exact ⟨h.Au.Lu hg (Gj h.own rfl),by rw [Qm,←hn];exact ho,fun x hx=>⟨(hall x hx).1.ks.grown hg (hall x hx).2.1,(hall x hx).1.ag⟩,fun x hx=>(hall x hx).2.1,fun x hx=>(hall x hx).2.2⟩
def G9 (l:List AV) (w:World) (e:Ending) (w':World):Prop:=∃ v fs,e=.returned v∧Im w w' v fs∧cons fs=AZ (cons l)
theorem xM (x:Row AV) (w:World) (hx:x.ok w) (hn:x.n≤5000):
 Calls prog 150 #[x.v] w (G9 x.l w):=by
 have hlen:Hid (x.l.length=x.n):=hx.len
 have Hx:=Aa hx
 clear hx
 obtain ⟨A,n,c0,l⟩:=x
 simp only [Row.v] at *
 go_enter func150,ntmps150
 go_wp2_with fail
 refine (Jz ⟨A,n,c0,l⟩ _ Hx (by simp only;omega)).mono ?_
 rintro e w1 ⟨v,fs,rfl,hG,EK⟩
 have I7:=Aa EK
 have Hfl:Hid (fs.length=n):=by
  have h1:=Cm List.length EK
  rw [AL,AL] at h1
  have h2:l.length=n:=hlen.Ab
  exact h1.trans h2
 clear EK
 by_cases hn1:n≤1
 ·have HR:Hid (cons fs=AZ (cons l)):=by
   show _=_
   have h1:cons fs=cons l:=I7.Ab
   rw [←h1,XO _ (by rw [AL,Hfl.Ab];exact hn1)]
  have hown:=hG.own
  rw [Hfl.Ab] at hown
  obtain ⟨A2,c2,rfl,_⟩:=Ao hown
  have HG:=Aa hG
  clear hG hown
  go_wp2
  refine wp_loop_rounds 1 ?_
  rw [rounds_succ]
  go_wp2
  go_ret
  exact ⟨_,fs,rfl,HG.Ab,HR.Ab⟩
 ·obtain ⟨g,c,rfl⟩:∃ g c,v=.slice (some ⟨g,0,none⟩) n c:=by
   rcases hG.own.2 with ⟨_,h0⟩|⟨g,cap,cur,hv,_⟩
   ·have:=Hfl.Ab;omega
   ·exact ⟨g,cap,by rw [hv,Hfl.Ab]⟩
  have H1:Hid (cons (fs.take 1)=AZ ((cons l).take 1)):=by
   show _=_
   have h1:cons fs=cons l:=I7.Ab
   rw [Tc,h1,XO _ (by rw [Fa];omega)]
  go_wp2
  go_loopg [4] (n - 1) (fun gg s4 wr=>∃ (i:Nat) (L:List AV),gg=n - i∧1≤i∧i≤n∧s4=.int .i64 i∧Im w wr (.slice (some ⟨g,0,none⟩) n c) L∧Hid (L.length=n)∧Hid (cons (L.take i)=AZ ((cons l).take i))∧Hid (cons (L.drop i)=(cons l).drop i))
  case atStart=>exact ⟨1,fs,rfl,by omega,by omega,rfl,hG,Hfl,H1,by show _=_;have h1:cons fs=cons l:=I7.Ab;rw [ME,h1]⟩
  case round=>
   clear hG H1
   obtain ⟨i,L,BG,hi1,hin,rfl,hG,hLn,hS,hD⟩:=hrel
   have Cg:=Aa BG
   clear BG
   by_cases hlt:i<n
   ·obtain ⟨f,Hf⟩:∃ f,Hid (L[i]?=some f):=⟨L[i]'(by have:=hLn.Ab;omega),by show _=_;exact Ep _⟩
    have Z9:wr.ownsRow w.heap.size 97 11 (.slice (some ⟨g,0,none⟩) n c) n (L.flatMap Ar.cells):=by have:=hG.own;rw [hLn.Ab] at this;exact this
    obtain ⟨hrf,hgl⟩:=Gd (α:=AV) Z9 Hf.Ab
    have b5:=Br.new wr 97 f.cs
    have hne:wr.heap.size≠g:=by omega
    have hG1:=hG.keep ((Aj.refl wr).alloc (.cells f.cs 97))
    have Hfm:Hid (f ∈ L):=CE Hf.Ab
    have Hmid:=Aa (tF Hf.Ab)
    have HfA:Hid (iC (.slice (some ⟨g,0,none⟩) n c) f):=hG.away f Hfm.Ab
    have HfN:Hid (0<f.ks.n→∀ ad,f.ks.A=some ad→w.heap.size≤ad.block):=hG.new f Hfm.Ab
    have hfo:=hG1.ok f Hfm.Ab
    rw [←Hmid.Ab] at hG1
    have HG1:=Aa hG1
    have I6:=Aa hfo
    have Hb5:=Aa b5
    clear hG Z9 hfo hG1 b5
    have hrf':wr.rangeAt g (i * 11) f.cs.toList:=hrf
    clear hrf
    go_wp2_with (first
     |((with_reducible refine OP 18 ?_);refine Ae rfl BM (.tmp 17) rfl g (i * 11) rfl f.cs rfl hrf' ?_)
     |((with_reducible refine OS 5 ?_);refine Fu BM f.cs (FC _) ?_))
    generalize wr.alloc (.cells f.cs 97)=W at *
    generalize wr.heap.size=g5 at *
    obtain ⟨wo,rfl⟩:∃ wo:World,wo=wr:=⟨_,rfl⟩
    go_loopg [6] i (fun gg s6 wx=>∃ (k:Nat) (x:AV),gg=k∧k≤i∧s6=.int .i64 k∧Im w wx (.slice (some ⟨g,0,none⟩) n c) (mid L i k x)∧Br wx g5 97 f.cs∧f.ok wx∧Hid (Bi f.Ac (cons (L.take i)) i=Bi f.Ac (cons (L.take i)) k))
    case atStart=>exact ⟨i,f,rfl,by omega,rfl,HG1.Ab,Hb5.Ab,I6.Ab,rfl⟩
    case round=>
     clear HG1 Hb5 I6 hrf' hgl
     obtain ⟨k0,xx,hgj,hk,rfl,hG,b5,hfo,hP⟩:=hrel
     have Kv:=Aa hgj
     have aD:=Aa hfo
     clear hgj hfo
     have Zp:Hid (i<L.length):=by rw [hLn.Ab];exact hlt
     cases k0 with
     |zero=>
      have hK:Hid (0=Bi f.Ac (cons (L.take i)) i):=by show _=_;rw [hP.Ab];(try rfl)
      have qD:Hid (n=(mid L i 0 xx).length):=by show _=_;rw [Uz Zp (by omega)];exact hLn.symm
      have We:wr.ownsRow w.heap.size 97 11 (.slice (some ⟨g,0,none⟩) n c) n ((mid L i 0 xx).flatMap Ar.cells):=by have:=hG.own;rw [←qD.Ab] at this;exact this
      have HR1:Hid (cons ((mid L i (0) f).take (i+1))=AZ ((cons l).take (i+1))):=by
       show _=_
       rw [oN Zp hK.out,hS.Ab]
       have h1:cons (L.drop i)=(cons l).drop i:=hD.Ab
       have h2:((cons l).drop i)[0]?=some f.Ac:=by rw [←h1];exact Ld (by rw [KN];exact Hf.Ab)
       rw [KN,Jk] at h2
       rw [Tw,h2]
       exact (Vi _ _).symm
      have HR2:Hid (cons ((mid L i (0) f).drop (i+1))=(cons l).drop (i+1)):=by
       show _=_
       have h1:cons (L.drop i)=(cons l).drop i:=hD.Ab
       rw [dQ Zp (by omega)]
       have h2:=Cm (List.drop 1) h1
       rw [←ME,Qj,Qj] at h2
       exact h2
      have HR3:Hid ((mid L i (0) f).length=n):=by show _=_;rw [Uz Zp (by omega)];exact hLn.Ab
      clear hP
      have d0:decide ((0:Int)<0)=false:=rfl
      go_wp2_with fail
      go_quiet (fail)
      go_wp2_with (first
       |((with_reducible refine OP 44 ?_);refine Bj (by first|rfl|go_simp) BM (.tmp 5) (by rfl) g5 (by rfl) (b5.drewN _) rfl ?_)
       |((with_reducible refine OS 45 ?_);refine Jq (α:=AV) rfl BM (.tmp 45) (.tmp 44) rfl rfl (0) rfl (FB We (Aj.drewN (Aj.refl _) _)) (by omega) f f.cs rfl rfl (FC _) ?_;intro w9 OA J6))
      rw [Kq (by have:=Zp.Ab;omega)] at OA
      have q8:=(hG.keep (Aj.drewN (Aj.refl _) _)).set (k:=0) (f:=f) qD (by rw [Kq (by have:=Zp.Ab;omega)];exact OA) J6 ⟨aD.ks.mono (Aj.drewN (Aj.refl _) _),aD.ag⟩ HfA HfN.Ab
      rw [Kq (by have:=Zp.Ab;omega)] at q8
      have HG9:=Aa q8
      clear q8 OA J6
      go_wp2
      go_roundg (n - (i+1))
      case rel=>exact ⟨i+1,mid L i (0) f,rfl,by omega,by omega,by go_num,HG9.Ab,HR3,HR1,HR2⟩
      case measure=>rw [Cg.Ab];omega
     |succ k=>
      obtain ⟨y,Hy⟩:∃ y,Hid (L[k]?=some y):=⟨L[k]'(by have:=Zp.Ab;omega),by show _=_;exact Ep _⟩
      have hMy:(mid L i (k+1) xx)[k]?=some y:=by rw [Q3 (by have:=Zp.Ab;omega)];exact Hy.Ab
      have qD:Hid (n=(mid L i (k+1) xx).length):=by show _=_;rw [Uz Zp hk];exact hLn.symm
      have We:wr.ownsRow w.heap.size 97 11 (.slice (some ⟨g,0,none⟩) n c) n ((mid L i (k+1) xx).flatMap Ar.cells):=by have:=hG.own;rw [←qD.Ab] at this;exact this
      obtain ⟨hry0,hgl⟩:=Gd (α:=AV) We hMy
      have hry:wr.rangeAt g (k * 11) y.cs.toList:=hry0
      have J5:=b5.range
      have h5l:=b5.lt
      have Hym:Hid (y ∈ mid L i (k+1) xx):=CE hMy
      have Hyo:Hid (y.ok wr):=hG.ok y Hym.Ab
      clear hMy hry0
      have hrange:=FT y.ks.l f.ks.l
      have hsw:=ED y.ks.l f.ks.l
      obtain ⟨r,HC⟩:∃ r,Hid (Cu y.ks.l f.ks.l=r):=⟨_,rfl⟩
      have K8:Hid (CS f.Ac y.Ac=(r==1)):=by
       show FY f.ks.l y.ks.l=_
       unfold FY
       rw [hsw,HC.Ab,YM,Sm,Sm]
       omega
      rw [HC.Ab] at hrange
      have qC:Hid (Bi f.Ac (cons (L.take i)) (k+1)=if (r==1)=true then Bi f.Ac (cons (L.take i)) k else k+1):=by
       show _=_
       rw [Bi]
       have hg':(cons (L.take i))[k]?=some y.Ac:=Ld (by rw [Gu (by omega)];exact Hy.Ab)
       rw [hg']
       simp only [Option.any_some,K8.Ab]
      clear hsw K8
      have d1:decide (0<((k:Int)+1))=true:=by rw [Tx];omega
      have w1:IntKind.i64.wrap ((k:Int)+1 - 1)=(k:Int):=by rw [show (k:Int)+1 - 1=k by omega];exact Kj _ (by omega)
      by_cases hr:0<r
      ·have hr1:r=1:=by omega
       have HPK:Hid (Bi f.Ac (cons (L.take i)) i=Bi f.Ac (cons (L.take i)) k):=by show _=_;rw [hP.Ab,qC.Ab,hr1];(try rfl)
       have d2:decide (0<r)=true:=by simp;omega
       clear hP qC hrange hr1
       go_wp2_with fail
       refine Al ?_
       repeat (first
        |((with_reducible show wpQuiet _ _ _ _ (⟨some 27,_,_,_,_,_⟩::_) _);refine Af rfl BM (.tmp 26) rfl g (k * 11) rfl y.cs rfl hgl hry ?_;simp only [Act.put,LP])
        |((with_reducible show wpQuiet _ _ _ _ (⟨some 28,_,_,_,_,_⟩::_) _);refine Af rfl BM (.tmp 5) rfl g5 (0) rfl f.cs rfl h5l J5 ?_;simp only [Act.put,LP])
        |go_big_quiet_step (((go_at_call 108;exact Be (RO HC (Hyo.over _) (aD.over _))))))
       refine CX ?_
       rintro _ ⟨u,rfl⟩
       have hGu:=hG.keep u.Au
       have oU:=FB We u.Au
       have hryU:=Ee hgl hry u.Au
       have b5U:=b5.Au u.Au
       have V7:Hid (f.ok u.wd):=aD.over u
       clear hG We hry b5 Hyo aD J5 h5l
       have HyA:Hid (iC (.slice (some ⟨g,0,none⟩) n c) y):=hGu.away y Hym.Ab
       have HyN:Hid (0<y.ks.n→∀ ad,y.ks.A=some ad→w.heap.size≤ad.block):=hGu.new y Hym.Ab
       have HyoU:Hid (y.ok u.wd):=hGu.ok y Hym.Ab
       go_wp2_with (first
        |((with_reducible refine OP 40 ?_);refine Ae rfl BM (.tmp 39) rfl g (k * 11) rfl y.cs rfl hryU ?_)
        |((with_reducible refine OS 41 ?_);refine Jq (α:=AV) rfl BM (.tmp 41) (.tmp 40) rfl rfl (k+1) rfl oU (by omega) y y.cs rfl rfl (FC _) ?_;intro w9 OA J6))
       rw [Kq (by have:=Zp.Ab;omega)] at OA
       have q8:=hGu.set (k:=k+1) (f:=y) qD (by rw [Kq (by have:=Zp.Ab;omega)];exact OA) J6 HyoU HyA HyN.Ab
       rw [Kq (by have:=Zp.Ab;omega),tH Hy (by omega)] at q8
       have b59:=b5U.grown J6 (by simpa using hne)
       have Hfo9:Hid (f.ok w9):=⟨V7.ks.grown J6 HfA.Ab,V7.ag⟩
       have HG9:=Aa q8
       clear q8 OA J6 hGu oU
       go_wp2
       go_roundg k
       case rel=>exact ⟨k,y,rfl,by omega,by go_num,HG9.Ab,b59,Hfo9.Ab,HPK⟩
       case measure=>rw [Kv.Ab];omega
      ·have hK:Hid (k+1=Bi f.Ac (cons (L.take i)) i):=by
        show _=_
        rw [hP.Ab,qC.Ab,Ah (by simp;omega)]
       have d2:decide (0<r)=false:=by simp;omega
       have HR1:Hid (cons ((mid L i (k+1) f).take (i+1))=AZ ((cons l).take (i+1))):=by
        show _=_
        rw [oN Zp hK.out,hS.Ab]
        have h1:cons (L.drop i)=(cons l).drop i:=hD.Ab
        have h2:((cons l).drop i)[0]?=some f.Ac:=by rw [←h1];exact Ld (by rw [KN];exact Hf.Ab)
        rw [KN,Jk] at h2
        rw [Tw,h2]
        exact (Vi _ _).symm
       have HR2:Hid (cons ((mid L i (k+1) f).drop (i+1))=(cons l).drop (i+1)):=by
        show _=_
        have h1:cons (L.drop i)=(cons l).drop i:=hD.Ab
        rw [dQ Zp (by omega)]
        have h2:=Cm (List.drop 1) h1
        rw [←ME,Qj,Qj] at h2
        exact h2
       have HR3:Hid ((mid L i (k+1) f).length=n):=by show _=_;rw [Uz Zp (by omega)];exact hLn.Ab
       clear hP qC hrange
       go_wp2_with fail
       refine Al ?_
       repeat (first
        |((with_reducible show wpQuiet _ _ _ _ (⟨some 27,_,_,_,_,_⟩::_) _);refine Af rfl BM (.tmp 26) rfl g (k * 11) rfl y.cs rfl hgl hry ?_;simp only [Act.put,LP])
        |((with_reducible show wpQuiet _ _ _ _ (⟨some 28,_,_,_,_,_⟩::_) _);refine Af rfl BM (.tmp 5) rfl g5 (0) rfl f.cs rfl h5l J5 ?_;simp only [Act.put,LP])
        |go_big_quiet_step (((go_at_call 108;exact Be (RO HC (Hyo.over _) (aD.over _))))))
       refine CX ?_
       rintro _ ⟨u,rfl⟩
       have hGu:=hG.keep u.Au
       have oU:=FB We u.Au
       have b5U:=b5.Au u.Au
       have V7:Hid (f.ok u.wd):=aD.over u
       clear hG We hry b5 Hyo aD J5 h5l
       go_wp2_with (first
        |((with_reducible refine OP 44 ?_);refine Bj (by first|rfl|go_simp) BM (.tmp 5) (by rfl) g5 (by rfl) b5U rfl ?_)
        |((with_reducible refine OS 45 ?_);refine Jq (α:=AV) rfl BM (.tmp 45) (.tmp 44) rfl rfl (k+1) rfl oU (by omega) f f.cs rfl rfl (FC _) ?_;intro w9 OA J6))
       rw [Kq (by have:=Zp.Ab;omega)] at OA
       have q8:=(hGu).set (k:=k+1) (f:=f) qD (by rw [Kq (by have:=Zp.Ab;omega)];exact OA) J6 V7 HfA HfN.Ab
       rw [Kq (by have:=Zp.Ab;omega)] at q8
       have HG9:=Aa q8
       clear q8 OA J6
       go_wp2
       go_roundg (n - (i+1))
       case rel=>exact ⟨i+1,mid L i (k+1) f,rfl,by omega,by omega,by go_num,HG9.Ab,HR3,HR1,HR2⟩
       case measure=>rw [Cg.Ab];omega
   ·obtain rfl:i=n:=by omega
    have HR:Hid (cons L=AZ (cons l)):=by
     show _=_
     have h1:=hS.Ab
     have h2:l.length=i:=hlen.Ab
     rw [DY (by rw [hLn.Ab];exact BZ _),DY (by rw [AL];omega)] at h1
     exact h1
    have HG:=Aa hG
    clear hG hS hD
    go_wp2
    go_ret
    exact ⟨_,L,rfl,HG.Ab,HR.Ab⟩
end Go.Proofs.YtijplolmkcdflaaGreat
namespace Go.Proofs.YtijplolmkcdflaaGreat
open Tryz
open Go.RowKit
attribute [local go_sem] Jc
structure Kept (w0 w:World) (v:Value) (L:List AV):Prop where
 Au:Aj w0 w
 own:w.ownsRow w0.heap.size 97 11 v L.length (L.flatMap Ar.cells)
 ok:∀ f ∈ L,f.ok w0
theorem Kept.keep {w0 w w':World} {v:Value} {L:List AV} (h:Kept w0 w v L) (hb:Aj w w'):Kept w0 w' v L:=⟨h.Au.trans hb,FB h.own hb,h.ok⟩
theorem Kept.row {w0 w:World} {v:Value} {fs:List AV} (h:Kept w0 w v fs) (hn:fs.length≤5000):∃ x:Row AV,v=x.v∧x.ok w∧x.l=fs∧x.n=fs.length:=by
 have hcap:=Ze h.own
 have hr:∀ A c,v=.slice A fs.length c→Rd w 11 A fs.length (fs.flatMap Ar.cells):=fun A c e=>by have:=h.own;rw [e] at this;exact Rd.Bf this
 obtain ⟨A,c,rfl,hc⟩:=Ao h.own
 exact ⟨⟨A,fs.length,c,fs⟩,rfl,⟨hr A c rfl,fun f hf=>Ar.mono h.Au (h.ok f hf),hc,hcap A c rfl,by simp only [Ar.bytes];omega⟩,rfl,rfl⟩
end Go.Proofs.YtijplolmkcdflaaGreat
namespace Go.Proofs.YtijplolmkcdflaaGreat
open Tryz
open Go.RowKit Go.Shelf
attribute [local go_sem] Oper.semAt_some
def piece (b o m:Nat) (l:List AV) (k:Nat):Row AV:=⟨some ⟨b,o+k * m * 11,none⟩,min m (l.length - k * m),min m (l.length - k * m),(l.drop (k * m)).take m⟩
def upto {α:Type} (f:Nat→α) (k:Nat):List α:=(List.range k).map f
theorem OJ {α:Type} (f:Nat→α) (k:Nat):upto f (k+1)=upto f k++[f k]:=by simp [upto,List.range_succ]
theorem IB {α:Type} (f:Nat→α) (k:Nat):(upto f k).length=k:=by simp [upto]
def Jn (Bs Bn:Nat) (W W':World):Prop:=W'.cell? ⟨Bs,0,none⟩=W.cell? ⟨Bs,0,none⟩∧W'.cell? ⟨Bn,0,none⟩=W.cell? ⟨Bn,0,none⟩
theorem Jn.trans {Bs Bn:Nat} {A B C:World} (h:Jn Bs Bn A B) (k:Jn Bs Bn B C):Jn Bs Bn A C:=⟨k.1.trans h.1,k.2.trans h.2⟩
theorem TU (w:World) (n:Nat):w.grownBy (w.drewN n) none:=⟨rfl,rfl,rfl,BZ _,fun _ _ _=>rfl⟩
theorem vO (n:Nat) (hn:1≤n) (lp Bs Bn b o c m:Nat) (l:List AV) (hm1:1≤m) (hm2:m≤9223372036854775807) (hl:l.length≤5000) (hc:l.length≤c) (hc2:c≤9223372036854775807) (Pd:Row AV→Prop) (hP:∀ k,Pd (piece b o m l k)) (J Jx:List {x:Row AV // Pd x}→World→Prop) (hJd:∀ s A B,J s A→A.grownBy B none→J s B)
 (hY:∀ pre (x:{x:Row AV // Pd x}) W,J pre W→pre.length<l.length→YieldAt Fence.wide (n - 1) prog lp #[x.1.v] W fun e W'=>
  (e=.returned (.bool true)∧J (pre++[x]) W'∧Jn Bs Bn W W')∨(e=.returned (.bool false)∧Jx (pre++[x]) W'))
 (W:World) (J8:W.cell? ⟨Bs,0,none⟩=some (.slice (some ⟨b,o,none⟩) l.length c)) (hBn:W.cell? ⟨Bn,0,none⟩=some (.int .i64 m)) (h0:J [] W):
 CallsIn Fence.wide n prog 198 #[.func (.yield lp) #[] #[],.pointer (some ⟨Bs,0,none⟩),.pointer (some ⟨Bn,0,none⟩)] W fun e W'=>(∃ v,e=.returned v)∧
  ((∃ k ys,l.length≤k * m∧(k=0∨(k - 1) * m<l.length)∧ys=upto (fun j=>(⟨piece b o m l j,hP j⟩:{x:Row AV // Pd x})) k∧J ys W')∨(∃ pre,Jx pre W')):=by
 have hlen:Hid (∃ n1,n1=l.length):=⟨_,rfl⟩
 refine UF func198 rfl trivial ?_ rfl
 simp only [ntmps198,PG,CZ,KM,Nat.reduceAdd,Nat.reduceSub,PK,PL,PE,PH,Fy,IQ]
 gi_wp2
 gi_loopw [4] (fun i wr=>∃ k:Nat,(k=0∨(k - 1) * m<l.length)∧k≤l.length∧i=.int .i64 (k * m:Nat)∧J (upto (fun j=>(⟨piece b o m l j,hP j⟩:{x:Row AV // Pd x})) k) wr∧Jn Bs Bn W wr)
  (fun i _=>l.length - (intOf i).toNat)
 case atStart=>exact ⟨0,.inl rfl,Bw _,by simp,h0,⟨rfl,rfl⟩⟩
 case round=>
  obtain ⟨k,hk,hkl,rfl,hJs,hnx⟩:=hrel
  have c1:=hnx.1.trans J8
  have c2:=hnx.2.trans hBn
  generalize hi:k * m=i at *
  by_cases hlt:i<l.length
  ·obtain ⟨e,he⟩:∃ e,e=min m (l.length - i):=⟨_,rfl⟩
   have he1:1≤e:=by omega
   have he2:i+e≤l.length:=by omega
   have hi0:(0:Int)≤(i:Int):=by omega
   have hi1:(i:Int)≤(l.length:Int):=by omega
   have hmin:min (m:Int) ((l.length - i:Nat):Int)=(e:Int):=by omega
   have HE:=Aa he
   have HI:=Aa hi
   clear he hi
   gi_wp2_with fail
   gi_quiet (fail)
   have HX:Hid (piece b o m l k=⟨some ⟨b,o+i * 11,none⟩,e,e,(l.drop i).take m⟩):=by show _=_;unfold piece;rw [HI.Ab,←HE.Ab]
   have hJ2:J (upto (fun j=>(⟨piece b o m l j,hP j⟩:{x:Row AV // Pd x})) k) (wr.drewN nq):=hJd _ _ _ hJs (TU wr nq)
   have hnx2:Jn Bs Bn W (wr.drewN nq):=hnx
   have c12:(wr.drewN nq).cell? ⟨Bs,0,none⟩=some (.slice (some ⟨b,o,none⟩) l.length c):=c1
   have c22:(wr.drewN nq).cell? ⟨Bn,0,none⟩=some (.int .i64 m):=c2
   have hkl2:k<l.length:=by have h1:=HI.Ab;have:k≤k * m:=Nat.le_mul_of_pos_right _ hm1;omega
   generalize wr.drewN nq=V at *
   obtain ⟨fn,tmps,assign,body,hy,hR⟩:=hY _ ⟨(⟨some ⟨b,o+i * 11,none⟩,e,e,(l.drop i).take m⟩:Row AV),by rw [←HX.Ab];exact hP k⟩ V hJ2 (by rw [IB];exact hkl2)
   simp only [Row.v] at hy
   clear c1 c2 hJs hnx hmin
   gi_wp2
   refine hR.mono ?_
   rintro e' W3 (⟨rfl,hJ3,hk3⟩|⟨rfl,hJx3⟩)
   ·have c13:=hk3.1.trans c12
    have c23:=hk3.2.trans c22
    have him:i+m≤9223372036854775807:=by
     have h1:=HI.Ab
     cases k with
     |zero=>simp at h1;omega
     |succ k=>have:m≤(k+1) * m:=Nat.le_mul_of_pos_left _ (by omega);omega
    have Him:Hid ((k+1) * m=i+m):=by show _=_;rw [Gs,HI.Ab,JX]
    have hJ4:J (upto (fun j=>(⟨piece b o m l j,hP j⟩:{x:Row AV // Pd x})) (k+1)) W3:=by
     rw [OJ]
     have e1:(⟨piece b o m l k,hP k⟩:{x:Row AV // Pd x})=⟨(⟨some ⟨b,o+i * 11,none⟩,e,e,(l.drop i).take m⟩:Row AV),by rw [←HX.Ab];exact hP k⟩:=Subtype.ext HX.Ab
     rw [e1]
     exact hJ3
    clear hJ3
    gi_wp2
    go_roundw
    case rel=>exact ⟨k+1,.inr (by rw [show k+1 - 1=k by omega,HI.Ab];exact hlt),by omega,by rw [Him.Ab];go_num,hJ4,hnx2.trans hk3⟩
    case measure=>simp [intOf];omega
   ·gi_wp2
    refine Ce (results_none rfl _ _ _) rfl ?_
    exact ⟨⟨_,rfl⟩,.inr ⟨_,hJx3⟩⟩
  ·gi_wp2
   go_end0
   exact ⟨⟨_,rfl⟩,.inl ⟨k,_,by rw [hi];omega,hk,rfl,hJs⟩⟩
theorem Xu (n:Nat) (lp Bs Bn:Nat) {α:Type} (J:List α→World→Prop) (A:Option Addr) (c:Nat) (W:World) (J8:W.cell? ⟨Bs,0,none⟩=some (.slice A 0 c)) (h0:J [] W):
 CallsIn Fence.wide n prog 198 #[.func (.yield lp) #[] #[],.pointer (some ⟨Bs,0,none⟩),.pointer (some ⟨Bn,0,none⟩)] W fun e W'=>(∃ v,e=.returned v)∧J [] W':=by
 refine UF func198 rfl trivial ?_ rfl
 simp only [ntmps198,PG,CZ,KM,Nat.reduceAdd,Nat.reduceSub,PK,PL,PE,PH,Fy,IQ]
 gi_wp2
 gi_loopw [4] (fun i wr=>i=.int .i64 0∧wr=W) (fun _ _=>0)
 case atStart=>exact ⟨rfl,rfl⟩
 case round=>
  obtain ⟨rfl,rfl⟩:=hrel
  gi_wp2
  go_end0
  exact ⟨⟨_,rfl⟩,h0⟩
theorem fG (n:Nat) (A:Option Addr) (len c m:Nat) (hm:1≤m) (w:World):
 CallsIn Fence.wide n prog 181 #[.slice A len c,.int .i64 m] w fun e w'=>e=.returned (.func (.func 198) #[] #[.pointer (some ⟨w.heap.size,0,none⟩),.pointer (some ⟨w.heap.size+1,0,none⟩)])∧w'=(w.alloc (.cells #[.slice A len c] 54)).alloc (.cells #[.int .i64 m] 3):=by
 have d:decide ((m:Int)<1)=false:=by simp;omega
 refine UF func181 rfl trivial ?_ rfl
 simp only [ntmps181,PG,CZ,KM,Nat.reduceAdd,Nat.reduceSub,PK,PL,PE,PH,Fy,IQ]
 gi_wp2
 go_ret
 exact ⟨rfl,rfl⟩
end Go.Proofs.YtijplolmkcdflaaGreat
namespace Go.Proofs.YtijplolmkcdflaaGreat
open Tryz
open Go.RowKit Go.Shelf
attribute [local go_sem] Oper.semAt_some
def Iu (b o m:Nat) (l:List (Row AV)) (k:Nat):Row (Row AV):=⟨some ⟨b,o+k * m,none⟩,min m (l.length - k * m),min m (l.length - k * m),(l.drop (k * m)).take m⟩
theorem mQ (n:Nat) (hn:1≤n) (lp Bs Bn b o c m:Nat) (l:List (Row AV)) (hm1:1≤m) (hm2:m≤9223372036854775807) (hl:l.length≤5000) (hc:l.length≤c) (hc2:c≤9223372036854775807) (Pd:Row (Row AV)→Prop) (hP:∀ k,Pd (Iu b o m l k)) (J Jx:List {x:Row (Row AV) // Pd x}→World→Prop) (hJd:∀ s A B,J s A→A.grownBy B none→J s B)
 (hY:∀ pre (x:{x:Row (Row AV) // Pd x}) W,J pre W→pre.length<l.length→YieldAt Fence.wide (n - 1) prog lp #[x.1.v] W fun e W'=>
  (e=.returned (.bool true)∧J (pre++[x]) W'∧Jn Bs Bn W W')∨(e=.returned (.bool false)∧Jx (pre++[x]) W'))
 (W:World) (J8:W.cell? ⟨Bs,0,none⟩=some (.slice (some ⟨b,o,none⟩) l.length c)) (hBn:W.cell? ⟨Bn,0,none⟩=some (.int .i64 m)) (h0:J [] W):
 CallsIn Fence.wide n prog 182 #[.func (.yield lp) #[] #[],.pointer (some ⟨Bs,0,none⟩),.pointer (some ⟨Bn,0,none⟩)] W fun e W'=>(∃ v,e=.returned v)∧
  ((∃ k ys,l.length≤k * m∧(k=0∨(k - 1) * m<l.length)∧ys=upto (fun j=>(⟨Iu b o m l j,hP j⟩:{x:Row (Row AV) // Pd x})) k∧J ys W')∨(∃ pre,Jx pre W')):=by
 have hlen:Hid (∃ n1,n1=l.length):=⟨_,rfl⟩
 refine UF func182 rfl trivial ?_ rfl
 simp only [ntmps182,PG,CZ,KM,Nat.reduceAdd,Nat.reduceSub,PK,PL,PE,PH,Fy,IQ]
 gi_wp2
 gi_loopw [4] (fun i wr=>∃ k:Nat,(k=0∨(k - 1) * m<l.length)∧k≤l.length∧i=.int .i64 (k * m:Nat)∧J (upto (fun j=>(⟨Iu b o m l j,hP j⟩:{x:Row (Row AV) // Pd x})) k) wr∧Jn Bs Bn W wr)
  (fun i _=>l.length - (intOf i).toNat)
 case atStart=>exact ⟨0,.inl rfl,Bw _,by simp,h0,⟨rfl,rfl⟩⟩
 case round=>
  obtain ⟨k,hk,hkl,rfl,hJs,hnx⟩:=hrel
  have c1:=hnx.1.trans J8
  have c2:=hnx.2.trans hBn
  generalize hi:k * m=i at *
  by_cases hlt:i<l.length
  ·obtain ⟨e,he⟩:∃ e,e=min m (l.length - i):=⟨_,rfl⟩
   have he1:1≤e:=by omega
   have he2:i+e≤l.length:=by omega
   have hi0:(0:Int)≤(i:Int):=by omega
   have hi1:(i:Int)≤(l.length:Int):=by omega
   have hmin:min (m:Int) ((l.length - i:Nat):Int)=(e:Int):=by omega
   have HE:=Aa he
   have HI:=Aa hi
   clear he hi
   gi_wp2_with fail
   gi_quiet (fail)
   have HX:Hid (Iu b o m l k=⟨some ⟨b,o+i,none⟩,e,e,(l.drop i).take m⟩):=by show _=_;unfold Iu;rw [HI.Ab,←HE.Ab]
   have hJ2:J (upto (fun j=>(⟨Iu b o m l j,hP j⟩:{x:Row (Row AV) // Pd x})) k) (wr.drewN nq):=hJd _ _ _ hJs (TU wr nq)
   have hnx2:Jn Bs Bn W (wr.drewN nq):=hnx
   have c12:(wr.drewN nq).cell? ⟨Bs,0,none⟩=some (.slice (some ⟨b,o,none⟩) l.length c):=c1
   have c22:(wr.drewN nq).cell? ⟨Bn,0,none⟩=some (.int .i64 m):=c2
   have hkl2:k<l.length:=by have h1:=HI.Ab;have:k≤k * m:=Nat.le_mul_of_pos_right _ hm1;omega
   generalize wr.drewN nq=V at *
   obtain ⟨fn,tmps,assign,body,hy,hR⟩:=hY _ ⟨(⟨some ⟨b,o+i,none⟩,e,e,(l.drop i).take m⟩:Row (Row AV)),by rw [←HX.Ab];exact hP k⟩ V hJ2 (by rw [IB];exact hkl2)
   simp only [Row.v] at hy
   clear c1 c2 hJs hnx hmin
   gi_wp2
   refine hR.mono ?_
   rintro e' W3 (⟨rfl,hJ3,hk3⟩|⟨rfl,hJx3⟩)
   ·have c13:=hk3.1.trans c12
    have c23:=hk3.2.trans c22
    have him:i+m≤9223372036854775807:=by
     have h1:=HI.Ab
     cases k with
     |zero=>simp at h1;omega
     |succ k=>have:m≤(k+1) * m:=Nat.le_mul_of_pos_left _ (by omega);omega
    have Him:Hid ((k+1) * m=i+m):=by show _=_;rw [Gs,HI.Ab,JX]
    have hJ4:J (upto (fun j=>(⟨Iu b o m l j,hP j⟩:{x:Row (Row AV) // Pd x})) (k+1)) W3:=by
     rw [OJ]
     have e1:(⟨Iu b o m l k,hP k⟩:{x:Row (Row AV) // Pd x})=⟨(⟨some ⟨b,o+i,none⟩,e,e,(l.drop i).take m⟩:Row (Row AV)),by rw [←HX.Ab];exact hP k⟩:=Subtype.ext HX.Ab
     rw [e1]
     exact hJ3
    clear hJ3
    gi_wp2
    go_roundw
    case rel=>exact ⟨k+1,.inr (by rw [show k+1 - 1=k by omega,HI.Ab];exact hlt),by omega,by rw [Him.Ab];go_num,hJ4,hnx2.trans hk3⟩
    case measure=>simp [intOf];omega
   ·gi_wp2
    refine Ce (results_none rfl _ _ _) rfl ?_
    exact ⟨⟨_,rfl⟩,.inr ⟨_,hJx3⟩⟩
  ·gi_wp2
   go_end0
   exact ⟨⟨_,rfl⟩,.inl ⟨k,_,by rw [hi];omega,hk,rfl,hJs⟩⟩
theorem vN (n:Nat) (A:Option Addr) (len c m:Nat) (hm:1≤m) (w:World):
 CallsIn Fence.wide n prog 151 #[.slice A len c,.int .i64 m] w fun e w'=>e=.returned (.func (.func 182) #[] #[.pointer (some ⟨w.heap.size,0,none⟩),.pointer (some ⟨w.heap.size+1,0,none⟩)])∧w'=(w.alloc (.cells #[.slice A len c] 184)).alloc (.cells #[.int .i64 m] 3):=by
 have d:decide ((m:Int)<1)=false:=by simp;omega
 refine UF func151 rfl trivial ?_ rfl
 simp only [ntmps151,PG,CZ,KM,Nat.reduceAdd,Nat.reduceSub,PK,PL,PE,PH,Fy,IQ]
 gi_wp2
 go_ret
 exact ⟨rfl,rfl⟩
end Go.Proofs.YtijplolmkcdflaaGreat
namespace Go.Proofs.YtijplolmkcdflaaGreat
open Tryz
open Go.RowKit Go.Shelf
attribute [local go_sem] Oper.semAt_some
theorem SS:(prog.info? 54).map (fun i=>(i.zero,i.size,i.bytes))=some (some (.slice none 0 0),1,24):=by kernel_rfl
theorem cO {w:World} {b o n c m:Nat} {l:List AV} (h:Row.ok w (⟨some ⟨b,o,none⟩,n,c,l⟩:Row AV)) (hn:n≤5000) (k:Nat):Row.ok w (piece b o m l k)∧(piece b o m l k).n≤5000:=by
 have hl:l.length=n:=h.len
 have hlen:((l.drop (k * m)).take m).length=min m (l.length - k * m):=by rw [Fa,IA]
 refine ⟨⟨⟨?_,fun h0=>?_⟩,fun a ha=>h.all a (QX (UX ha)),BZ _,?_,?_⟩,?_⟩
 ·rw [Dz];exact Cm (· * 11) hlen
 ·have h1:k * m<l.length:=by simp only [piece] at h0;omega
  obtain ⟨ad,e,hb,hc⟩:=h.rd.2 (by simp only;omega)
  injection e with e
  subst e
  refine ⟨_,rfl,hb,fun j u hu=>?_⟩
  have hj:j<((l.drop (k * m)).take m).length * 11:=by
   rcases Nt j (((l.drop (k * m)).take m).length * 11) with h'|h'
   ·exact h'
   ·rw [Gt (by rw [Dz];exact h')] at hu;cases hu
  have hq:(l.flatMap Ar.cells)[k * m * 11+j]?=some u:=by
   rw [←hu]
   have e1:(piece b o m l k).l.flatMap Ar.cells=((l.flatMap Ar.cells).drop (k * m * 11)).take (m * 11):=by
    show ((l.drop (k * m)).take m).flatMap Ar.cells=_
    rw [show k * m * 11=k * m * Ar.size AV from rfl,vD,show m * 11=m * Ar.size AV from rfl,uZ]
   rw [e1,Gu (by rw [hlen] at hj;have:min m (l.length - k * m) * 11≤m * 11:=Nv _ (Nat.min_le_left _ _);omega),KN]
  have:=hc _ _ hq
  rw [Qi] at this ⊢
  rw [Ns]
  exact this
 ·simp only [piece];unfold maxLen;omega
 ·simp only [piece,Ar.bytes];omega
 ·simp only [piece];omega
structure Ck (w w':World):Prop where
 size:w.heap.size≤w'.heap.size
 cell:∀ p v,w.cell? p=some v→w'.cell? p=some v
theorem Rd.ck {w w':World} {size n:Nat} {A:Option Addr} {xs:List Value} (h:Rd w size A n xs) (hk:Ck w w'):Rd w' size A n xs:=
 ⟨h.1,fun hn=>by obtain ⟨ad,e,hb,hc⟩:=h.2 hn;exact ⟨ad,e,Kk hb hk.size,fun j u hu=>hk.cell _ _ (hc j u hu)⟩⟩
theorem Q7 {w w':World} {x:Row Int} (h:x.ok w) (hk:Ck w w'):x.ok w':=⟨h.rd.ck hk,h.all,h.le,h.cap,h.reach⟩
theorem D5 {w w':World} {f:AV} (h:f.ok w) (hk:Ck w w'):f.ok w':=⟨Q7 h.ks hk,h.ag⟩
theorem U1 {w w':World} {x:Row AV} (h:x.ok w) (hk:Ck w w'):x.ok w':=⟨h.rd.ck hk,fun f hf=>D5 (h.all f hf) hk,h.le,h.cap,h.reach⟩
structure Tk (row:Option Nat) (r:Row AV):Prop where
 a:0<r.n→∀ ad,r.A=some ad→row≠some ad.block
 k:∀ f ∈ r.l,0<f.ks.n→∀ ad,f.ks.A=some ad→row≠some ad.block
theorem Nj {w w':World} {row:Option Nat} {x:Row AV} (h:x.ok w) (hg:w.grownBy w' row) (ho:Tk row x):x.ok w':=by
 refine ⟨⟨h.rd.1,fun hn=>?_⟩,fun f hf=>⟨(h.all f hf).ks.grown hg (ho.k f hf),(h.all f hf).ag⟩,h.le,h.cap,h.reach⟩
 obtain ⟨ad,e,hb,hc⟩:=h.rd.2 hn
 refine ⟨ad,e,Kk hb hg.size,fun j u hu=>?_⟩
 rw [←hc j u hu]
 refine QY ?_
 rw [FU]
 exact hg.block _ hb (fun e'=>ho.a hn ad e e'.symm)
theorem P5 {w:World} {x:Row AV} (h:x.ok w):Tk (some w.heap.size) x:=by
 refine ⟨fun hn ad e e2=>?_,fun f hf hn ad e e2=>?_⟩
 ·obtain ⟨ad',e',hb,_⟩:=h.rd.2 hn
  rw [e] at e'
  injection e' with e'
  subst e'
  injection e2 with e2
  omega
 ·obtain ⟨ad',e',hb,_⟩:=(h.all f hf).ks.rd.2 hn
  rw [e] at e'
  injection e' with e'
  subst e'
  injection e2 with e2
  omega
theorem VJ {w0 w:World} {v:Value} {fs:List AV} (h:Im w0 w v fs) {x:Row AV} (hv:v=x.v) (hl:x.l=fs) {b:Nat} (hb:b<w0.heap.size):Tk (some b) x:=by
 refine ⟨fun hn ad e e2=>?_,fun f hf hn ad e e2=>?_⟩
 ·have h1:v.ownBlock=some ad.block:=by rw [hv];simp [Row.v,e,Value.ownBlock]
  have:=Gj h.own h1
  injection e2 with e2
  omega
 ·rw [hl] at hf
  have:=h.new f hf hn ad e
  injection e2 with e2
  omega
structure Parts (w0 w:World) (B:Nat) (v:Value) (rs:List (Row AV)):Prop where
 box:Boxed w B 184 v
 own:w.ownsRow w0.heap.size 54 1 v rs.length (rs.map Row.v)
 ok:∀ r ∈ rs,r.ok w
 P6:∀ r ∈ rs,Tk v.ownBlock r
 offB:∀ r ∈ rs,Tk (some B) r
theorem Parts.kept {w0 w w':World} {B:Nat} {v:Value} {rs:List (Row AV)} (h:Parts w0 w B v rs) {row:Option Nat} (hg:w.grownBy w' row) (hr:∀ r,row=some r→∃ o:Obj,w.heap[r]?=some o∧o.isCells=false):Parts w0 w' B v rs:=by
 have hck:Ck w w':=⟨hg.size,fun p u hp=>cell_kept hp hg hr⟩
 refine ⟨h.box.kept hg (fun e=>?_),h.own.kept hg ?_,fun r hr'=>U1 (h.ok r hr') hck,h.P6,h.offB⟩
 ·obtain ⟨o,ho,hc⟩:=hr B e.symm
  have hb:=h.box
  unfold Boxed at hb
  rw [hb] at ho
  injection ho with ho
  subst ho
  cases hc
 ·cases hu:v.ownBlock with
  |none=>exact .inl rfl
  |some k=>
   refine .inr fun e=>?_
   obtain ⟨o,ho,hc⟩:=hr k e.symm
   obtain ⟨cs,hcs⟩:=Uy h.own hu
   unfold Br at hcs
   rw [hcs] at ho
   injection ho with ho
   subst ho
   cases hc
theorem Parts.keep {w0 w w':World} {B:Nat} {v:Value} {rs:List (Row AV)} (h:Parts w0 w B v rs) (hb:Aj w w'):Parts w0 w' B v rs:=
 h.kept (Di hb none) (fun _ e=>by cases e)
theorem La {w0 w:World} {v:Value} {fs:List AV} (h:Im w0 w v fs) (hn:fs.length≤5000):∃ x:Row AV,v=x.v∧x.ok w∧x.l=fs∧x.n=fs.length:=by
 have hcap:=Ze h.own
 have hr:∀ A c,v=.slice A fs.length c→Rd w 11 A fs.length (fs.flatMap Ar.cells):=fun A c e=>by have:=h.own;rw [e] at this;exact Rd.Bf this
 obtain ⟨A,c,rfl,hc⟩:=Ao h.own
 exact ⟨⟨A,fs.length,c,fs⟩,rfl,⟨hr A c rfl,h.ok,hc,hcap A c rfl,by simp only [Ar.bytes];omega⟩,rfl,rfl⟩
theorem EB {F:Fence} {nF:Nat} {P:Program} {w w':World} {ops:Array Oper} {o:Oper} {a:Act} {K:Act→World→Prop} {Q:Exit→Act→World→Prop} {X:Prop} (hgd:o.guard=none) (s x:Operand) (t:TypeId)
 (ho:o.op=.call { callee:=.builtin .append,args:=#[s,x],argTypes:=#[t,t] }) (v y:Value) {v':Value} (hs:a.eval s=v) (hx:a.eval x=y) (hrun:(Builtin.append_ #[t,t] o.type #[v,y]).run P w=.ok v' w') (h:K (a.put o.dst v') w'):
 if Region.wanted o (yielded ops a.tmps)=true then Oper.wpIn F nF P o a w K Q else X:=by
 have hw:Region.wanted o (yielded ops a.tmps)=true:=by simp [Region.wanted,hgd]
 rw [Ak hw]
 unfold Oper.wpIn
 refine ⟨by simp [Oper.about,ho,resolve,Target.leads,JJ],?_⟩
 rw [Oper.semAt_plain F _ _ (by rw [ho];intro c hc';cases hc')]
 simp [execOp,ho,resolve,invoke,builtin,hs,hx,hrun,Result.andThen]
 exact h
theorem IK {w W0 W w2 w4:World} {B Bs Bn:Nat} {v v':Value} {rs:List (Row AV)} {fs:List AV} {yA:Option Addr} {yn yc:Nat} {yl:List AV} (hne1:Bs<W0.heap.size) (hne2:Bn<W0.heap.size) (hBB:B≠Bs∧B≠Bn∧B=w.heap.size∧B<W0.heap.size)
 (hP:Parts W0 W B v rs) (hW0:W0.heap.size≤W.heap.size) (hB:Aj w W) (OB:Im W.drew w2 (Row.v (⟨yA,yn,yc,yl⟩:Row AV)) fs) (WZ:Row.ok w2 (⟨yA,yn,yc,yl⟩:Row AV)) (hyl:(⟨yA,yn,yc,yl⟩:Row AV).l=fs)
 (hP3:Parts W0 (w2.alloc (.cells #[.slice yA yn yc] 54)) B v rs) (hown:w4.ownsRow W0.heap.size 54 1 v' (rs.length+1) (rs.map Row.v++[.slice yA yn yc])) (hg:(w2.alloc (.cells #[.slice yA yn yc] 54)).grownBy w4 v.ownBlock)
 (hat:v'.ownBlock=v.ownBlock∨v'.ownBlock=some (w2.alloc (.cells #[.slice yA yn yc] 54)).heap.size) (hbx:Boxed w4 B 184 v):
 KeepsFrom W0.heap.size W (w4.setCell ⟨B,0,none⟩ v')∧Jn Bs Bn W (w4.setCell ⟨B,0,none⟩ v')∧Parts W0 (w4.setCell ⟨B,0,none⟩ v') B v' (rs++[⟨yA,yn,yc,yl⟩])∧Below w.heap.size w (w4.setCell ⟨B,0,none⟩ v')∧W0.heap.size≤(w4.setCell ⟨B,0,none⟩ v').heap.size:=by
 have hb2:Aj W w2:=(Aj.refl W).drew.trans OB.Au
 have hb3:Aj W (w2.alloc (.cells #[.slice yA yn yc] 54)):=hb2.alloc _
 have hBlt:B<W.heap.size:=by omega
 have hs5:(w4.setCell ⟨B,0,none⟩ v').heap.size=w4.heap.size:=by simp [World.setCell]
 have hs3:=hb3.size
 have hs4:=hg.size
 have hset:w4.grownBy (w4.setCell ⟨B,0,none⟩ v') (some B):=grownBy_setCell' w4 B v'
 have hvB:∀ b',v.ownBlock=some b'→W0.heap.size≤b':=fun b' e=>Gj hP3.own e
 refine ⟨?_,?_,?_,?_,by omega⟩
 ·refine KeepsOthers.from ?_ _
  have k1:KeepsOthers W (w2.alloc (.cells #[.slice yA yn yc] 54)):=⟨hs3,fun k o hk _=>(hb3.block k (UZ.1 hk).1).trans hk⟩
  refine (k1.trans (KeepsOthers.of_grownBy hg fun j o ej hj=>?_)).trans (KeepsOthers.setCell _ _ _)
  obtain ⟨cs,hcs⟩:=Uy hP3.own ej
  unfold Br at hcs
  rw [hcs] at hj
  injection hj with hj
  subst hj
  rfl
 ·have key:∀ q,q<W0.heap.size→q≠B→(w4.setCell ⟨B,0,none⟩ v').cell? ⟨q,0,none⟩=W.cell? ⟨q,0,none⟩:=fun q hq hqB=>by
   refine QY ?_
   rw [hset.block q (by omega) (fun e=>by injection e with e;exact hqB e),hg.block q (by omega) (fun e=>by have:=hvB q e.symm;omega)]
   exact hb3.block q (by omega)
  exact ⟨key Bs hne1 (Ne.symm hBB.1),key Bn hne2 (Ne.symm hBB.2.1)⟩
 ·have hoy:Tk v.ownBlock (⟨yA,yn,yc,yl⟩:Row AV):=by
   cases hu:v.ownBlock with
   |none=>exact ⟨(fun _ _ _ e=>by cases e),(fun _ _ _ _ _ e=>by cases e)⟩
   |some k=>exact VJ OB rfl hyl (by have:=Zd hP.own hu;exact this)
  have hoyB:Tk (some B) (⟨yA,yn,yc,yl⟩:Row AV):=VJ OB rfl hyl hBlt
  have hy3:Row.ok (w2.alloc (.cells #[.slice yA yn yc] 54)) (⟨yA,yn,yc,yl⟩:Row AV):=WZ.mono ((Aj.refl w2).alloc _)
  have hall:∀ r ∈ rs++[(⟨yA,yn,yc,yl⟩:Row AV)],r.ok (w2.alloc (.cells #[.slice yA yn yc] 54))∧Tk v.ownBlock r∧Tk (some B) r:=fun r hr=>by
   rcases DT.1 hr with h|h
   ·exact ⟨hP3.ok r h,hP3.P6 r h,hP3.offB r h⟩
   ·rw [Dt] at h
    subst h
    exact ⟨hy3,hoy,hoyB⟩
  refine ⟨hbx.set v',?_,fun r hr=>?_,fun r hr=>?_,fun r hr=>(hall r hr).2.2⟩
  ·rw [BQ,BR]
   exact hown.kept hset (.inr (hbx.not_row (by decide) hown).symm)
  ·exact Nj (Nj (hall r hr).1 hg (hall r hr).2.1) hset (hall r hr).2.2
  ·rcases hat with e|e
   ·rw [e];exact (hall r hr).2.1
   ·rw [e];exact P5 (hall r hr).1
 ·exact (((hB.trans hb3).grown hg fun k e=>by have:=hvB k e;omega).grown hset fun k e=>by injection e with e;omega)
abbrev ZO (w:World):={x:Row AV // x.ok w∧x.n≤5000}
def ZZ (cs:List (List BS)) (w:World) (e:Ending) (w':World):Prop:=
 ∃ (v:Value) (rs:List (Row AV)),e=.returned (.tuple #[v,.int .i64 0])∧w'.ownsRow w.heap.size 54 1 v rs.length (rs.map Row.v)∧(∀ r ∈ rs,r.ok w'∧r.n≤5000∧Tk v.ownBlock r)∧rs.map (fun r=>cons r.l)=cs∧Aj w w'
theorem Nh {W:World} {Bs Bn l:Nat} {o':Obj} (h1:Bs<l) (h2:Bn<l):Jn Bs Bn W (W.putObj l o'):=by
 constructor
 ·refine QY ?_
  simp [World.putObj,iL]
  omega
 ·refine QY ?_
  simp [World.putObj,iL]
  omega
theorem fF (n:Nat) (hn:1≤n) (Bs Bn b o c ln m:Nat) (l:List AV) (w0 w:World) (hx:Row.ok w0 (⟨some ⟨b,o,none⟩,ln,c,l⟩:Row AV)) (Wo:ln≤5000) (hm1:1≤m) (hm2:m≤9223372036854775807)
 (hs:Bs<w.heap.size) (hb:Bn<w.heap.size) (J8:w.cell? ⟨Bs,0,none⟩=some (.slice (some ⟨b,o,none⟩) ln c)) (hBn:w.cell? ⟨Bn,0,none⟩=some (.int .i64 m)):
 SeqStopsK Fence.wide n prog 198 #[.pointer (some ⟨Bs,0,none⟩),.pointer (some ⟨Bn,0,none⟩)] (fun x:ZO w0=>#[x.1.v]) (Jn Bs Bn)
  (fun xs=>∃ k,l.length≤k * m∧(k=0∨(k - 1) * m<l.length)∧xs=upto (fun j=>(⟨piece b o m l j,cO hx Wo j⟩:ZO w0)) k) (fun _=>True) l.length w:=fun lp J Jx W hW hJ _ hY h0=>by
 have hl:l.length=ln:=hx.len
 have hc:=hx.le
 have hc2:=hx.cap
 unfold maxLen at hc2
 subst hl
 refine (vO n hn lp Bs Bn b o c m l hm1 hm2 Wo hc hc2 (fun x=>x.ok w0∧x.n≤5000) (cO hx Wo) J Jx (fun s A B hA hg=>hJ s A B none hA hg (fun r e=>by cases e)) hY W ((hW.cell (p:=⟨Bs,0,none⟩) hs).trans J8) ((hW.cell (p:=⟨Bn,0,none⟩) hb).trans hBn) h0).mono ?_
 rintro e W' ⟨he,⟨k,ys,h1,h2,rfl,hj⟩|⟨pre,hj⟩⟩
 ·exact ⟨he,.inl ⟨_,⟨k,h1,h2,rfl⟩,hj⟩⟩
 ·exact ⟨he,.inr ⟨_,trivial,hj⟩⟩
theorem aK {α β:Type} (g:α→β) (f:Nat→α) (k:Nat):(upto f k).map g=upto (fun j=>g (f j)) k:=by
 simp [upto,UO,YK]
theorem Ac2 (n:Nat) (hn:3≤n) (b o ln c m:Nat) (l:List AV) (w:World) (hx:Row.ok w (⟨some ⟨b,o,none⟩,ln,c,l⟩:Row AV)) (Wo:ln≤5000) (hm1:1≤m) (hm2:m≤9223372036854775807):
 CallsIn Fence.wide n prog 149 #[.int .i64 m,.slice (some ⟨b,o,none⟩) ln c] w fun e w'=>∃ k,l.length≤k * m∧(k=0∨(k - 1) * m<l.length)∧ZZ (upto (fun j=>cons ((l.drop (j * m)).take m)) k) w e w':=by
 have h1:1≤n:=by omega
 have hl:l.length=ln:=hx.len
 have d:decide ((m:Int)<1)=false:=by simp;omega
 have Hx:=Aa hx
 have Hl:=Aa hl
 clear hx hl
 refine callsIn_of_wp_marks func149 rfl trivial ?_ rfl
 simp only [ntmps149,PG,CZ,KM,Nat.reduceAdd,Nat.reduceSub,PK,PL,PE,PH,Fy,IQ]
 gi_wp2_with fail
 refine ⟨trivial,?_⟩
 refine (fG (n - 1) _ _ _ m hm1 _).mono ?_;rintro e w' ⟨rfl,rfl⟩
 gi_wp2
 have bO:=((Boxed.new w 184 (.slice none 0 0)).alloc (.cells #[.slice (some ⟨b,o,none⟩) ln c] 54)).alloc (.cells #[.int .i64 m] 3)
 have bS:=(Boxed.new (w.alloc (.cells #[.slice none 0 0] 184)) 54 (.slice (some ⟨b,o,none⟩) ln c)).alloc (.cells #[.int .i64 m] 3)
 have bN:=Boxed.new ((w.alloc (.cells #[.slice none 0 0] 184)).alloc (.cells #[.slice (some ⟨b,o,none⟩) ln c] 54)) 3 (.int .i64 m)
 rw [Kl,Kl] at bN
 rw [Kl] at bS
 have hB0:Aj w (((w.alloc (.cells #[.slice none 0 0] 184)).alloc (.cells #[.slice (some ⟨b,o,none⟩) ln c] 54)).alloc (.cells #[.int .i64 m] 3)):=(((Aj.refl w).alloc _).alloc _).alloc _
 have hsz:(((w.alloc (.cells #[.slice none 0 0] 184)).alloc (.cells #[.slice (some ⟨b,o,none⟩) ln c] 54)).alloc (.cells #[.int .i64 m] 3)).heap.size=w.heap.size+3:=by simp
 generalize ((w.alloc (.cells #[.slice none 0 0] 184)).alloc (.cells #[.slice (some ⟨b,o,none⟩) ln c] 54)).alloc (.cells #[.int .i64 m] 3)=W0 at *
 have HsO:=Aa bO
 obtain ⟨i0,hi0,hz0,hz1,hz2⟩:=info_parts SS
 have Hi0:=Aa hi0
 have Hz0:=Aa hz0
 have Hz1:=Aa hz1
 have Hz2:=Aa hz2
 clear hi0 hz0 hz1 hz2
 have P0:Parts W0 W0 w.heap.size (.slice none 0 0) []:=⟨bO,⟨rfl,.inl ⟨rfl,rfl⟩⟩,by simp,by simp,by simp⟩
 have hne1:w.heap.size+1<W0.heap.size:=by omega
 have hne2:w.heap.size+1+1<W0.heap.size:=by omega
 have Hsz:=Aa hsz
 clear hsz bO
 refine wpIn_rangeFunc_ownG rfl h1 (gf:=198) (lb:=#[.pointer (some ⟨w.heap.size+1,0,none⟩),.pointer (some ⟨w.heap.size+1+1,0,none⟩)]) rfl trivial (enters_of func198 (by kernel_rfl) rfl)
  (fF (n - 1) (by omega) (w.heap.size+1) (w.heap.size+1+1) b o c ln m l w W0 Hx Wo hm1 hm2 hne1 hne2 bS.cell bN.cell) Jn.trans (fun W l o o' hl _ _ _=>Nh (by omega) (by omega)) (Below.refl _ _) (fun _=>rfl)
  (fun pre W=>(∃ v rs,Parts W0 W w.heap.size v rs∧Hid (rs.map (fun r=>cons r.l)=pre.map (fun x=>cons x.1.l))∧Hid (∀ r ∈ rs,r.n≤5000))∧Below w.heap.size w W∧W0.heap.size≤W.heap.size)
  (fun _ _ _=>False)
  (fun s A B row hs hg hr=>by
   obtain ⟨⟨v,rs,h1,h2,h3⟩,h4,h5⟩:=hs
   exact ⟨⟨v,rs,h1.kept hg (fun r e=>(hr r e).2),h2,h3⟩,h4.grown hg h4.size (fun k e=>Gm (by omega) (hr k e).1),Gm h5 hg.size⟩)
  (fun _ _ _ _ _ hs _ _=>hs)
  ⟨⟨_,[],P0,rfl,fun r h=>by simp at h⟩,hB0,BZ _⟩
  (fun x=>{ tmps:=#[.int .i64 m,.slice (some ⟨b,o,none⟩) ln c,undef,undef,.slice none 0 0,.int .i64 0,.pointer (some ⟨w.heap.size,0,none⟩),x.1.v,.int .i64 m,.bool false,.slice (some ⟨b,o,none⟩) ln c,.int .i64 m,.func (.func 198) #[] #[.pointer (some ⟨w.heap.size+1,0,none⟩),.pointer (some ⟨w.heap.size+1+1,0,none⟩)],x.1.v,undef,undef,undef,undef,undef,undef],defers:=[] }) ?assign ?body ?done ?stop
 case assign=>
  intro l x W K hK
  gi_wp2
  exact hK
 case body=>
  rintro lp pre x W ⟨⟨v,rs,hP,hcon,hrn⟩,hB,hW0⟩ hlt
  obtain ⟨⟨xA,xn,xc,xl⟩,hxo,eB⟩:=x
  simp only [Row.v] at *
  have hd:1≤n - 1 - 1:=by omega
  have hmx:prog.follows .mixedOrders=true:=by kernel_rfl
  have hc:=hP.box.cell
  have hBw:Aj w W.drew:=(show Aj w W from hB).drew
  have Hxo:Hid (Row.ok W.drew (⟨xA,xn,xc,xl⟩:Row AV)):=hxo.mono hBw
  have hlen:rs.length=pre.length:=by have:=Cm List.length hcon.Ab;simpa using this
  have hpl:pre.length≤5000:=by have:=Hl.Ab;omega
  have Hlen:=Aa hlen
  clear hlen
  have hPd:Parts W0 W.drew w.heap.size v rs:=hP.keep (Aj.refl W).drew
  gi_wp2
  refine wpIn_region_any (by kernel_rfl) ?_
  refine wpAnyIn_ready (rs:=[0,1]) (by kernel_rfl) (by simp) ?_
  refine AllReadyIn.cons rfl (fun K hK=>?_) (AllReadyIn.cons rfl (fun K hK=>?_) AllReadyIn.nil)
  ·go_simp
   refine hK _ _ ?_;clear hK K
   refine wpAnyIn_ready (rs:=[1]) (by kernel_rfl) (by simp) ?_
   refine AllReadyIn.cons rfl (fun K hK=>?_) AllReadyIn.nil
   go_simp
   refine hK _ _ ?_;clear hK K
   refine wpAnyIn_ready (rs:=[2]) (by kernel_rfl) (by simp) ?_
   refine AllReadyIn.cons rfl (fun K hK=>?_) AllReadyIn.nil
   go_simp
   refine ⟨trivial,?_⟩
   refine (CallsIn.inRound lp (LJ.2 (Jz ⟨xA,xn,xc,xl⟩ _ Hxo (by simp only at eB ⊢;omega)))).mono ?_
   rintro e w2 ⟨cv,fs,rfl,OB,EK⟩
   obtain ⟨⟨yA,yn,yc,yl⟩,rfl,WZ,hyl,hyn⟩:=La OB (by have h1:=Cm List.length EK;rw [AL,AL] at h1;have h2:=Hxo.len;simp only at h1 h2 eB;omega)
   have hP2:=hPd.keep OB.Au
   have hP3:=hP2.keep ((Aj.refl w2).alloc (.cells #[.slice yA yn yc] 54))
   have hc2:=hP2.box.cell
   have hc3:=hP3.box.cell
   obtain ⟨v',w4,hrun,Jb,hg4,SX⟩:=EI (P:=prog) (w2.alloc (.cells #[.slice yA yn yc] 54)) W0.heap.size 184 184 54 i0 (.slice none 0 0) 1 24 underlying184 Hi0 Hz0 Hz1 Hz2 rfl (by decide) v rs.length (rs.map Row.v) hP3.own _ (some ⟨w2.heap.size,0,none⟩) 1 1 [.slice yA yn yc] (KT w2 _ _ 1 1 rfl) (by simp [Value.oneCell']) (by unfold maxLen;rw [Hlen.Ab];omega) (by rw [Hlen.Ab];omega) (by have:=OB.Au.size;simp at this ⊢;omega)
   obtain ⟨g',cap',rfl⟩:=ownsRow_succ Jb
   have Kb:=hP3.box.kept hg4 (hP3.box.not_row (by decide) hP3.own)
   have hc4:=Kb.cell
   have hf4:=Kb.frozen
   have Tn:=Aa hrun
   clear hrun
   simp only [Row.v]
   refine hK _ _ ?_;clear hK K
   refine wpAnyIn_ready (rs:=[3]) (by kernel_rfl) (by simp) ?_
   refine AllReadyIn.cons rfl (fun K hK=>?_) AllReadyIn.nil
   go_simp
   refine hK _ _ ?_;clear hK K
   refine wpAnyIn_ready (rs:=[4]) (by kernel_rfl) (by simp) ?_
   refine AllReadyIn.cons rfl (fun K hK=>?_) AllReadyIn.nil
   refine EB rfl (.tmp 14) (.tmp 17) _ rfl _ _ rfl rfl Tn.Ab ?_
   refine hK _ _ ?_;clear hK K
   refine wpAnyIn_ready (rs:=[5]) (by kernel_rfl) (by simp) ?_
   refine AllReadyIn.cons rfl (fun K hK=>?_) AllReadyIn.nil
   go_simp
   refine hK _ _ ?_;clear hK K
   refine wpAnyIn_done (by kernel_rfl) ?_ _
   obtain ⟨k1,k2,k3,k4,k5⟩:=IK hne1 hne2 (by omega) hP hW0 (show Aj w W from hB) OB WZ hyl hP3 Jb hg4 SX Kb
   refine ⟨k1,k2,⟨_,rs++[⟨yA,yn,yc,yl⟩],k3,?_,?_⟩,k4,k5⟩
   ·show _=_
    rw [BR,BR,hcon.Ab]
    have e1:cons yl=cons xl:=by have h1:yl=fs:=hyl;rw [h1];exact EK
    simp only [DI,EF,e1]
   ·intro r hr
    rcases DT.1 hr with h|h
    ·exact hrn r h
    ·rw [Dt] at h
     subst h
     have h1:=Cm List.length EK
     rw [AL,AL] at h1
     have h2:=Hxo.len
     simp only at h1 h2 eB hyn ⊢
     omega
  ·go_simp
   refine hK _ _ ?_;clear hK K
   refine wpAnyIn_ready (rs:=[0,2]) (by kernel_rfl) (by simp) ?_
   refine AllReadyIn.cons rfl (fun K hK=>?_) (AllReadyIn.cons rfl (fun K hK=>?_) AllReadyIn.nil)
   ·go_simp
    refine hK _ _ ?_;clear hK K
    refine wpAnyIn_ready (rs:=[2]) (by kernel_rfl) (by simp) ?_
    refine AllReadyIn.cons rfl (fun K hK=>?_) AllReadyIn.nil
    go_simp
    refine ⟨trivial,?_⟩
    refine (CallsIn.inRound lp (LJ.2 (Jz ⟨xA,xn,xc,xl⟩ _ Hxo (by simp only at eB ⊢;omega)))).mono ?_
    rintro e w2 ⟨cv,fs,rfl,OB,EK⟩
    obtain ⟨⟨yA,yn,yc,yl⟩,rfl,WZ,hyl,hyn⟩:=La OB (by have h1:=Cm List.length EK;rw [AL,AL] at h1;have h2:=Hxo.len;simp only at h1 h2 eB;omega)
    have hP2:=hPd.keep OB.Au
    have hP3:=hP2.keep ((Aj.refl w2).alloc (.cells #[.slice yA yn yc] 54))
    have hc2:=hP2.box.cell
    have hc3:=hP3.box.cell
    obtain ⟨v',w4,hrun,Jb,hg4,SX⟩:=EI (P:=prog) (w2.alloc (.cells #[.slice yA yn yc] 54)) W0.heap.size 184 184 54 i0 (.slice none 0 0) 1 24 underlying184 Hi0 Hz0 Hz1 Hz2 rfl (by decide) v rs.length (rs.map Row.v) hP3.own _ (some ⟨w2.heap.size,0,none⟩) 1 1 [.slice yA yn yc] (KT w2 _ _ 1 1 rfl) (by simp [Value.oneCell']) (by unfold maxLen;rw [Hlen.Ab];omega) (by rw [Hlen.Ab];omega) (by have:=OB.Au.size;simp at this ⊢;omega)
    obtain ⟨g',cap',rfl⟩:=ownsRow_succ Jb
    have Kb:=hP3.box.kept hg4 (hP3.box.not_row (by decide) hP3.own)
    have hc4:=Kb.cell
    have hf4:=Kb.frozen
    have Tn:=Aa hrun
    clear hrun
    simp only [Row.v]
    refine hK _ _ ?_;clear hK K
    refine wpAnyIn_ready (rs:=[3]) (by kernel_rfl) (by simp) ?_
    refine AllReadyIn.cons rfl (fun K hK=>?_) AllReadyIn.nil
    go_simp
    refine hK _ _ ?_;clear hK K
    refine wpAnyIn_ready (rs:=[4]) (by kernel_rfl) (by simp) ?_
    refine AllReadyIn.cons rfl (fun K hK=>?_) AllReadyIn.nil
    refine EB rfl (.tmp 14) (.tmp 17) _ rfl _ _ rfl rfl Tn.Ab ?_
    refine hK _ _ ?_;clear hK K
    refine wpAnyIn_ready (rs:=[5]) (by kernel_rfl) (by simp) ?_
    refine AllReadyIn.cons rfl (fun K hK=>?_) AllReadyIn.nil
    go_simp
    refine hK _ _ ?_;clear hK K
    refine wpAnyIn_done (by kernel_rfl) ?_ _
    obtain ⟨k1,k2,k3,k4,k5⟩:=IK hne1 hne2 (by omega) hP hW0 (show Aj w W from hB) OB WZ hyl hP3 Jb hg4 SX Kb
    refine ⟨k1,k2,⟨_,rs++[⟨yA,yn,yc,yl⟩],k3,?_,?_⟩,k4,k5⟩
    ·show _=_
     rw [BR,BR,hcon.Ab]
     have e1:cons yl=cons xl:=by have h1:yl=fs:=hyl;rw [h1];exact EK
     simp only [DI,EF,e1]
    ·intro r hr
     rcases DT.1 hr with h|h
     ·exact hrn r h
     ·rw [Dt] at h
      subst h
      have h1:=Cm List.length EK
      rw [AL,AL] at h1
      have h2:=Hxo.len
      simp only at h1 h2 eB hyn ⊢
      omega
   ·skip
    go_simp
    refine ⟨trivial,?_⟩
    refine (CallsIn.inRound lp (LJ.2 (Jz ⟨xA,xn,xc,xl⟩ _ Hxo (by simp only at eB ⊢;omega)))).mono ?_
    rintro e w2 ⟨cv,fs,rfl,OB,EK⟩
    obtain ⟨⟨yA,yn,yc,yl⟩,rfl,WZ,hyl,hyn⟩:=La OB (by have h1:=Cm List.length EK;rw [AL,AL] at h1;have h2:=Hxo.len;simp only at h1 h2 eB;omega)
    have hP2:=hPd.keep OB.Au
    have hP3:=hP2.keep ((Aj.refl w2).alloc (.cells #[.slice yA yn yc] 54))
    have hc2:=hP2.box.cell
    have hc3:=hP3.box.cell
    obtain ⟨v',w4,hrun,Jb,hg4,SX⟩:=EI (P:=prog) (w2.alloc (.cells #[.slice yA yn yc] 54)) W0.heap.size 184 184 54 i0 (.slice none 0 0) 1 24 underlying184 Hi0 Hz0 Hz1 Hz2 rfl (by decide) v rs.length (rs.map Row.v) hP3.own _ (some ⟨w2.heap.size,0,none⟩) 1 1 [.slice yA yn yc] (KT w2 _ _ 1 1 rfl) (by simp [Value.oneCell']) (by unfold maxLen;rw [Hlen.Ab];omega) (by rw [Hlen.Ab];omega) (by have:=OB.Au.size;simp at this ⊢;omega)
    obtain ⟨g',cap',rfl⟩:=ownsRow_succ Jb
    have Kb:=hP3.box.kept hg4 (hP3.box.not_row (by decide) hP3.own)
    have hc4:=Kb.cell
    have hf4:=Kb.frozen
    have Tn:=Aa hrun
    clear hrun
    simp only [Row.v]
    refine hK _ _ ?_;clear hK K
    refine wpAnyIn_ready (rs:=[0,3]) (by kernel_rfl) (by simp) ?_
    refine AllReadyIn.cons rfl (fun K hK=>?_) (AllReadyIn.cons rfl (fun K hK=>?_) AllReadyIn.nil)
    ·go_simp
     refine hK _ _ ?_;clear hK K
     refine wpAnyIn_ready (rs:=[3]) (by kernel_rfl) (by simp) ?_
     refine AllReadyIn.cons rfl (fun K hK=>?_) AllReadyIn.nil
     go_simp
     refine hK _ _ ?_;clear hK K
     refine wpAnyIn_ready (rs:=[4]) (by kernel_rfl) (by simp) ?_
     refine AllReadyIn.cons rfl (fun K hK=>?_) AllReadyIn.nil
     refine EB rfl (.tmp 14) (.tmp 17) _ rfl _ _ rfl rfl Tn.Ab ?_
     refine hK _ _ ?_;clear hK K
     refine wpAnyIn_ready (rs:=[5]) (by kernel_rfl) (by simp) ?_
     refine AllReadyIn.cons rfl (fun K hK=>?_) AllReadyIn.nil
     go_simp
     refine hK _ _ ?_;clear hK K
     refine wpAnyIn_done (by kernel_rfl) ?_ _
     obtain ⟨k1,k2,k3,k4,k5⟩:=IK hne1 hne2 (by omega) hP hW0 (show Aj w W from hB) OB WZ hyl hP3 Jb hg4 SX Kb
     refine ⟨k1,k2,⟨_,rs++[⟨yA,yn,yc,yl⟩],k3,?_,?_⟩,k4,k5⟩
     ·show _=_
      rw [BR,BR,hcon.Ab]
      have e1:cons yl=cons xl:=by have h1:yl=fs:=hyl;rw [h1];exact EK
      simp only [DI,EF,e1]
     ·intro r hr
      rcases DT.1 hr with h|h
      ·exact hrn r h
      ·rw [Dt] at h
       subst h
       have h1:=Cm List.length EK
       rw [AL,AL] at h1
       have h2:=Hxo.len
       simp only at h1 h2 eB hyn ⊢
       omega
    ·go_simp
     refine hK _ _ ?_;clear hK K
     refine wpAnyIn_ready (rs:=[0]) (by kernel_rfl) (by simp) ?_
     refine AllReadyIn.cons rfl (fun K hK=>?_) AllReadyIn.nil
     go_simp
     refine hK _ _ ?_;clear hK K
     refine wpAnyIn_ready (rs:=[4]) (by kernel_rfl) (by simp) ?_
     refine AllReadyIn.cons rfl (fun K hK=>?_) AllReadyIn.nil
     refine EB rfl (.tmp 14) (.tmp 17) _ rfl _ _ rfl rfl Tn.Ab ?_
     refine hK _ _ ?_;clear hK K
     refine wpAnyIn_ready (rs:=[5]) (by kernel_rfl) (by simp) ?_
     refine AllReadyIn.cons rfl (fun K hK=>?_) AllReadyIn.nil
     go_simp
     refine hK _ _ ?_;clear hK K
     refine wpAnyIn_done (by kernel_rfl) ?_ _
     obtain ⟨k1,k2,k3,k4,k5⟩:=IK hne1 hne2 (by omega) hP hW0 (show Aj w W from hB) OB WZ hyl hP3 Jb hg4 SX Kb
     refine ⟨k1,k2,⟨_,rs++[⟨yA,yn,yc,yl⟩],k3,?_,?_⟩,k4,k5⟩
     ·show _=_
      rw [BR,BR,hcon.Ab]
      have e1:cons yl=cons xl:=by have h1:yl=fs:=hyl;rw [h1];exact EK
      simp only [DI,EF,e1]
     ·intro r hr
      rcases DT.1 hr with h|h
      ·exact hrn r h
      ·rw [Dt] at h
       subst h
       have h1:=Cm List.length EK
       rw [AL,AL] at h1
       have h2:=Hxo.len
       simp only at h1 h2 eB hyn ⊢
       omega
 case done=>
  rintro D ys W hD ⟨k,hk1,hk2,rfl⟩ ⟨⟨v,rs,hP,hcon,hrn⟩,hB,hW0⟩ hK
  have hc:=hP.box.cell
  gi_wp2
  refine ⟨by simp,.inl ⟨_,_,rfl,run_takeDeferred hK,?_⟩⟩
  refine ⟨.tuple #[v,.int .i64 0],?_,k,hk1,hk2,v,rs,rfl,?_,?_,?_,?_⟩
  ·kernel_rfl
  ·have hq:=ownsRow_putObj hP.own (.deferred none) hK rfl
   refine ⟨hq.1,?_⟩
   rcases hq.2 with h0|⟨g,cap,cur,q1,q2,q3⟩
   ·exact .inl h0
   ·exact .inr ⟨g,cap,cur,q1,Gm hB0.size q2,q3⟩
  ·have hP':=hP.kept (grownBy_putObj' W D (.deferred none)) (fun r e=>by injection e with e;subst e;exact ⟨_,hK,rfl⟩)
   exact fun r hr=>⟨hP'.ok r hr,hrn r hr,hP'.P6 r hr⟩
  ·rw [hcon.Ab,aK];(try rfl)
  ·exact Below.trans hB (belowK_b (w:=w) (BZ _) W D _ _ (show w.heap.size≤D by omega) hK rfl rfl)
 case stop=>
  rintro D c pre W _ _ h _
  exact h.elim
end Go.Proofs.YtijplolmkcdflaaGreat
namespace Go.Proofs.YtijplolmkcdflaaGreat
open Tryz
open Go.RowKit Go.Shelf
attribute [local go_sem] Oper.semAt_some
theorem Um (n Bs Bn:Nat) (A:Option Addr) (c:Nat) (w0 w:World) (hs:Bs<w.heap.size) (J8:w.cell? ⟨Bs,0,none⟩=some (.slice A 0 c)):
 SeqStopsK Fence.wide n prog 198 #[.pointer (some ⟨Bs,0,none⟩),.pointer (some ⟨Bn,0,none⟩)] (fun x:ZO w0=>#[x.1.v]) (Jn Bs Bn)
  (fun xs=>xs=[]) (fun _=>True) 0 w:=fun lp J Jx W hW hJ _ hY h0=>by
 refine (Xu n lp Bs Bn J A c W ((hW.cell (p:=⟨Bs,0,none⟩) hs).trans J8) h0).mono ?_
 rintro e W' ⟨he,hj⟩
 exact ⟨he,.inl ⟨_,rfl,hj⟩⟩
theorem mJ (n:Nat) (hn:3≤n) (A:Option Addr) (c m:Nat) (w:World) (hm1:1≤m):
 CallsIn Fence.wide n prog 149 #[.int .i64 m,.slice A 0 c] w fun e w'=>ZZ [] w e w':=by
 have h1:1≤n:=by omega
 have d:decide ((m:Int)<1)=false:=by simp;omega
 refine callsIn_of_wp_marks func149 rfl trivial ?_ rfl
 simp only [ntmps149,PG,CZ,KM,Nat.reduceAdd,Nat.reduceSub,PK,PL,PE,PH,Fy,IQ]
 gi_wp2_with fail
 refine ⟨trivial,?_⟩
 refine (fG (n - 1) _ _ _ m hm1 _).mono ?_;rintro e w' ⟨rfl,rfl⟩
 gi_wp2
 have bO:=((Boxed.new w 184 (.slice none 0 0)).alloc (.cells #[.slice A 0 c] 54)).alloc (.cells #[.int .i64 m] 3)
 have bS:=(Boxed.new (w.alloc (.cells #[.slice none 0 0] 184)) 54 (.slice A 0 c)).alloc (.cells #[.int .i64 m] 3)
 have bN:=Boxed.new ((w.alloc (.cells #[.slice none 0 0] 184)).alloc (.cells #[.slice A 0 c] 54)) 3 (.int .i64 m)
 rw [Kl,Kl] at bN
 rw [Kl] at bS
 have hB0:Aj w (((w.alloc (.cells #[.slice none 0 0] 184)).alloc (.cells #[.slice A 0 c] 54)).alloc (.cells #[.int .i64 m] 3)):=(((Aj.refl w).alloc _).alloc _).alloc _
 have hsz:(((w.alloc (.cells #[.slice none 0 0] 184)).alloc (.cells #[.slice A 0 c] 54)).alloc (.cells #[.int .i64 m] 3)).heap.size=w.heap.size+3:=by simp
 generalize ((w.alloc (.cells #[.slice none 0 0] 184)).alloc (.cells #[.slice A 0 c] 54)).alloc (.cells #[.int .i64 m] 3)=W0 at *
 have HsO:=Aa bO
 obtain ⟨i0,hi0,hz0,hz1,hz2⟩:=info_parts SS
 have Hi0:=Aa hi0
 have Hz0:=Aa hz0
 have Hz1:=Aa hz1
 have Hz2:=Aa hz2
 clear hi0 hz0 hz1 hz2
 have P0:Parts W0 W0 w.heap.size (.slice none 0 0) []:=⟨bO,⟨rfl,.inl ⟨rfl,rfl⟩⟩,by simp,by simp,by simp⟩
 have hne1:w.heap.size+1<W0.heap.size:=by omega
 have hne2:w.heap.size+1+1<W0.heap.size:=by omega
 have Hsz:=Aa hsz
 clear hsz bO
 refine wpIn_rangeFunc_ownG rfl h1 (gf:=198) (lb:=#[.pointer (some ⟨w.heap.size+1,0,none⟩),.pointer (some ⟨w.heap.size+1+1,0,none⟩)]) rfl trivial (enters_of func198 (by kernel_rfl) rfl)
  (Um (n - 1) (w.heap.size+1) (w.heap.size+1+1) A c w W0 hne1 bS.cell) Jn.trans (fun W l o o' hl _ _ _=>Nh (by omega) (by omega)) (Below.refl _ _) (fun _=>rfl)
  (fun pre W=>(∃ v rs,Parts W0 W w.heap.size v rs∧Hid (rs.map (fun r=>cons r.l)=pre.map (fun x=>cons x.1.l))∧Hid (∀ r ∈ rs,r.n≤5000))∧Below w.heap.size w W∧W0.heap.size≤W.heap.size)
  (fun _ _ _=>False)
  (fun s A B row hs hg hr=>by
   obtain ⟨⟨v,rs,h1,h2,h3⟩,h4,h5⟩:=hs
   exact ⟨⟨v,rs,h1.kept hg (fun r e=>(hr r e).2),h2,h3⟩,h4.grown hg h4.size (fun k e=>Gm (by omega) (hr k e).1),Gm h5 hg.size⟩)
  (fun _ _ _ _ _ hs _ _=>hs)
  ⟨⟨_,[],P0,rfl,fun r h=>by simp at h⟩,hB0,BZ _⟩
  (fun x=>{ tmps:=#[.int .i64 m,.slice A 0 c,undef,undef,.slice none 0 0,.int .i64 0,.pointer (some ⟨w.heap.size,0,none⟩),x.1.v,.int .i64 m,.bool false,.slice A 0 c,.int .i64 m,.func (.func 198) #[] #[.pointer (some ⟨w.heap.size+1,0,none⟩),.pointer (some ⟨w.heap.size+1+1,0,none⟩)],x.1.v,undef,undef,undef,undef,undef,undef],defers:=[] }) ?assign ?body ?done ?stop
 case assign=>
  intro l x W K hK
  gi_wp2
  exact hK
 case body=>
  rintro lp pre x W _ hlt
  exact absurd hlt (Nat.not_lt_zero _)
 case done=>
  rintro D ys W hD rfl ⟨⟨v,rs,hP,hcon,hrn⟩,hB,hW0⟩ hK
  have hc:=hP.box.cell
  gi_wp2
  refine ⟨by simp,.inl ⟨_,_,rfl,run_takeDeferred hK,?_⟩⟩
  refine ⟨.tuple #[v,.int .i64 0],?_,v,rs,rfl,?_,?_,?_,?_⟩
  ·kernel_rfl
  ·have hq:=ownsRow_putObj hP.own (.deferred none) hK rfl
   refine ⟨hq.1,?_⟩
   rcases hq.2 with h0|⟨g,cap,cur,q1,q2,q3⟩
   ·exact .inl h0
   ·exact .inr ⟨g,cap,cur,q1,Gm hB0.size q2,q3⟩
  ·have hP':=hP.kept (grownBy_putObj' W D (.deferred none)) (fun r e=>by injection e with e;subst e;exact ⟨_,hK,rfl⟩)
   exact fun r hr=>⟨hP'.ok r hr,hrn r hr,hP'.P6 r hr⟩
  ·rw [hcon.Ab];(try rfl)
  ·exact Below.trans hB (belowK_b (w:=w) (BZ _) W D _ _ (show w.heap.size≤D by omega) hK rfl rfl)
 case stop=>
  rintro D c pre W _ _ h _
  exact h.elim
theorem U4 (m:Nat) (hm1:1≤m) (hm2:m≤9223372036854775807) (x:Row AV) (w:World) (hx:x.ok w) (hn:x.n≤5000):
 Calls prog 149 #[.int .i64 m,x.v] w fun e w'=>∃ k,x.l.length≤k * m∧(k=0∨(k - 1) * m<x.l.length)∧ZZ (upto (fun j=>cons ((x.l.drop (j * m)).take m)) k) w e w':=by
 obtain ⟨A,n,c,l⟩:=x
 rcases Tt n with rfl|hpos
 ·have hl:l.length=0:=hx.len
  refine (LJ.1 (mJ 3 (BZ _) A c m w hm1)).mono ?_
  intro e w' h
  exact ⟨0,by simp only;omega,.inl rfl,h⟩
 ·obtain ⟨b,o,f,hA,_⟩:=hx.U2 hpos
  simp only at hA
  subst hA
  exact LJ.1 (Ac2 3 (BZ _) b o n c m l w hx hn hm1 hm2)
end Go.Proofs.YtijplolmkcdflaaGreat
namespace Go.Proofs.YtijplolmkcdflaaGreat
open Tryz
open Go.RowKit
attribute [local go_sem] Jc
structure GG (w0 w:World) (v:Value) (rs:List (Row AV)):Prop where
 own:w.ownsRow w0.heap.size 54 1 v rs.length (rs.map Row.v)
 all:∀ r ∈ rs,r.ok w∧r.n≤5000∧Tk v.ownBlock r
 Au:Aj w0 w
theorem GG.keep {w0 w w':World} {v:Value} {rs:List (Row AV)} (h:GG w0 w v rs) (hb:Aj w w'):GG w0 w' v rs:=
 ⟨FB h.own hb,fun r hr=>⟨(h.all r hr).1.mono hb,(h.all r hr).2⟩,h.Au.trans hb⟩
theorem Jy (rs:List (Row AV)):rs.flatMap Ar.cells=rs.map Row.v:=by
 induction rs with
 |nil=>rfl
 |cons r rs ih=>rw [CY,ih];(try rfl)
theorem GG.cell {w0 w:World} {g n c:Nat} {rs:List (Row AV)} (h:GG w0 w (.slice (some ⟨g,0,none⟩) n c) rs) {k:Nat} {r:Row AV} (hr:rs[k]?=some r):w.cell? ⟨g,k,none⟩=some r.v∧w.frozen? ⟨g,k,none⟩=false∧g<w.heap.size:=by
 obtain ⟨A,c',e,_⟩:=Ao h.own
 injection e with e1 e2 e3
 have ho:=h.own
 rw [←e2,←Jy] at ho
 have hk:k<n:=by have:=(Ca.1 hr).1;omega
 obtain ⟨q1,q2⟩:=Gd (α:=Row AV) ho hr
 have q3:=OT (α:=Row AV) ho hk 0 (by decide)
 have e4:k * Ar.size (Row AV)+0=k:=Sl k
 have q4:=q1 0 r.v rfl
 rw [e4] at q4 q3
 exact ⟨q4,q3.2,q2⟩
theorem GG.len {w0 w:World} {A:Option Addr} {n c:Nat} {rs:List (Row AV)} (h:GG w0 w (.slice A n c) rs):rs.length=n:=by
 obtain ⟨A',c',e,_⟩:=Ao h.own
 injection e with e1 e2 e3
 exact e2.symm
theorem GG.addr {w0 w:World} {A:Option Addr} {n c:Nat} {rs:List (Row AV)} (h:GG w0 w (.slice A n c) rs) (hn:0<n):∃ g,A=some ⟨g,0,none⟩:=by
 have hl:=h.len
 rcases h.own.2 with ⟨h0,hz⟩|⟨g,cap,cur,e,_⟩
 ·omega
 ·injection e with e1
  exact ⟨g,e1⟩
theorem GG.set {w0 w:World} {g n c:Nat} {rs:List (Row AV)} (h:GG w0 w (.slice (some ⟨g,0,none⟩) n c) rs) {k:Nat} (hk:k<n) {y:Row AV} (hy:y.ok w) (hn:y.n≤5000) (ho:Tk (some g) y):
 GG w0 (w.setCell ⟨g,k,none⟩ y.v) (.slice (some ⟨g,0,none⟩) n c) (rs.set k y):=by
 obtain ⟨A,c',e,_⟩:=Ao h.own
 injection e with e1 e2 e3
 have hg:w.grownBy (w.setCell ⟨g,k,none⟩ y.v) (some g):=⟨rfl,rfl,rfl,(KeepsWalks.setCell w _ y.v).size,fun j _ hj=>UL _ _ _ j (fun e=>hj (by rw [e]))⟩
 refine ⟨?_,fun r hr=>?_,h.Au.grown hg fun j e=>?_⟩
 ·have hw:=h.own
  rw [←e2,←Jy] at hw
  have:=QB (α:=Row AV) hw hk y
  rw [Jy,show k * Ar.size (Row AV)=k from Sl k] at this
  rw [Qm,←e2]
  exact this
 ·rcases YO hr with hr'|rfl
  ·exact ⟨Nj (h.all r hr').1 hg (h.all r hr').2.2,(h.all r hr').2⟩
  ·exact ⟨Nj hy hg ho,hn,ho⟩
 ·injection e with e
  subst e
  exact Gj h.own rfl
theorem set_mid {α:Type} {U D:List α} {k:Nat} (v:α) (hU:U.length=k) (hk:k<D.length):(U++D.drop k).set k v=(U++[v])++D.drop (k+1):=by
 rw [List.set_append_right _ _ (by omega),hU,Ql,DZ hk,YL,Dk]
 rfl
theorem S9 {α:Type} {U D:List α} {k:Nat} (hU:U.length=k):(U++D.drop k)[k]?=D[k]?:=by
 rw [NZ (by omega),hU,Ql,KN,Jk]
theorem wZ {α:Type} (f:Nat→α) {k K:Nat} (h:k<K):(upto f K)[k]?=some (f k):=by simp [upto,h]
theorem xZ (m:Nat) (hm1:1≤m) (hm2:m≤9223372036854775807) (x:Row AV) (w:World) (hx:x.ok w) (hn:x.n≤5000):
 Calls prog 106 #[.int .i64 m,x.v] w fun e w'=>∃ k v rs,x.l.length≤k * m∧(k=0∨(k - 1) * m<x.l.length)∧e=.returned (.tuple #[v,.int .i64 0])∧GG w w' v rs∧rs.map (fun r=>cons r.l)=upto (fun j=>AZ (cons ((x.l.drop (j * m)).take m))) k:=by
 have Hx:=Aa hx
 have Hlen:Hid (x.l.length=x.n):=hx.len
 clear hx
 obtain ⟨A,n,c,l⟩:=x
 simp only [Row.v] at *
 go_enter func106,ntmps106
 go_wp2_with fail
 refine (U4 m hm1 hm2 ⟨A,n,c,l⟩ _ Hx hn).mono ?_
 rintro e w1 ⟨K,hK1,hK2,v,rs,rfl,hown,hall,hcs,hb⟩
 have hR:GG w w1 v rs:=⟨hown,hall,hb⟩
 have hrl:rs.length=K:=by have:=Cm List.length hcs;rwa [Cq,IB] at this
 have hKn:K≤5000:=by
  rcases hK2 with h0|h1
  ·omega
  ·have:=Nat.le_mul_of_pos_right (K - 1) (show 0<m by omega)
   have:=Hlen.Ab
   simp only at h1
   omega
 clear hown hall hb
 have HK1:=Aa hK1
 have HK2:=Aa hK2
 have Hcs:=Aa hcs
 clear hK1 hK2 hcs
 obtain ⟨vA,vc,rfl,hvc⟩:=Ao hR.own
 have Hrl:=Aa hrl
 rw [hrl] at hR hvc ⊢
 clear hrl
 have hR0:=hR
 go_wp2
 go_loopg [22] K (fun gg i wr=>∃ k ys,gg=K - k∧k≤K∧i=.int .i64 (k:Nat)∧GG w wr (.slice vA K vc) ys∧Hid (ys.map (fun r=>cons r.l)=upto (fun j=>AZ (cons ((l.drop (j * m)).take m))) k++(rs.map (fun r=>cons r.l)).drop k))
 case atStart=>exact ⟨0,rs,rfl,by omega,rfl,hR0,by show _=_;simp [upto]⟩
 case round=>
  obtain ⟨k,ys,BG,hk,rfl,hY,hys⟩:=hrel
  have Cg:=Aa BG
  clear BG
  by_cases hlt:k<K
  ·obtain ⟨g,rfl⟩:=hY.addr (by omega)
   obtain ⟨y,hy⟩:∃ y,ys[k]?=some y:=⟨_,Ep (by rw [hY.len];exact hlt)⟩
   obtain ⟨hc,hf,hg⟩:=hY.cell hy
   have hya:=hY.all y (CE hy)
   have Hy:=Aa hy
   have HYa:=Aa hya
   have HY:=Aa hY
   obtain ⟨yA,yn,yc,yl⟩:=y
   simp only [Row.v] at hc
   clear hy hya hY hR hR0
   go_wp2_with fail
   refine (xM ⟨yA,yn,yc,yl⟩ _ HYa.1 HYa.2.1).mono ?_
   rintro e w2 ⟨u,fs,rfl,hG,hfs⟩
   have Hfs:=Aa hfs
   clear hfs
   have hfl:fs.length=yn:=by have h1:=Cm List.length Hfs.Ab;rw [AL,EW,AL] at h1;rw [h1];exact HYa.1.len
   have hyn:yn≤5000:=HYa.2.1
   obtain ⟨z,rfl,hzo,hzl,hzn⟩:=La hG (by omega)
   have hY2:=HY.keep hG.Au
   have hoz:Tk (some g) z:=VJ hG rfl hzl hg
   have HS:=Aa (hY2.set hlt hzo (by omega) hoz)
   obtain ⟨hc2,hf2,hg2⟩:=hY2.cell Hy.Ab
   simp only [Row.v] at hc2
   obtain ⟨zA,zn,zc,zl⟩:=z
   simp only [Row.v] at *
   have Hzl:Hid (zl=fs):=hzl
   clear hY2 hoz hG hzo hzl hzn hfl
   go_wp2
   go_roundg (K - (k+1))
   case rel=>
    refine ⟨k+1,_,rfl,by omega,by go_num,HS.Ab,?_⟩
    show _=_
    have hU:(upto (fun j=>AZ (cons ((l.drop (j * m)).take m))) k).length=k:=IB _ _
    have hD:k<(rs.map (fun r=>cons r.l)).length:=by rw [Cq,Hrl.Ab];exact hlt
    have h1:(ys.map (fun r=>cons r.l))[k]?=some (cons yl):=by rw [DD,Hy.Ab];(try rfl)
    rw [hys.Ab,S9 hU,Hcs.Ab,wZ _ hlt] at h1
    injection h1 with h1
    rw [List.map_set,hys.Ab,set_mid _ hU hD,OJ]
    simp only [Hzl.Ab,Hfs.Ab,h1]
   case measure=>rw [Cg.Ab];omega
  ·obtain rfl:k=K:=by omega
   clear hR hR0
   go_wp2
   refine Ce (v:=.tuple #[.slice vA k vc,.int .i64 0]) (by kernel_rfl) rfl ?_
   refine ⟨k,_,ys,HK1.Ab,HK2.Ab,rfl,hY,?_⟩
   rw [hys.Ab,List.drop_eq_nil_of_le (by rw [Cq,Hrl.Ab];exact BZ _),EZ]
end Go.Proofs.YtijplolmkcdflaaGreat
namespace Go.Proofs.YtijplolmkcdflaaGreat
open Tryz
open Go.RowKit Go.Shelf
theorem LB {β:Type} (l:List β) (m K:Nat):(upto (fun j=>(l.drop (j * m)).take m) K).flatten=l.take (K * m):=by
 induction K with
 |zero=>simp [upto]
 |succ K ih=>rw [OJ,UN,ih,List.flatten_singleton,Gs,JX,List.take_add]
theorem fE (R:List (List BS)) (m K:Nat) (h:R.length≤K * m):AZ (upto (fun j=>AZ ((R.drop (j * m)).take m).flatten) K).flatten=AZ R.flatten:=by
 have e1:upto (fun j=>AZ ((R.drop (j * m)).take m).flatten) K=((upto (fun j=>(R.drop (j * m)).take m) K).map List.flatten).map AZ:=by simp [upto,UO,YK]
 rw [e1,Vj,←List.flatten_flatten,LB,DY h]
theorem vC {β:Type} (l:List (List β)) (i j:Nat):((l.drop i).take j).flatten.length≤l.flatten.length:=by
 have h1:=Ki i l
 have h2:=Ki j (l.drop i)
 have e:l.flatten=(l.take i).flatten++(((l.drop i).take j).flatten++((l.drop i).drop j).flatten):=by
  rw [←UN,h2,←UN,h1]
 rw [e,BQ,BQ]
 omega
theorem Qc (ls:List (List BS)):(ls.map AZ).flatten.length=ls.flatten.length:=by
 induction ls with
 |nil=>rfl
 |cons a ls ih=>rw [DI,Sw,Sw,BQ,BQ,EW,ih]
theorem mP (R:List (List BS)) (m K:Nat) (h:R.length≤K * m):(upto (fun j=>AZ ((R.drop (j * m)).take m).flatten) K).flatten.length=R.flatten.length:=by
 have e1:upto (fun j=>AZ ((R.drop (j * m)).take m).flatten) K=((upto (fun j=>(R.drop (j * m)).take m) K).map List.flatten).map AZ:=by simp [upto,UO,YK]
 rw [e1,Qc,←List.flatten_flatten,LB,DY h]
theorem Qq (l:List (Row AV)) (i j:Nat):EH ((l.drop i).take j)=((EH l).drop i).take j:=by rw [EH,List.map_take,List.map_drop]
def Oq (FK:Nat):Nat→Nat→Nat
 |0,_=>0
 |f+1,n=>if n≤1 then 0 else Oq FK f ((n+FK - 1) / FK)+1
def NF (FK n:Nat):Nat:=Oq FK n n
theorem ceil_lt {FK n:Nat} (hf:2≤FK) (hn:1<n):(n+FK - 1) / FK<n:=by
 rw [Nat.div_lt_iff_lt_mul (by omega)]
 have:n * 2≤n * FK:=Nat.mul_le_mul_left _ hf
 rcases Nt FK n with h|h
 ·omega
 ·have:2 * FK≤n * FK:=Nv _ hn
  omega
theorem kF {FK:Nat} (hf:2≤FK):∀ (f n:Nat),n≤f→Oq FK f n=Oq FK n n:=by
 intro f
 induction f using Nat.strongRecOn with
 |ind f ih=>
  intro n hn
  cases f with
  |zero=>
   have:n=0:=by omega
   subst this
   rfl
  |succ f=>
   cases n with
   |zero=>simp [Oq]
   |succ n=>
    rw [Oq,Oq]
    split
    ·rfl
    ·have:=ceil_lt (n:=n+1) hf (by omega)
     rw [ih f (by omega) _ (by omega),←ih n (by omega) _ (by omega)]
theorem dB {FK n:Nat} (h:n≤1):NF FK n=0:=by
 unfold NF
 cases n with
 |zero=>rfl
 |succ n=>rw [Oq,Ak h]
theorem U5 {FK n K:Nat} (hf:2≤FK) (hn:0<n) (h1:n≤K * FK) (h2:K=0∨(K - 1) * FK<n):(n+FK - 1) / FK=K:=by
 rcases h2 with rfl|h2
 ·omega
 ·have hK:K≠0:=fun e=>by subst e;omega
  obtain ⟨j,rfl⟩:∃ j,K=j+1:=⟨K - 1,by omega⟩
  rw [UM] at h2
  rw [Gs,JX] at h1
  refine Nat.div_eq_of_lt_le ?_ ?_
  ·rw [Gs,JX];omega
  ·rw [Gs,Gs,JX];omega
theorem kE {FK n K:Nat} (hf:2≤FK) (hn:1<n) (h1:n≤K * FK) (h2:K=0∨(K - 1) * FK<n):NF FK n=NF FK K+1∧K<n:=by
 have e:=U5 hf (by omega) h1 h2
 have l:=ceil_lt hf hn
 rw [e] at l
 refine ⟨?_,l⟩
 unfold NF
 obtain ⟨j,rfl⟩:∃ j,n=j+1:=⟨n - 1,by omega⟩
 rw [Oq,Ah (by omega),e,kF hf j K (by omega)]
structure Qh (w:World) (x:Row (Row AV)):Prop where
 ok:x.ok w
 n:x.n≤5000
 s:∀ r ∈ EH x.l,Uh r
 t:(EH x.l).flatten.length≤5000
theorem Yd {w:World} {b o n c m:Nat} {l:List (Row AV)} (h:Qh w ⟨some ⟨b,o,none⟩,n,c,l⟩) (k:Nat):Qh w (Iu b o m l k):=by
 have hl:l.length=n:=h.ok.len
 have hn:=h.n
 have hlen:((l.drop (k * m)).take m).length=min m (l.length - k * m):=by rw [Fa,IA]
 refine ⟨⟨⟨?_,fun h0=>?_⟩,fun a ha=>h.ok.all a (QX (UX ha)),BZ _,?_,?_⟩,?_,fun r hr=>?_,?_⟩
 ·rw [Dz];exact Cm (· * 1) hlen
 ·have h1:k * m<l.length:=by simp only [Iu] at h0;omega
  obtain ⟨ad,e,hb,hc⟩:=h.ok.rd.2 (by simp only;omega)
  injection e with e
  subst e
  refine ⟨_,rfl,hb,fun j u hu=>?_⟩
  have e1:(Iu b o m l k).l.flatMap Ar.cells=((l.map Row.v).drop (k * m)).take m:=by
   show ((l.drop (k * m)).take m).flatMap Ar.cells=_
   rw [Jy,List.map_take,List.map_drop]
  rw [e1] at hu
  rw [Qk] at hu
  split at hu
  ·rw [KN] at hu
   have:=hc (k * m+j) u (by rw [Jy];exact hu)
   rw [Qi] at this ⊢
   rw [Ns]
   exact this
  ·cases hu
 ·simp only [Iu];simp only at hn;unfold maxLen;omega
 ·simp only [Iu,Ar.bytes];simp only at hn;omega
 ·simp only [Iu];simp only at hn;omega
 ·have hr:r ∈ EH ((l.drop (k * m)).take m):=hr
  rw [Qq] at hr
  exact h.s r (QX (UX hr))
 ·show (EH ((l.drop (k * m)).take m)).flatten.length≤5000
  rw [Qq]
  exact Gm (vC _ _ _) h.t
abbrev I4 (w:World):={x:Row (Row AV) // Qh w x}
theorem ZA (n:Nat) (hn:1≤n) (Bs Bn b o c ln m:Nat) (l:List (Row AV)) (w0 w:World) (hx:Qh w0 ⟨some ⟨b,o,none⟩,ln,c,l⟩) (hm1:1≤m) (hm2:m≤9223372036854775807)
 (hs:Bs<w.heap.size) (hb:Bn<w.heap.size) (J8:w.cell? ⟨Bs,0,none⟩=some (.slice (some ⟨b,o,none⟩) ln c)) (hBn:w.cell? ⟨Bn,0,none⟩=some (.int .i64 m)):
 SeqStopsK Fence.wide n prog 182 #[.pointer (some ⟨Bs,0,none⟩),.pointer (some ⟨Bn,0,none⟩)] (fun x:I4 w0=>#[x.1.v]) (Jn Bs Bn)
  (fun xs=>∃ k,l.length≤k * m∧(k=0∨(k - 1) * m<l.length)∧xs=upto (fun j=>(⟨Iu b o m l j,Yd hx j⟩:I4 w0)) k) (fun _=>True) l.length w:=fun lp J Jx W hW hJ _ hY h0=>by
 have hl:l.length=ln:=hx.ok.len
 have hc:=hx.ok.le
 have hc2:=hx.ok.cap
 have Wo:=hx.n
 unfold maxLen at hc2
 subst hl
 refine (mQ n hn lp Bs Bn b o c m l hm1 hm2 Wo hc hc2 (fun x=>Qh w0 x) (Yd hx) J Jx (fun s A B hA hg=>hJ s A B none hA hg (fun r e=>by cases e)) hY W ((hW.cell (p:=⟨Bs,0,none⟩) hs).trans J8) ((hW.cell (p:=⟨Bn,0,none⟩) hb).trans hBn) h0).mono ?_
 rintro e W' ⟨he,⟨k,ys,h1,h2,rfl,hj⟩|⟨pre,hj⟩⟩
 ·exact ⟨he,.inl ⟨_,⟨k,h1,h2,rfl⟩,hj⟩⟩
 ·exact ⟨he,.inr ⟨_,trivial,hj⟩⟩
def marks (ds:List Nat):List Deferred:=ds.map fun D=>{ target:=.collected D,args:=#[] }
def nJ (base:Nat) (w:World) (ds:List Nat):Prop:=ds.Nodup∧∀ D ∈ ds,base≤D∧w.heap[D]?=some (.deferred (some []))
theorem TQ {F:Fence} {n:Nat} {P:Program} {fn:Func} {tmps:Array Value} {R:Ending→World→Prop} {base:Nat} {I:World→Prop}
 (hI:∀ w D,I w→base≤D→w.heap[D]?=some (.deferred (some []))→I (w.putObj D (.deferred none))) (hend:∀ w,I w→LeavesIn F n P fn tmps R [] .returning w):
 ∀ (ds:List Nat) (w:World),I w→nJ base w ds→LeavesInM F n P fn tmps R (marks ds) .returning w:=by
 intro ds
 induction ds with
 |nil=>intro w hi _;exact hend w hi
 |cons D ds ih=>
  intro w hi hm
  have hD:=hm.2 D (Dr ..)
  have hnd:=Su.1 hm.1
  refine ⟨by simp,.inl ⟨D,_,rfl,run_takeDeferred hD.2,ih _ (hI w D hi hD.1 hD.2) ⟨hnd.2,fun E hE=>?_⟩⟩⟩
  have h1:=hm.2 E (EO _ hE)
  refine ⟨h1.1,?_⟩
  have hne:D≠E:=fun e=>hnd.1 (e ▸ hE)
  rw [←h1.2]
  simp [World.putObj,hne]
attribute [local go_sem] Oper.semAt_some
def gL (l:List BS) (k:Nat) (w:World) (e:Ending) (w':World):Prop:=∃ v fs,e=.returned (.tuple #[v,.int .i64 k,.int .i64 0])∧Im w w' v fs∧cons fs=l
def rowLen:Value→Nat
 |.slice _ m _=>m
 |_=>0
theorem VG (FK:Nat):∀ (f n:Nat),Oq FK f n≤f
 |0,_=>BZ _
 |f+1,n=>by
  rw [Oq]
  split
  ·omega
  ·have:=VG FK f ((n+FK - 1) / FK)
   omega
structure PIn (FK:Nat) (w0:World) (N:Nat) (R:List (List BS)) (wr:World) (m k c:Nat) (A:Option Addr) (rs:List (Row AV)) (ds:List Nat):Prop where
 good:Qh wr ⟨A,m,c,rs⟩
 Au:Aj w0 wr
 cnt:k+NF FK m=NF FK N
 kN:k≤1000000
 srt:AZ (EH rs).flatten=AZ R.flatten
 Z6:nJ w0.heap.size wr ds
theorem Im.put {w0 w:World} {v:Value} {fs:List AV} (h:Im w0 w v fs) {D:Nat} (hD:w0.heap.size≤D) (hK:w.heap[D]?=some (.deferred (some []))):Im w0 (w.putObj D (.deferred none)) v fs:=by
 have hg:=grownBy_putObj' w D (.deferred none)
 have hr:∀ r,some D=some r→∃ o:Obj,w.heap[r]?=some o∧o.isCells=false:=fun r e=>by injection e with e;subst e;exact ⟨_,hK,rfl⟩
 have hck:Ck w (w.putObj D (.deferred none)):=⟨hg.size,fun p u hp=>cell_kept hp hg hr⟩
 refine ⟨Below.trans h.Au (belowK_b (w:=w0) (BZ _) w D _ _ hD hK rfl rfl),?_,fun f hf=>D5 (h.ok f hf) hck,h.away,h.new⟩
 have hq:=ownsRow_putObj h.own (.deferred none) hK rfl
 exact hq
theorem sF (n:Nat) (hn:4≤n) (FK:Nat) (x:Row (Row AV)) (w:World) (hx:Qh w x) (hf:2≤FK) (hf2:FK≤9223372036854775807):
 CallsIn Fence.wide n prog 107 #[.int .i64 FK,.slice x.A x.n x.c] w (gL (AZ (EH x.l).flatten) (NF FK x.n) w):=by
 have h1:1≤n:=by omega
 have d:decide ((FK:Int)<2)=false:=by simp<;>omega
 refine callsIn_of_wp_marks func107 rfl trivial ?_ rfl
 simp only [ntmps107,PG,CZ,KM,Nat.reduceAdd,Nat.reduceSub,PK,PL,PE,PH,Fy,IQ]
 obtain ⟨XA,XN,XC,XL⟩:=x
 simp only at *
 obtain ⟨R,hR⟩:∃ R,R=EH XL:=⟨_,rfl⟩
 rw [←hR]
 have HI0:Hid (PIn FK w XN R w XN 0 XC XA XL []):=⟨hx,Aj.refl _,by omega,by omega,by rw [hR],⟨List.nodup_nil,fun D hD=>by cases hD⟩⟩
 have hXN:XN≤5000:=hx.n
 clear hx hR
 gi_wp2_with fail
 refine wpIn_loop (fun a wr=>∃ (m k c:Nat) (A:Option Addr) (rs:List (Row AV)) (ds:List Nat) (u8 u12 u13 u14 u15 u16 u17 u18 u19 u26:Value),a={ tmps:=#[.int .i64 FK,.slice A m c,undef,undef,.slice none 0 0,.int .i64 0,.int .i64 0,.int .i64 k,u8,undef,.int .i64 FK,.bool false,u12,u13,u14,u15,u16,u17,u18,u19,undef,undef,undef,undef,undef,undef,u26,undef,undef,undef,undef,undef,undef,undef,undef,undef],defers:=marks ds }∧Hid (PIn FK w XN R wr m k c A rs ds)) (fun a _=>rowLen (a.tmps.getD 1 undef)) ?_ ?_
 ·exact ⟨XN,0,XC,XA,XL,[],undef,undef,undef,undef,undef,undef,undef,undef,undef,undef,rfl,HI0⟩
 clear HI0
 rintro a wr ⟨m,k,c,A,rs,ds,u8,u12,u13,u14,u15,u16,u17,u18,u19,u26,rfl,HI⟩
 by_cases hm:1<m
 ·have d1:decide ((1:Int)<m)=true:=by simp<;>omega
  have hlen:rs.length=m:=HI.good.ok.len
  have hm1000:m≤5000:=HI.good.n
  obtain ⟨b,o,hA⟩:∃ b o,A=some ⟨b,o,none⟩:=by
   obtain ⟨b,o,_,e,_⟩:=XV HI.good.ok.rd (k:=0) (by show 0<m;omega)
   exact ⟨b,o,e⟩
  subst hA
  have Hl:=Aa hlen
  clear hlen
  gi_wp2_with fail
  refine ⟨trivial,?_⟩
  refine (vN (n - 1) _ _ _ FK (by omega) _).mono ?_;rintro e w' ⟨rfl,rfl⟩
  gi_wp2
  have bO:=((Boxed.new wr 184 (.slice none 0 0)).alloc (.cells #[.slice (some ⟨b,o,none⟩) m c] 184)).alloc (.cells #[.int .i64 FK] 3)
  have bS:=(Boxed.new (wr.alloc (.cells #[.slice none 0 0] 184)) 184 (.slice (some ⟨b,o,none⟩) m c)).alloc (.cells #[.int .i64 FK] 3)
  have bN:=Boxed.new ((wr.alloc (.cells #[.slice none 0 0] 184)).alloc (.cells #[.slice (some ⟨b,o,none⟩) m c] 184)) 3 (.int .i64 FK)
  rw [Kl,Kl] at bN
  rw [Kl] at bS
  have hB0:Aj wr (((wr.alloc (.cells #[.slice none 0 0] 184)).alloc (.cells #[.slice (some ⟨b,o,none⟩) m c] 184)).alloc (.cells #[.int .i64 FK] 3)):=(((Aj.refl wr).alloc _).alloc _).alloc _
  have hsz:(((wr.alloc (.cells #[.slice none 0 0] 184)).alloc (.cells #[.slice (some ⟨b,o,none⟩) m c] 184)).alloc (.cells #[.int .i64 FK] 3)).heap.size=wr.heap.size+3:=by simp
  generalize ((wr.alloc (.cells #[.slice none 0 0] 184)).alloc (.cells #[.slice (some ⟨b,o,none⟩) m c] 184)).alloc (.cells #[.int .i64 FK] 3)=W0 at *
  have HsO:=Aa bO
  obtain ⟨i0,hi0,hz0,hz1,hz2⟩:=info_parts SS
  have Hi0:=Aa hi0
  have Hz0:=Aa hz0
  have Hz1:=Aa hz1
  have Hz2:=Aa hz2
  clear hi0 hz0 hz1 hz2
  have P0:Parts W0 W0 wr.heap.size (.slice none 0 0) []:=⟨bO,⟨rfl,.inl ⟨rfl,rfl⟩⟩,by simp,by simp,by simp⟩
  have hne1:wr.heap.size+1<W0.heap.size:=by omega
  have hne2:wr.heap.size+1+1<W0.heap.size:=by omega
  have Hsz:=Aa hsz
  clear hsz bO
  refine wpIn_rangeFunc_ownG rfl h1 (gf:=182) (lb:=#[.pointer (some ⟨wr.heap.size+1,0,none⟩),.pointer (some ⟨wr.heap.size+1+1,0,none⟩)]) rfl trivial (enters_of func182 (by kernel_rfl) rfl)
   (ZA (n - 1) (by omega) (wr.heap.size+1) (wr.heap.size+1+1) b o c m FK rs wr W0 HI.good (by omega) hf2 hne1 hne2 bS.cell bN.cell) Jn.trans (fun W l o o' hl _ _ _=>Nh (by omega) (by omega)) (Below.refl _ _) (fun _=>rfl)
   (fun pre W=>(∃ v rs',Parts W0 W wr.heap.size v rs'∧Hid (rs'.map (fun r=>cons r.l)=pre.map (fun x=>AZ (EH x.1.l).flatten))∧Hid (∀ r ∈ rs',r.n≤5000))∧Below wr.heap.size wr W∧W0.heap.size≤W.heap.size)
   (fun _ _ _=>False)
   (fun s A B row hs hg hr=>by
    obtain ⟨⟨v,rs',h1,h2,h3⟩,h4,h5⟩:=hs
    exact ⟨⟨v,rs',h1.kept hg (fun r e=>(hr r e).2),h2,h3⟩,h4.grown hg h4.size (fun k e=>Gm (by omega) (hr k e).1),Gm h5 hg.size⟩)
   (fun _ _ _ _ _ hs _ _=>hs)
   ⟨⟨_,[],P0,rfl,fun r h=>by simp at h⟩,hB0,BZ _⟩
   (fun x=>{ tmps:=#[.int .i64 FK,.slice (some ⟨b,o,none⟩) m c,undef,undef,.slice none 0 0,.int .i64 0,.int .i64 0,.int .i64 k,.pointer (some ⟨wr.heap.size,0,none⟩),x.1.v,.int .i64 FK,.bool false,.slice (some ⟨b,o,none⟩) m c,.int .i64 m,.bool true,u15,u16,.slice (some ⟨b,o,none⟩) m c,.int .i64 FK,.func (.func 182) #[] #[.pointer (some ⟨wr.heap.size+1,0,none⟩),.pointer (some ⟨wr.heap.size+1+1,0,none⟩)],x.1.v,undef,undef,undef,undef,undef,u26,undef,undef,undef,undef,undef,undef,undef,undef,undef],defers:=[] }) ?assign ?body ?done ?stop
  case assign=>
   intro l x W K hK
   gi_wp2
   exact hK
  case body=>
   rintro lp pre x W ⟨⟨v,rs,hP,hcon,hrn⟩,hB,hW0⟩ hlt
   obtain ⟨⟨xA,xn,xc,xl⟩,hxo⟩:=x
   simp only [Row.v] at *
   have hd:1≤n - 1 - 1:=by omega
   have hmx:prog.follows .mixedOrders=true:=by kernel_rfl
   have hc:=hP.box.cell
   have hBw:Aj wr W.drew:=(show Aj wr W from hB).drew
   have Hxo:Hid (Qh W.drew ⟨xA,xn,xc,xl⟩):=⟨hxo.ok.mono hBw,hxo.n,hxo.s,hxo.t⟩
   have hlen:rs.length=pre.length:=by have:=Cm List.length hcon.Ab;simpa using this
   have hpl:pre.length≤5000:=by have:=Hl.Ab;omega
   have Hlen:=Aa hlen
   clear hlen
   have hPd:Parts W0 W.drew wr.heap.size v rs:=hP.keep (Aj.refl W).drew
   gi_wp2
   refine wpIn_region_any (by kernel_rfl) ?_
   refine wpAnyIn_ready (rs:=[0,1]) (by kernel_rfl) (by simp) ?_
   refine AllReadyIn.cons rfl (fun K hK=>?_) (AllReadyIn.cons rfl (fun K hK=>?_) AllReadyIn.nil)
   ·go_simp
    refine hK _ _ ?_;clear hK K
    refine wpAnyIn_ready (rs:=[1]) (by kernel_rfl) (by simp) ?_
    refine AllReadyIn.cons rfl (fun K hK=>?_) AllReadyIn.nil
    go_simp
    refine hK _ _ ?_;clear hK K
    refine wpAnyIn_ready (rs:=[2]) (by kernel_rfl) (by simp) ?_
    refine AllReadyIn.cons rfl (fun K hK=>?_) AllReadyIn.nil
    go_simp
    refine ⟨trivial,?_⟩
    refine (CallsIn.inRound lp (LJ.2 (SQ _ ⟨xA,xn,xc,xl⟩ Hxo.ok Hxo.n (by have:=Hxo.t;omega) Hxo.s))).mono ?_
    rintro e w2 ⟨cv,fs,rfl,OB,EK⟩
    obtain ⟨⟨yA,yn,yc,yl⟩,rfl,WZ,hyl,hyn⟩:=La OB (by have h1:=Cm List.length EK;rw [AL,EW] at h1;have h2:=Hxo.t;simp only at h1 h2;omega)
    have hP2:=hPd.keep OB.Au
    have hP3:=hP2.keep ((Aj.refl w2).alloc (.cells #[.slice yA yn yc] 54))
    have hc2:=hP2.box.cell
    have hc3:=hP3.box.cell
    obtain ⟨v',w4,hrun,Jb,hg4,SX⟩:=EI (P:=prog) (w2.alloc (.cells #[.slice yA yn yc] 54)) W0.heap.size 184 184 54 i0 (.slice none 0 0) 1 24 underlying184 Hi0 Hz0 Hz1 Hz2 rfl (by decide) v rs.length (rs.map Row.v) hP3.own _ (some ⟨w2.heap.size,0,none⟩) 1 1 [.slice yA yn yc] (KT w2 _ _ 1 1 rfl) (by simp [Value.oneCell']) (by unfold maxLen;rw [Hlen.Ab];omega) (by rw [Hlen.Ab];omega) (by have:=OB.Au.size;simp at this ⊢;omega)
    obtain ⟨g',cap',rfl⟩:=ownsRow_succ Jb
    have Kb:=hP3.box.kept hg4 (hP3.box.not_row (by decide) hP3.own)
    have hc4:=Kb.cell
    have hf4:=Kb.frozen
    have Tn:=Aa hrun
    clear hrun
    simp only [Row.v]
    refine hK _ _ ?_;clear hK K
    refine wpAnyIn_ready (rs:=[3]) (by kernel_rfl) (by simp) ?_
    refine AllReadyIn.cons rfl (fun K hK=>?_) AllReadyIn.nil
    go_simp
    refine hK _ _ ?_;clear hK K
    refine wpAnyIn_ready (rs:=[4]) (by kernel_rfl) (by simp) ?_
    refine AllReadyIn.cons rfl (fun K hK=>?_) AllReadyIn.nil
    refine EB rfl (.tmp 21) (.tmp 24) _ rfl _ _ rfl rfl Tn.Ab ?_
    refine hK _ _ ?_;clear hK K
    refine wpAnyIn_ready (rs:=[5]) (by kernel_rfl) (by simp) ?_
    refine AllReadyIn.cons rfl (fun K hK=>?_) AllReadyIn.nil
    go_simp
    refine hK _ _ ?_;clear hK K
    refine wpAnyIn_done (by kernel_rfl) ?_ _
    obtain ⟨k1,k2,k3,k4,k5⟩:=IK hne1 hne2 (by omega) hP hW0 (show Aj wr W from hB) OB WZ hyl hP3 Jb hg4 SX Kb
    refine ⟨k1,k2,⟨_,rs++[⟨yA,yn,yc,yl⟩],k3,?_,?_⟩,k4,k5⟩
    ·show _=_
     rw [BR,BR,hcon.Ab]
     have e1:cons yl=AZ (EH xl).flatten:=by have h1:yl=fs:=hyl;rw [h1];exact EK
     simp only [DI,EF,e1]
    ·intro r hr
     rcases DT.1 hr with h|h
     ·exact hrn r h
     ·rw [Dt] at h
      subst h
      have h1:=Cm List.length EK
      rw [AL,EW] at h1
      have h2:=Hxo.t
      simp only at h1 h2 hyn ⊢
      omega
   ·go_simp
    refine hK _ _ ?_;clear hK K
    refine wpAnyIn_ready (rs:=[0,2]) (by kernel_rfl) (by simp) ?_
    refine AllReadyIn.cons rfl (fun K hK=>?_) (AllReadyIn.cons rfl (fun K hK=>?_) AllReadyIn.nil)
    ·go_simp
     refine hK _ _ ?_;clear hK K
     refine wpAnyIn_ready (rs:=[2]) (by kernel_rfl) (by simp) ?_
     refine AllReadyIn.cons rfl (fun K hK=>?_) AllReadyIn.nil
     go_simp
     refine ⟨trivial,?_⟩
     refine (CallsIn.inRound lp (LJ.2 (SQ _ ⟨xA,xn,xc,xl⟩ Hxo.ok Hxo.n (by have:=Hxo.t;omega) Hxo.s))).mono ?_
     rintro e w2 ⟨cv,fs,rfl,OB,EK⟩
     obtain ⟨⟨yA,yn,yc,yl⟩,rfl,WZ,hyl,hyn⟩:=La OB (by have h1:=Cm List.length EK;rw [AL,EW] at h1;have h2:=Hxo.t;simp only at h1 h2;omega)
     have hP2:=hPd.keep OB.Au
     have hP3:=hP2.keep ((Aj.refl w2).alloc (.cells #[.slice yA yn yc] 54))
     have hc2:=hP2.box.cell
     have hc3:=hP3.box.cell
     obtain ⟨v',w4,hrun,Jb,hg4,SX⟩:=EI (P:=prog) (w2.alloc (.cells #[.slice yA yn yc] 54)) W0.heap.size 184 184 54 i0 (.slice none 0 0) 1 24 underlying184 Hi0 Hz0 Hz1 Hz2 rfl (by decide) v rs.length (rs.map Row.v) hP3.own _ (some ⟨w2.heap.size,0,none⟩) 1 1 [.slice yA yn yc] (KT w2 _ _ 1 1 rfl) (by simp [Value.oneCell']) (by unfold maxLen;rw [Hlen.Ab];omega) (by rw [Hlen.Ab];omega) (by have:=OB.Au.size;simp at this ⊢;omega)
     obtain ⟨g',cap',rfl⟩:=ownsRow_succ Jb
     have Kb:=hP3.box.kept hg4 (hP3.box.not_row (by decide) hP3.own)
     have hc4:=Kb.cell
     have hf4:=Kb.frozen
     have Tn:=Aa hrun
     clear hrun
     simp only [Row.v]
     refine hK _ _ ?_;clear hK K
     refine wpAnyIn_ready (rs:=[3]) (by kernel_rfl) (by simp) ?_
     refine AllReadyIn.cons rfl (fun K hK=>?_) AllReadyIn.nil
     go_simp
     refine hK _ _ ?_;clear hK K
     refine wpAnyIn_ready (rs:=[4]) (by kernel_rfl) (by simp) ?_
     refine AllReadyIn.cons rfl (fun K hK=>?_) AllReadyIn.nil
     refine EB rfl (.tmp 21) (.tmp 24) _ rfl _ _ rfl rfl Tn.Ab ?_
     refine hK _ _ ?_;clear hK K
     refine wpAnyIn_ready (rs:=[5]) (by kernel_rfl) (by simp) ?_
     refine AllReadyIn.cons rfl (fun K hK=>?_) AllReadyIn.nil
     go_simp
     refine hK _ _ ?_;clear hK K
     refine wpAnyIn_done (by kernel_rfl) ?_ _
     obtain ⟨k1,k2,k3,k4,k5⟩:=IK hne1 hne2 (by omega) hP hW0 (show Aj wr W from hB) OB WZ hyl hP3 Jb hg4 SX Kb
     refine ⟨k1,k2,⟨_,rs++[⟨yA,yn,yc,yl⟩],k3,?_,?_⟩,k4,k5⟩
     ·show _=_
      rw [BR,BR,hcon.Ab]
      have e1:cons yl=AZ (EH xl).flatten:=by have h1:yl=fs:=hyl;rw [h1];exact EK
      simp only [DI,EF,e1]
     ·intro r hr
      rcases DT.1 hr with h|h
      ·exact hrn r h
      ·rw [Dt] at h
       subst h
       have h1:=Cm List.length EK
       rw [AL,EW] at h1
       have h2:=Hxo.t
       simp only at h1 h2 hyn ⊢
       omega
    ·skip
     go_simp
     refine ⟨trivial,?_⟩
     refine (CallsIn.inRound lp (LJ.2 (SQ _ ⟨xA,xn,xc,xl⟩ Hxo.ok Hxo.n (by have:=Hxo.t;omega) Hxo.s))).mono ?_
     rintro e w2 ⟨cv,fs,rfl,OB,EK⟩
     obtain ⟨⟨yA,yn,yc,yl⟩,rfl,WZ,hyl,hyn⟩:=La OB (by have h1:=Cm List.length EK;rw [AL,EW] at h1;have h2:=Hxo.t;simp only at h1 h2;omega)
     have hP2:=hPd.keep OB.Au
     have hP3:=hP2.keep ((Aj.refl w2).alloc (.cells #[.slice yA yn yc] 54))
     have hc2:=hP2.box.cell
     have hc3:=hP3.box.cell
     obtain ⟨v',w4,hrun,Jb,hg4,SX⟩:=EI (P:=prog) (w2.alloc (.cells #[.slice yA yn yc] 54)) W0.heap.size 184 184 54 i0 (.slice none 0 0) 1 24 underlying184 Hi0 Hz0 Hz1 Hz2 rfl (by decide) v rs.length (rs.map Row.v) hP3.own _ (some ⟨w2.heap.size,0,none⟩) 1 1 [.slice yA yn yc] (KT w2 _ _ 1 1 rfl) (by simp [Value.oneCell']) (by unfold maxLen;rw [Hlen.Ab];omega) (by rw [Hlen.Ab];omega) (by have:=OB.Au.size;simp at this ⊢;omega)
     obtain ⟨g',cap',rfl⟩:=ownsRow_succ Jb
     have Kb:=hP3.box.kept hg4 (hP3.box.not_row (by decide) hP3.own)
     have hc4:=Kb.cell
     have hf4:=Kb.frozen
     have Tn:=Aa hrun
     clear hrun
     simp only [Row.v]
     refine hK _ _ ?_;clear hK K
     refine wpAnyIn_ready (rs:=[0,3]) (by kernel_rfl) (by simp) ?_
     refine AllReadyIn.cons rfl (fun K hK=>?_) (AllReadyIn.cons rfl (fun K hK=>?_) AllReadyIn.nil)
     ·go_simp
      refine hK _ _ ?_;clear hK K
      refine wpAnyIn_ready (rs:=[3]) (by kernel_rfl) (by simp) ?_
      refine AllReadyIn.cons rfl (fun K hK=>?_) AllReadyIn.nil
      go_simp
      refine hK _ _ ?_;clear hK K
      refine wpAnyIn_ready (rs:=[4]) (by kernel_rfl) (by simp) ?_
      refine AllReadyIn.cons rfl (fun K hK=>?_) AllReadyIn.nil
      refine EB rfl (.tmp 21) (.tmp 24) _ rfl _ _ rfl rfl Tn.Ab ?_
      refine hK _ _ ?_;clear hK K
      refine wpAnyIn_ready (rs:=[5]) (by kernel_rfl) (by simp) ?_
      refine AllReadyIn.cons rfl (fun K hK=>?_) AllReadyIn.nil
      go_simp
      refine hK _ _ ?_;clear hK K
      refine wpAnyIn_done (by kernel_rfl) ?_ _
      obtain ⟨k1,k2,k3,k4,k5⟩:=IK hne1 hne2 (by omega) hP hW0 (show Aj wr W from hB) OB WZ hyl hP3 Jb hg4 SX Kb
      refine ⟨k1,k2,⟨_,rs++[⟨yA,yn,yc,yl⟩],k3,?_,?_⟩,k4,k5⟩
      ·show _=_
       rw [BR,BR,hcon.Ab]
       have e1:cons yl=AZ (EH xl).flatten:=by have h1:yl=fs:=hyl;rw [h1];exact EK
       simp only [DI,EF,e1]
      ·intro r hr
       rcases DT.1 hr with h|h
       ·exact hrn r h
       ·rw [Dt] at h
        subst h
        have h1:=Cm List.length EK
        rw [AL,EW] at h1
        have h2:=Hxo.t
        simp only at h1 h2 hyn ⊢
        omega
     ·go_simp
      refine hK _ _ ?_;clear hK K
      refine wpAnyIn_ready (rs:=[0]) (by kernel_rfl) (by simp) ?_
      refine AllReadyIn.cons rfl (fun K hK=>?_) AllReadyIn.nil
      go_simp
      refine hK _ _ ?_;clear hK K
      refine wpAnyIn_ready (rs:=[4]) (by kernel_rfl) (by simp) ?_
      refine AllReadyIn.cons rfl (fun K hK=>?_) AllReadyIn.nil
      refine EB rfl (.tmp 21) (.tmp 24) _ rfl _ _ rfl rfl Tn.Ab ?_
      refine hK _ _ ?_;clear hK K
      refine wpAnyIn_ready (rs:=[5]) (by kernel_rfl) (by simp) ?_
      refine AllReadyIn.cons rfl (fun K hK=>?_) AllReadyIn.nil
      go_simp
      refine hK _ _ ?_;clear hK K
      refine wpAnyIn_done (by kernel_rfl) ?_ _
      obtain ⟨k1,k2,k3,k4,k5⟩:=IK hne1 hne2 (by omega) hP hW0 (show Aj wr W from hB) OB WZ hyl hP3 Jb hg4 SX Kb
      refine ⟨k1,k2,⟨_,rs++[⟨yA,yn,yc,yl⟩],k3,?_,?_⟩,k4,k5⟩
      ·show _=_
       rw [BR,BR,hcon.Ab]
       have e1:cons yl=AZ (EH xl).flatten:=by have h1:yl=fs:=hyl;rw [h1];exact EK
       simp only [DI,EF,e1]
      ·intro r hr
       rcases DT.1 hr with h|h
       ·exact hrn r h
       ·rw [Dt] at h
        subst h
        have h1:=Cm List.length EK
        rw [AL,EW] at h1
        have h2:=Hxo.t
        simp only at h1 h2 hyn ⊢
        omega
  case done=>
   rintro D ys W hD ⟨K,hk1,hk2,rfl⟩ ⟨⟨v,rs',hP,hcon,hrn⟩,hB,hW0⟩ hK
   have hstep:=kE hf hm (K:=K) (by rw [←Hl.Ab];exact hk1) (by rw [←Hl.Ab];exact hk2)
   have HST:=Aa hstep
   have hrl:EH rs'=upto (fun j=>AZ (((EH rs).drop (j * FK)).take FK).flatten) K:=by
    have h:=hcon.Ab
    rw [aK] at h
    show rs'.map (fun r=>cons r.l)=_
    rw [h]
    congr 1
    funext j
    show AZ (EH ((rs.drop (j * FK)).take FK)).flatten=_
    rw [Qq]
   have hKl:rs'.length=K:=by have h:=Cm List.length hrl;rw [Cq,IB] at h;exact h
   obtain ⟨A',c',rfl,hle⟩:=Ao hP.own
   have hRK:(EH rs).length≤K * FK:=by rw [Cq];exact hk1
   have HNew:Hid (PIn FK w XN R W K (k+1) c' A' rs' (D::ds)):=by
    refine ⟨⟨Rz (x:=⟨A',K,c',rs'⟩) (by rw [Jy];have h:=hP.own;rw [hKl] at h;exact h) (fun r hr=>hP.ok r hr) (by show K * 24≤_;omega),by show K≤5000;omega,fun r hr=>?_,?_⟩,Below.trans HI.Au (hB.mono HI.Au.size),?_,?_,?_,?_,?_⟩
    ·have hr:r ∈ EH rs':=hr
     rw [hrl] at hr
     obtain ⟨j,_,rfl⟩:=GZ.1 hr
     exact Rf _
    ·show (EH rs').flatten.length≤5000
     rw [hrl,mP _ _ _ hRK]
     exact HI.good.t
    ·have:=HI.cnt;omega
    ·have:=HI.cnt;have h2:NF FK XN≤XN:=VG FK XN XN;show k+1≤1000000;omega
    ·rw [hrl,fE _ _ _ hRK]
     exact HI.srt
    ·refine Su.2 ⟨fun hm2=>?_,HI.Z6.1⟩
     have h:=(UZ.1 (HI.Z6.2 D hm2).2).1
     omega
    ·intro E hE
     rcases En.1 hE with rfl|hE
     ·exact ⟨by have:=HI.Au.size;omega,hK⟩
     ·have h:=HI.Z6.2 E hE
      exact ⟨h.1,by rw [←h.2];exact hB.block E (UZ.1 h.2).1⟩
   have hc:=hP.box.cell
   rw [hKl] at hc
   have hkk:k≤5000:=by have:=HI.cnt;have h2:NF FK XN≤XN:=VG FK XN XN;omega
   clear hrl hcon hrn hP hk1 hk2 hstep hRK hle hKl
   gi_wp2
   exact ⟨⟨K,k+1,c',A',rs',D::ds,_,_,_,_,_,_,_,_,_,_,by first|rfl|(simp [marks];done),HNew⟩,by show K<m;exact HST.2⟩
  case stop=>
   rintro D c pre W _ _ h _
   exact h.elim
 ·have d1:decide ((1:Int)<m)=false:=by simp<;>omega
  have hcnt:k=NF FK XN:=by have h:=HI.cnt;rw [dB (by omega)] at h;omega
  have HCn:=Aa hcnt
  clear hcnt
  by_cases hm0:m=0
  ·subst hm0
   have hrs:rs=[]:=Km HI.good.ok.len
   have HE:Hid (cons []=AZ R.flatten):=by show _=_;rw [←HI.srt,hrs];(try rfl)
   clear hrs
   gi_wp2
   refine TQ (base:=w.heap.size) (I:=fun w'=>Im w w' (.slice none 0 0) []) (fun w' D h h1 h2=>h.put h1 h2) (fun w' h=>?_) ds wr ⟨HI.Au,QW _ _ _ _,by simp,by simp,by simp⟩ HI.Z6
   refine ⟨.tuple #[.slice none 0 0,.int .i64 k,.int .i64 0],by kernel_rfl,.slice none 0 0,[],by rw [HCn.Ab],h,HE.Ab⟩
  ·obtain rfl:m=1:=by omega
   obtain ⟨b,o,r,hA,hr,q1⟩:=OO rfl HI.good.ok.rd (k:=0) (by show 0<1;omega)
   simp only at hA
   subst hA
   have q1:=q1 _ rfl
   rw [Jk] at q1
   have hl1:rs.length=1:=HI.good.ok.len
   have hrs:rs=[r]:=by
    match rs,hl1,hr with
    |[z],_,h=>injection h with h;rw [h]
   have hsr:AZ (cons r.l)=cons r.l:=qU (HI.good.s _ (by rw [hrs];exact Dt.2 rfl))
   have HE:Hid (cons r.l=AZ R.flatten):=by
    show _=_
    rw [←HI.srt,hrs]
    show cons r.l=AZ ([cons r.l].flatten)
    rw [List.flatten_singleton,hsr]
   have hrok:r.ok wr:=HI.good.ok.all r (by rw [hrs];exact Dt.2 rfl)
   have hrn:r.n≤5000:=by
    have h:=HI.good.t
    rw [hrs] at h
    have h:([cons r.l].flatten).length≤5000:=h
    rw [List.flatten_singleton,AL,hrok.len] at h
    exact h
   have HCl:=Aa (Jz r wr hrok (by omega))
   clear hrs hl1 hsr hrok hr
   obtain ⟨RA,rn,rc,rl⟩:=r
   simp only [Row.v] at *
   gi_wp2_with fail
   refine ⟨trivial,?_⟩
   refine (LJ.2 HCl.Ab).mono ?_;rintro e w2 ⟨v,fs,rfl,hG,hc⟩
   have HG:=Aa (hG.from_ HI.Au)
   have HM:Hid (nJ w.heap.size w2 ds):=⟨HI.Z6.1,fun D hD=>⟨(HI.Z6.2 D hD).1,by rw [←(HI.Z6.2 D hD).2];exact hG.Au.block D (UZ.1 (HI.Z6.2 D hD).2).1⟩⟩
   have HE2:Hid (cons fs=AZ R.flatten):=by show _=_;rw [hc];exact HE.Ab
   clear hG hc
   gi_wp2
   refine TQ (base:=w.heap.size) (I:=fun w'=>Im w w' v fs) (fun w' D h h1 h2=>h.put h1 h2) (fun w' h=>?_) ds w2 HG HM.Ab
   refine ⟨.tuple #[v,.int .i64 k,.int .i64 0],by kernel_rfl,v,fs,by rw [HCn.Ab],h,HE2.Ab⟩
end Go.Proofs.YtijplolmkcdflaaGreat
namespace Go.Proofs.YtijplolmkcdflaaGreat
open Tryz
open Go.RowKit
theorem bD {l q:List AV} (h:cons l=cons q):Mc l q=true:=by
 unfold Mc
 rw [h]
 exact UU rfl
theorem kD (FK:Nat) (x:Row (Row AV)) (w:World) (hx:Qh w x) (hf:2≤FK) (hf2:FK≤9223372036854775807):
 Calls prog 107 #[.int .i64 FK,.slice x.A x.n x.c] w (gL (AZ (EH x.l).flatten) (NF FK x.n) w):=LJ.1 (sF 4 (BZ _) FK x w hx hf hf2)
theorem GG.good {w0 w:World} {v:Value} {rs:List (Row AV)} {l:List BS} {m K:Nat} (h:GG w0 w v rs) (hr:rs.map (fun r=>cons r.l)=upto (fun j=>AZ ((l.drop (j * m)).take m)) K) (h1:l.length≤K * m) (h2:K=0∨(K - 1) * m<l.length) (hm:1≤m) (hl:l.length≤5000):
 ∃ x:Row (Row AV),v=.slice x.A x.n x.c∧Qh w x∧AZ (EH x.l).flatten=AZ l:=by
 obtain ⟨A,c,rfl,hc⟩:=Ao h.own
 have hK:rs.length=K:=by have h:=Cm List.length hr;rw [Cq,IB] at h;exact h
 have hK2:K≤5000:=by
  rcases h2 with rfl|h2
  ·omega
  ·have:(K - 1) * 1≤(K - 1) * m:=Nat.mul_le_mul_left _ hm
   omega
 have e1:EH rs=(upto (fun j=>(l.drop (j * m)).take m) K).map AZ:=by show rs.map (fun r=>cons r.l)=_;rw [hr];simp [upto,UO,YK]
 refine ⟨⟨A,rs.length,c,rs⟩,rfl,⟨Rz (x:=⟨A,rs.length,c,rs⟩) (by rw [Jy];exact h.own) (fun r hr=>(h.all r hr).1) (by show rs.length * 24≤_;omega),by show rs.length≤_;omega,fun r hr=>?_,?_⟩,?_⟩
 ·have hr:r ∈ EH rs:=hr
  rw [e1] at hr
  obtain ⟨j,_,rfl⟩:=GZ.1 hr
  exact Rf _
 ·show (EH rs).flatten.length≤5000
  rw [e1,Qc,LB,Fa]
  omega
 ·show AZ (EH rs).flatten=_
  rw [e1,Vj,LB,DY h1]
def V3 (l:List BS) (w:World) (e:Ending) (w':World):Prop:=∃ v fs,e=.returned (.tuple #[v,.int .i64 0])∧Im w w' v fs∧cons fs=AZ l
theorem tX (m FK:Nat) (hm1:1≤m) (hm2:m≤9223372036854775807) (hf:2≤FK) (hf2:FK≤9223372036854775807) (x:Row AV) (w:World) (hx:x.ok w) (hn:x.n≤5000):
 Calls prog 67 #[.int .i64 m,.int .i64 FK,.slice x.A x.n x.c] w (V3 (cons x.l) w):=by
 have HR:=Aa (xZ m hm1 hm2 x w hx hn)
 have hxl:=hx.len
 have HL:Hid ((cons x.l).length≤5000):=by show _≤_;rw [AL];omega
 have ZV:Hid (x.l.length=(cons x.l).length):=(AL _).symm
 have HCD:Hid (∀ j,cons ((x.l.drop (j * m)).take m)=((cons x.l).drop (j * m)).take m):=fun j=>by rw [Tc,ME]
 generalize cons x.l=l at *
 obtain ⟨A,n,c,xl⟩:=x
 simp only [Row.v] at *
 clear hx
 go_enter func67,ntmps67
 go_wp2_with fail
 refine HR.mono ?_;rintro e w1 ⟨K,v,rs,h1,h2,rfl,hat,hrs⟩
 obtain ⟨X,rfl,hg,hs⟩:=hat.good (l:=l) (m:=m) (K:=K) (by rw [hrs];congr 1;funext j;rw [HCD.Ab]) (by rw [←ZV.Ab];exact h1) (by rw [←ZV.Ab];exact h2) hm1 HL.Ab
 have HB:=Aa hat.Au
 have HP:=Aa (kD FK X w1 hg hf hf2)
 rw [hs] at HP
 obtain ⟨XA,XN,XC,XL⟩:=X
 simp only at *
 clear hat hrs h1 h2 hg hs HR
 go_wp2_with fail
 refine HP.mono ?_;rintro e w2 ⟨v,fs,rfl,hG,hc⟩
 have HG:=Aa (hG.from_ HB.Ab)
 have HC:=Aa hc
 clear hG hc HP
 go_wp2
 go_ret2
 exact ⟨v,fs,rfl,HG.Ab,HC.Ab⟩
theorem uV {X:List AV} {k:Nat} {f:AV} (h:X[k]?=some f) (acc:List BS):Ew acc (cons (X.drop k))=match Fp acc f.Ac with|none=>none|some a=>Ew a (cons (X.drop (k+1))):=by
 obtain ⟨h1,rfl⟩:=Ca.1 h
 rw [DZ h1]
 rfl
theorem qQ (c:BS):Fp [] c=some [c]:=rfl
theorem VZ {L:List AV} {m:Nat} {p:AV} (hl:L.length=m+1) (hp:L[m]?=some p):(cons L).getLast?=some p.Ac:=by
 rw [List.getLast?_eq_getElem?,AL,hl]
 show (L.map AV.Ac)[m]?=_
 rw [DD,hp]
 rfl
theorem qR {L:List AV} {m:Nat} {p f:AV} (hl:L.length=m+1) (hp:L[m]?=some p) (h:Cu p.ks.l f.ks.l≠0):Fp (cons L) f.Ac=some (cons (L++[f])):=by
 unfold Fp
 rw [VZ hl hp]
 simp only
 rw [Ah (show ¬ Cu p.Ac.1 f.Ac.1=0 from h)]
 simp [cons]
theorem jC {L:List AV} {m:Nat} {p f:AV} (hl:L.length=m+1) (hp:L[m]?=some p) (h:Cu p.ks.l f.ks.l=0) (hj:(p.ag.join f.ag).2=false):Fp (cons L) f.Ac=none:=by
 unfold Fp
 rw [VZ hl hp]
 simp only
 rw [Ak (show Cu p.Ac.1 f.Ac.1=0 from h),Ah]
 show ¬ (p.ag.join f.ag).2=true
 rw [hj]
 simp
theorem xQ {α:Type} {L:List α} {m:Nat} (hl:L.length=m+1) (y:α):L.set m y=L.dropLast++[y]:=by
 apply UJ
 intro j
 by_cases hj:j=m
 ·subst hj
  rw [LZ (by omega),NZ (by rw [UQ];omega),UQ,hl]
  simp
 ·rw [Nw (fun e=>hj e.symm)]
  by_cases hlt:j<m
  ·rw [Nz (by rw [UQ];omega),List.getElem?_dropLast,Ak (by omega)]
  ·rw [Gt (by omega),Gt (by rw [BQ,UQ];simp;omega)]
theorem jD {L:List AV} {m:Nat} {p f:AV} (hl:L.length=m+1) (hp:L[m]?=some p) (h:Cu p.ks.l f.ks.l=0) (hj:(p.ag.join f.ag).2=true):Fp (cons L) f.Ac=some (cons (L.set m ⟨p.ks,(p.ag.join f.ag).1⟩)):=by
 unfold Fp
 rw [VZ hl hp]
 simp only
 rw [Ak (show Cu p.Ac.1 f.Ac.1=0 from h),Ak (show (p.Ac.2.join f.Ac.2).2=true from hj)]
 rw [xQ hl]
 simp only [cons,BR,DI,EF,List.map_dropLast]
 rfl
theorem lY {l:List AV} {k:Nat} {p:AV} (hp:l[k]?=some p) (a:Ag) (j:Nat):
 ((l.set k ⟨p.ks,a⟩).flatMap Ar.cells)[j]?=if k * 11+1≤j∧j<k * 11+1+10 then a.cs.toList[j - (k * 11+1)]? else (l.flatMap Ar.cells)[j]?:=by
 have hk:=(Ca.1 hp).1
 rw [eT l k ⟨p.ks,a⟩ hk j]
 show (if k * 11≤j∧j<k * 11+11 then (Ar.cells (⟨p.ks,a⟩:AV))[j - k * 11]? else _)=_
 by_cases h1:k * 11+1≤j∧j<k * 11+1+10
 ·rw [Ak (by omega),Ak h1]
  obtain ⟨i,rfl⟩:∃ i,j=k * 11+1+i:=⟨j - (k * 11+1),by omega⟩
  rw [show k * 11+1+i - k * 11=i+1 by omega,show k * 11+1+i - (k * 11+1)=i by omega]
  rfl
 ·rw [Ah h1]
  by_cases h2:j=k * 11
  ·subst h2
   rw [Ak (by omega),Ql]
   have:=KI l k 0 p hp (by show 0<11;omega)
   rw [Jk] at this
   have h3:(l.flatMap Ar.cells)[k * 11]?=(Ar.cells p)[0]?:=this
   rw [h3]
   rfl
  ·rw [Ah (by omega)]
theorem sH {w:World} {base:Nat} {e:TypeId} {g n c:Nat} {l:List AV} (h:w.ownsRow base e 11 (.slice (some ⟨g,0,none⟩) n c) n (l.flatMap Ar.cells)) {k:Nat} {p:AV} (hp:l[k]?=some p) (a:Ag):
 (w.setCells g (k * 11+1) a.cs.toList).ownsRow base e 11 (.slice (some ⟨g,0,none⟩) n c) n ((l.set k ⟨p.ks,a⟩).flatMap Ar.cells):=by
 have hl:l.length=n:=FO (α:=AV) (Rd.Bf h)
 have hk:=(Ca.1 hp).1
 refine ⟨by rw [Dz,Qm,hl];(try rfl),?_⟩
 rcases h.2 with ⟨h0,_⟩|⟨g',cap,cur,hv,hb,hh,hn,hm,hs,ht⟩
 ·cases h0
 ·injection hv with h1 h2 h3
  injection h1 with h1
  injection h1 with h1
  subst h1 h3
  refine .inr ⟨g,c,Dp cur (k * 11+1) a.cs.toList,rfl,hb,Br.Dp a.cs.toList (k * 11+1) hh,hn,hm,by rw [Ll];exact hs,?_⟩
  apply UJ
  intro j
  rw [lY hp a j]
  have ha:a.cs.toList.length=10:=rfl
  have hns:n * 11≤cur.size:=by rw [hs];exact Nv _ hn
  by_cases hj:j<n * 11
  ·rw [Gu hj,UW,MV _ _ _ _ (by omega),ha]
   have h4:(l.flatMap Ar.cells)[j]?=cur[j]?:=by rw [←ht,Gu hj,UW]
   rw [h4]
  ·rw [Gt (by rw [Fa];omega),Ah (by omega),Gt (by rw [Dz,hl];show n * 11≤j;omega)]
theorem dC {w:World} {base:Nat} {e:TypeId} {g n c:Nat} {l:List AV} (h:w.ownsRow base e 11 (.slice (some ⟨g,0,none⟩) n c) n (l.flatMap Ar.cells)) {k:Nat} (hk:k<n):w.there g (k * 11+1) 10:=by
 have:=OT (α:=AV) h hk
 intro j hj
 have h2:=this (1+j) (by show 1+j<11;omega)
 have h3:k * Ar.size AV+(1+j)=k * 11+1+j:=by show k * 11+(1+j)=_;omega
 rw [h3] at h2
 exact h2
theorem Vb {P:Program} {ops:Array Oper} {rest:List Oper} {op:Oper} {a:Act} {w:World} {Q:Exit→Act→World→Prop} (hgd:op.guard=none) {ty:TypeId} (R:DV P ty 10) (x y:Operand) (ho:op.op=.store ty x y)
 {base:Nat} {e:TypeId} {g n c:Nat} {l:List AV} (k:Nat) (hx:a.eval x=.pointer (some ⟨g,k * 11+1,none⟩)) (h:w.ownsRow base e 11 (.slice (some ⟨g,0,none⟩) n c) n (l.flatMap Ar.cells)) {p:AV} (hp:l[k]?=some p) (ag:Ag) (hy:a.eval y=.agg ag.cs)
 (hn:∀ w',w'.ownsRow base e 11 (.slice (some ⟨g,0,none⟩) n c) n ((l.set k ⟨p.ks,ag⟩).flatMap Ar.cells)→w.grownBy w' (some g)→wpList P ops Q rest (a.put op.dst undef) w'):wpList P ops Q (op::rest) a w:=by
 have hk:k<n:=by have:=FO (α:=AV) (Rd.Bf h);have:=(Ca.1 hp).1;omega
 refine UI hgd ty x y ho g (k * 11+1) ag.cs hx hy (dC h hk) (by rw [R.hi];(try rfl)) (Kg ag) ?_
 exact hn _ (sH h hp ag) (Db w g _ _)
theorem JP {w:World} {base:Nat} {e:TypeId} {g n c:Nat} {l:List AV} (h:w.ownsRow base e 11 (.slice (some ⟨g,0,none⟩) n c) n (l.flatMap Ar.cells)) {k:Nat} {p:AV} (hp:l[k]?=some p):w.rangeAt g (k * 11+1) p.ag.cs.toList:=fun j u hu=>by
 have:=(Gd (α:=AV) h hp).1 (1+j) u (by show (p.ks.v::p.ag.cs.toList)[1+j]?=_;rw [Tq,FW];exact hu)
 have h3:k * Ar.size AV+(1+j)=k * 11+1+j:=by show k * 11+(1+j)=_;omega
 rw [h3] at this
 exact this
theorem FL {P:Program} {w:World} {ops:Array Oper} {o:Oper} {a:Act} {K:Act→World→Prop} {Q:Exit→Act→World→Prop} {X:Prop} (hgd:o.guard=none) {ty:TypeId} {n:Nat} (R:DV P ty n) (x y:Operand) (ho:o.op=.store ty x y)
 (g:Nat) (hx:a.eval x=.pointer (some ⟨g,0,none⟩)) {t:TypeId} {cs:Array Value} (hb:Br w g t cs) (hn:cs.size=n) (cs':Array Value) (hn':cs'.size=n) (hy:a.eval y=.agg cs') (h1:cs'.all (·.oneCell')=true)
 (h:∀ w',Br w' g t cs'→w.grownBy w' (some g)→K (a.put o.dst undef) w'):if Region.wanted o (yielded ops a.tmps)=true then Oper.wp P o a w K Q else X:=by
 have hw:Region.wanted o (yielded ops a.tmps)=true:=by simp [Region.wanted,hgd]
 rw [Ak hw]
 refine UK ty x y ho g 0 cs' hx hy (hb.there (by omega)) (by rw [R.hi,hn']) h1 (h _ ?_ (Db w g _ _))
 have:=Br.Dp cs'.toList 0 hb
 rwa [Js cs cs' (by omega)] at this
def gZ (l:List BS) (w:World) (e:Ending) (w':World):Prop:=
 (NI l=none∧e=.returned (.tuple #[.slice none 0 0,.int .i64 12])∧Aj w w')∨∃ r v fs,NI l=some r∧e=.returned (.tuple #[v,.int .i64 0])∧Im w w' v fs∧cons fs=r
theorem yX {w:World} {e:TypeId} {size n c:Nat} {A:Option Addr} {xs:List Value} (h:w.ownsRow 0 e size (.slice A n c) n xs) (hn:0<n):∃ g,A=some ⟨g,0,none⟩:=by
 rcases h.2 with ⟨h0,h1⟩|⟨g',cap,cur,hv,_⟩
 ·omega
 ·injection hv with hv1 _ _
  exact ⟨g',hv1⟩
theorem uX (w:World) (x:Row AV) (hx:x.ok w) (hn:x.n≤1000000):
 Calls prog 68 #[.slice x.A x.n x.c] w (gZ (cons x.l) w):=by
 have HX:=Aa hx
 have hlen:Hid (x.l.length=x.n):=hx.len
 obtain ⟨A0,N,c0,X⟩:=x
 simp only at *
 obtain ⟨O,hO⟩:∃ O,O=NI (cons X):=⟨_,rfl⟩
 have HPO:Hid (∀ e w',((O=none∧e=.returned (.tuple #[.slice none 0 0,.int .i64 12])∧Aj w w')∨∃ r v fs,O=some r∧e=.returned (.tuple #[v,.int .i64 0])∧Im w w' v fs∧cons fs=r)→gZ (cons X) w e w'):=fun e w' h=>by rw [hO] at h;exact h
 have HE:Hid (Ew (cons []) (cons (X.drop 0))=O):=by show _=_;rw [hO];(try rfl)
 clear hO hx
 have H:Hid (SL No w w [Cb 97 11 (.slice none 0 0) 0 (([]:List AV).flatMap Ar.cells)]):=Aa ((SL.start No w).ES 97 11)
 have YI:Hid (∀ f ∈ ([]:List AV),f.ok w):=fun f hf=>by cases hf
 go_enter func68,ntmps68
 go_wp2_with fail
 go_loopg [4,12] N (fun gg s4 s12 wr=>∃ (k q d:Nat) (B:Option Addr) (out:List AV),gg=N - k∧k≤N∧q≤k∧s4=.slice B q d∧s12=.int .i64 k∧Hid (out.length=q)∧Hid (Ew (cons out) (cons (X.drop k))=O)∧Hid (∀ f ∈ out,f.ok w)∧Hid (SL No w wr [Cb 97 11 (.slice B q d) q (out.flatMap Ar.cells)]))
 case atStart=>exact ⟨0,0,0,none,[],rfl,by omega,by omega,rfl,rfl,Aa rfl,HE,YI,H⟩
 case round=>
  clear H HE YI
  obtain ⟨k,q,d,B,out,BG,hk,hqk,rfl,rfl,HQ,HE,YI,H⟩:=hrel
  have Cg:=Aa BG
  clear BG
  by_cases hlt:k<N
  ·obtain ⟨fb,fo,f,hA,hfb,R5,hfok,_,hfr,_⟩:=(HX.mono H.to).U2 hlt
   simp only at hA
   subst hA
   have gW:Hid (f.ok w):=HX.all f (CE R5)
   have HR:=Aa hfr
   have K7:=Aa (uV R5 (cons out))
   have i0:(0:Int)≤k:=by omega
   have i1:(k:Int)<N:=by omega
   clear R5 hfok hfr
   go_upto_region 5 with (first|((with_reducible refine OP 15 ?_);(refine Ae rfl BM (.tmp 14) rfl fb (fo+k * 11) rfl f.cs rfl HR.Ab ?_))|((with_reducible refine OS 6 ?_);(refine Fu BM (f.cs) (FC f) ?_;replace H:=Aa (H.alloc (f.cs) 97);(try simp only [LS] at H))))
   (try simp only [Act.put,LP])
   clear hfb HR
   generalize wr.heap.size=x at *
   generalize World.alloc _ _=w1 at *
   by_cases hq0:q=0
   ·have HQ0:=HQ.Ab
    rw [hq0] at HQ0
    have hout:out=[]:=Km HQ0
    have HE2:Hid (Ew (cons (out++[f])) (cons (X.drop (k+1)))=O):=by
     show _=_
     have h:=K7.Ab
     rw [HE.Ab,hout,show cons ([]:List AV)=[] from rfl,qQ] at h
     rw [h,hout]
     rfl
    clear HE K7
    have e1:((q:Int)==0)=true:=by rw [hq0];(try rfl)
    clear HQ0 hq0 hout
    go_upto_region 6 with fail
    refine Al ?_
    (try simp only [Act.put,LP])
    repeat (go_big_quiet_step (fail))
    refine CX ?_
    rintro w5 ⟨⟨_,FP⟩,rfl⟩
    (try dsimp only)
    replace H:=Aa (H.Au FP)
    skip
    go_upto_region 12 with (first|((with_reducible refine OP 31 ?_);(refine Cx BM (H.blk 1 rfl) ?_))|((with_reducible refine OP 32 ?_);(refine Cr rfl MJ (.tmp 31) rfl (f.cs) rfl (JU f) (by omega) ?_;replace H:=Aa (H.CJ ((Aj.refl _).alloc _) (SN _ 97 (f.cs) 11 (JU f)));(try simp only [LS] at H)))|((with_reducible refine OP 33 ?_);(refine BI rfl (.tmp 30) (.tmp 32) _ rfl MJ 0 (Bw _) _ _ _ rfl (H.row 0 rfl) _ 1 1 f.cs.toList rfl (Rd.Bf (H.row 2 rfl)) (Mw f) (by unfold maxLen;omega) (by omega) ?_;intro vq wq AR Ay Bb;replace H:=Aa (H.setRow 0 rfl Ay AR Bb);(try simp only [LS] at H);clear AR Ay Bb;obtain ⟨B2,d2,rfl,_⟩:=Ao (H.row 0 rfl))))
    (try simp only [Act.put,LP])
    replace H:=Aa (H.Gh [0] (by decide) (by simp));(try simp only [LS] at H)
    have TS:out.flatMap Ar.cells++f.cs.toList=(out++[f]).flatMap Ar.cells:=by simp [Ar.cells]
    rw [TS] at H
    have HQ2:Hid ((out++[f]).length=q+1):=by show _=_;rw [BQ,HQ.Ab];(try rfl)
    have gX:Hid (∀ z ∈ out++[f],z.ok w):=fun z hz=>(DT.1 hz).elim (YI z) (fun h=>by rw [Dt] at h;subst h;exact gW.Ab)
    clear TS HQ YI
    go_wp2_with fail
    go_roundg (N - (k+1))
    case rel=>exact ⟨k+1,q+1,d2,B2,out++[f],rfl,by omega,by omega,rfl,by go_num,HQ2,HE2,gX,H⟩
    case measure=>rw [Cg.Ab];omega
   ·obtain ⟨m,rfl⟩:∃ m,q=m+1:=⟨q - 1,by omega⟩
    obtain ⟨g,rfl⟩:=yX (H.row 0 rfl) (by omega)
    have hl:out.length=m+1:=HQ.Ab
    obtain ⟨p,hp⟩:∃ p,out[m]?=some p:=⟨_,Ep (by omega)⟩
    have K5:=Aa hp
    have HL:=Aa hl
    have J2:Hid (p.ok w):=YI p (CE hp)
    have hprg:=Gd (α:=AV) (H.row 0 rfl) hp
    have HPR:=Aa hprg
    have e1:((m:Int)+1==0)=false:=by simp<;>omega
    have e2:(m:Int)+1 - 1=m:=by omega
    have m0:(0:Int)≤m:=by omega
    have e3:IntKind.i64.wrap (m:Int)=m:=Kj _ (by omega)
    have m1:(m:Int)<(m:Int)+1:=by omega
    have HC:=Aa (fun w' (hb:Aj w w')=>Nk p f w' ⟨J2.ks.mono hb,J2.ag⟩ ⟨gW.ks.mono hb,gW.ag⟩)
    have wT:=Aa H.to
    have HXB:=H.blk 1 rfl
    clear hp hl hprg
    go_upto_region 6 with fail
    refine Al ?_
    (try simp only [Act.put,LP])
    repeat (first
     |((with_reducible show wpQuiet _ _ _ _ (⟨some 25,_,_,_,_,_⟩::_) _);refine Af (by first|rfl|go_simp) BM (.tmp 24) rfl g (m * 11) rfl p.cs rfl HPR.2 HPR.1 ?_;simp only [Act.put,LP])
     |((with_reducible show wpQuiet _ _ _ _ (⟨some 26,_,_,_,_,_⟩::_) _);refine Af (by first|rfl|go_simp) BM (.tmp 6) rfl x (0) rfl f.cs rfl HXB.lt HXB.range ?_;simp only [Act.put,LP])
     |go_big_quiet_step (((go_at_call 108;rename_i u;exact Be (HC _ (wT.trans u.Au))))))
    refine CX ?_
    rintro w5 ⟨⟨_,FP⟩,rfl⟩
    (try dsimp only)
    replace H:=Aa (H.Au FP)
    skip
    by_cases hcmp:Cu p.ks.l f.ks.l=0
    ·have d1:(Cu p.ks.l f.ks.l !=0)=false:=by simp [hcmp]
     have HCM:=Aa hcmp
     obtain ⟨J,hJ⟩:∃ J,J=p.ag.join f.ag:=⟨_,rfl⟩
     have HJ:=Aa (fun w'=>zR p.ag f.ag w' J2.ag gW.ag)
     have X7:=Q6 J2.ag gW.ag
     have HOV:Hid (J.2=false→O=none):=fun h=>by
      rw [hJ] at h
      have h1:=K7.Ab
      rw [HE.Ab,jC HL K5 hcmp h] at h1
      exact h1
     have JB:Hid (J.2=true→Ew (cons (out.set m ⟨p.ks,J.1⟩)) (cons (X.drop (k+1)))=O):=fun h=>by
      have h1:=K7.Ab
      rw [hJ] at h ⊢
      rw [HE.Ab,jD HL K5 hcmp h] at h1
      exact h1.symm
     rw [←hJ] at HJ X7
     clear hJ hcmp K7 HE HC wT HXB HPR
     obtain ⟨u,ok⟩:=J
     simp only at HJ X7 HOV JB
     have HUok:=Aa X7
     clear X7
     go_upto_region 8 with fail
     go_cut [8,9] (fun s8 s9 wx=>∃ z:Nat,s8=.pointer (some ⟨z,0,none⟩)∧s9=.bool ok∧Hid (SL No w wx [Cb 97 11 (.slice (some ⟨g,0,none⟩) (m+1) d) (m+1) (out.flatMap Ar.cells),Av x 97 f.cs,Av z 95 u.cs]))
     case first=>
      refine EG (S:=fun _=>True) (by kernel_rfl) trivial fun hHeld=>?_
      replace H:=Aa (H.drew)
      refine BJ NG ?_
      refine BJ KG ?_
      refine BJ NW ?_
      refine BJ KF ?_
      refine BJ Mr ?_
      refine BJ Mq ?_
      refine DX (rs:=[5,7,12]) (by kernel_rfl) (by simp) ?_
      refine (AllReadyH.cons Lv (fun KK Ad=>?_) (AllReadyH.cons LX (fun KK Ad=>?_) (AllReadyH.cons Ji (fun KK Ad=>?_) AllReadyH.nil)))
      ·refine CU rfl EC (.tmp 39) (by first|rfl|go_simp) g (m * 11+1) (by first|rfl|go_simp) p.ag.cs (JP (H.row 0 rfl) K5.Ab) rfl ?_
       refine Ai Ad trivial fun hHeld=>?_
       clear Ad KK
       refine NV LX Ji (fun KK Ad=>?_) fun KK Ad=>?_
       ·refine CU rfl EC (.tmp 41) (by first|rfl|go_simp) _ 1 (by first|rfl|go_simp) f.ag.cs (by intro jj uu hu;have:=(H.blk 1 rfl).range (1+jj) uu (by show (f.ks.v::f.ag.cs.toList)[1+jj]?=_;rw [Tq,FW];exact hu);rwa [Hw] at this) rfl ?_
        refine Ai Ad trivial fun hHeld=>?_
        clear Ad KK
        refine NV Px Ji (fun KK Ad=>?_) fun KK Ad=>?_
        ·go_simp
         refine (HJ _).mono ?_;rintro e' w6 ⟨rfl,hb6⟩
         replace H:=Aa (H.Au hb6)
         clear hb6
         refine Ai Ad trivial fun hHeld=>?_
         clear Ad KK
         refine BJ Qb ?_
         refine BJ Jj ?_
         refine BJ IL ?_
         refine BD Ji fun KK Ad=>?_
         go_simp
         replace H:=Aa (H.alloc Ag.zero.cs 95);(try simp only [LS] at H)
         refine Ai Ad trivial fun hHeld=>?_
         clear Ad KK
         refine BD KZ fun KK Ad=>?_
         refine FL rfl EC (.tmp 8) (.tmp 44) rfl _ (by first|rfl|go_simp) (H.blk 2 rfl) rfl u.cs rfl (by first|rfl|go_simp) (Kg u) ?_
         intro wq bq Ay
         replace H:=Aa (H.AY 2 rfl Ay bq);(try simp only [LS] at H)
         clear Ay bq
         refine Ai Ad trivial fun hHeld=>?_
         clear Ad KK
         refine BD Ms fun KK Ad=>?_
         go_simp
         refine Ai Ad trivial fun hHeld=>?_
         clear Ad KK
         refine BX ?_
         clear hHeld
         go_wp2_with fail
         go_meet
         exact ⟨_,rfl,rfl,H⟩
        ·go_simp
         replace H:=Aa (H.alloc Ag.zero.cs 95);(try simp only [LS] at H)
         refine Ai Ad trivial fun hHeld=>?_
         clear Ad KK
         refine BD Px fun KK Ad=>?_
         go_simp
         refine (HJ _).mono ?_;rintro e' w6 ⟨rfl,hb6⟩
         replace H:=Aa (H.Au hb6)
         clear hb6
         refine Ai Ad trivial fun hHeld=>?_
         clear Ad KK
         refine BJ Qb ?_
         refine BJ Jj ?_
         refine BJ IL ?_
         refine BD KZ fun KK Ad=>?_
         refine FL rfl EC (.tmp 8) (.tmp 44) rfl _ (by first|rfl|go_simp) (H.blk 2 rfl) rfl u.cs rfl (by first|rfl|go_simp) (Kg u) ?_
         intro wq bq Ay
         replace H:=Aa (H.AY 2 rfl Ay bq);(try simp only [LS] at H)
         clear Ay bq
         refine Ai Ad trivial fun hHeld=>?_
         clear Ad KK
         refine BD Ms fun KK Ad=>?_
         go_simp
         refine Ai Ad trivial fun hHeld=>?_
         clear Ad KK
         refine BX ?_
         clear hHeld
         go_wp2_with fail
         go_meet
         exact ⟨_,rfl,rfl,H⟩
       ·go_simp
        replace H:=Aa (H.alloc Ag.zero.cs 95);(try simp only [LS] at H)
        refine Ai Ad trivial fun hHeld=>?_
        clear Ad KK
        refine BD LX fun KK Ad=>?_
        refine CU rfl EC (.tmp 41) (by first|rfl|go_simp) _ 1 (by first|rfl|go_simp) f.ag.cs (by intro jj uu hu;have:=(H.blk 1 rfl).range (1+jj) uu (by show (f.ks.v::f.ag.cs.toList)[1+jj]?=_;rw [Tq,FW];exact hu);rwa [Hw] at this) rfl ?_
        refine Ai Ad trivial fun hHeld=>?_
        clear Ad KK
        refine BD Px fun KK Ad=>?_
        go_simp
        refine (HJ _).mono ?_;rintro e' w6 ⟨rfl,hb6⟩
        replace H:=Aa (H.Au hb6)
        clear hb6
        refine Ai Ad trivial fun hHeld=>?_
        clear Ad KK
        refine BJ Qb ?_
        refine BJ Jj ?_
        refine BJ IL ?_
        refine BD KZ fun KK Ad=>?_
        refine FL rfl EC (.tmp 8) (.tmp 44) rfl _ (by first|rfl|go_simp) (H.blk 2 rfl) rfl u.cs rfl (by first|rfl|go_simp) (Kg u) ?_
        intro wq bq Ay
        replace H:=Aa (H.AY 2 rfl Ay bq);(try simp only [LS] at H)
        clear Ay bq
        refine Ai Ad trivial fun hHeld=>?_
        clear Ad KK
        refine BD Ms fun KK Ad=>?_
        go_simp
        refine Ai Ad trivial fun hHeld=>?_
        clear Ad KK
        refine BX ?_
        clear hHeld
        go_wp2_with fail
        go_meet
        exact ⟨_,rfl,rfl,H⟩
      ·refine CU rfl EC (.tmp 41) (by first|rfl|go_simp) _ 1 (by first|rfl|go_simp) f.ag.cs (by intro jj uu hu;have:=(H.blk 1 rfl).range (1+jj) uu (by show (f.ks.v::f.ag.cs.toList)[1+jj]?=_;rw [Tq,FW];exact hu);rwa [Hw] at this) rfl ?_
       refine Ai Ad trivial fun hHeld=>?_
       clear Ad KK
       refine NV Lv Ji (fun KK Ad=>?_) fun KK Ad=>?_
       ·refine CU rfl EC (.tmp 39) (by first|rfl|go_simp) g (m * 11+1) (by first|rfl|go_simp) p.ag.cs (JP (H.row 0 rfl) K5.Ab) rfl ?_
        refine Ai Ad trivial fun hHeld=>?_
        clear Ad KK
        refine NV Px Ji (fun KK Ad=>?_) fun KK Ad=>?_
        ·go_simp
         refine (HJ _).mono ?_;rintro e' w6 ⟨rfl,hb6⟩
         replace H:=Aa (H.Au hb6)
         clear hb6
         refine Ai Ad trivial fun hHeld=>?_
         clear Ad KK
         refine BJ Qb ?_
         refine BJ Jj ?_
         refine BJ IL ?_
         refine BD Ji fun KK Ad=>?_
         go_simp
         replace H:=Aa (H.alloc Ag.zero.cs 95);(try simp only [LS] at H)
         refine Ai Ad trivial fun hHeld=>?_
         clear Ad KK
         refine BD KZ fun KK Ad=>?_
         refine FL rfl EC (.tmp 8) (.tmp 44) rfl _ (by first|rfl|go_simp) (H.blk 2 rfl) rfl u.cs rfl (by first|rfl|go_simp) (Kg u) ?_
         intro wq bq Ay
         replace H:=Aa (H.AY 2 rfl Ay bq);(try simp only [LS] at H)
         clear Ay bq
         refine Ai Ad trivial fun hHeld=>?_
         clear Ad KK
         refine BD Ms fun KK Ad=>?_
         go_simp
         refine Ai Ad trivial fun hHeld=>?_
         clear Ad KK
         refine BX ?_
         clear hHeld
         go_wp2_with fail
         go_meet
         exact ⟨_,rfl,rfl,H⟩
        ·go_simp
         replace H:=Aa (H.alloc Ag.zero.cs 95);(try simp only [LS] at H)
         refine Ai Ad trivial fun hHeld=>?_
         clear Ad KK
         refine BD Px fun KK Ad=>?_
         go_simp
         refine (HJ _).mono ?_;rintro e' w6 ⟨rfl,hb6⟩
         replace H:=Aa (H.Au hb6)
         clear hb6
         refine Ai Ad trivial fun hHeld=>?_
         clear Ad KK
         refine BJ Qb ?_
         refine BJ Jj ?_
         refine BJ IL ?_
         refine BD KZ fun KK Ad=>?_
         refine FL rfl EC (.tmp 8) (.tmp 44) rfl _ (by first|rfl|go_simp) (H.blk 2 rfl) rfl u.cs rfl (by first|rfl|go_simp) (Kg u) ?_
         intro wq bq Ay
         replace H:=Aa (H.AY 2 rfl Ay bq);(try simp only [LS] at H)
         clear Ay bq
         refine Ai Ad trivial fun hHeld=>?_
         clear Ad KK
         refine BD Ms fun KK Ad=>?_
         go_simp
         refine Ai Ad trivial fun hHeld=>?_
         clear Ad KK
         refine BX ?_
         clear hHeld
         go_wp2_with fail
         go_meet
         exact ⟨_,rfl,rfl,H⟩
       ·go_simp
        replace H:=Aa (H.alloc Ag.zero.cs 95);(try simp only [LS] at H)
        refine Ai Ad trivial fun hHeld=>?_
        clear Ad KK
        refine BD Lv fun KK Ad=>?_
        refine CU rfl EC (.tmp 39) (by first|rfl|go_simp) g (m * 11+1) (by first|rfl|go_simp) p.ag.cs (JP (H.row 0 rfl) K5.Ab) rfl ?_
        refine Ai Ad trivial fun hHeld=>?_
        clear Ad KK
        refine BD Px fun KK Ad=>?_
        go_simp
        refine (HJ _).mono ?_;rintro e' w6 ⟨rfl,hb6⟩
        replace H:=Aa (H.Au hb6)
        clear hb6
        refine Ai Ad trivial fun hHeld=>?_
        clear Ad KK
        refine BJ Qb ?_
        refine BJ Jj ?_
        refine BJ IL ?_
        refine BD KZ fun KK Ad=>?_
        refine FL rfl EC (.tmp 8) (.tmp 44) rfl _ (by first|rfl|go_simp) (H.blk 2 rfl) rfl u.cs rfl (by first|rfl|go_simp) (Kg u) ?_
        intro wq bq Ay
        replace H:=Aa (H.AY 2 rfl Ay bq);(try simp only [LS] at H)
        clear Ay bq
        refine Ai Ad trivial fun hHeld=>?_
        clear Ad KK
        refine BD Ms fun KK Ad=>?_
        go_simp
        refine Ai Ad trivial fun hHeld=>?_
        clear Ad KK
        refine BX ?_
        clear hHeld
        go_wp2_with fail
        go_meet
        exact ⟨_,rfl,rfl,H⟩
      ·go_simp
       replace H:=Aa (H.alloc Ag.zero.cs 95);(try simp only [LS] at H)
       refine Ai Ad trivial fun hHeld=>?_
       clear Ad KK
       refine NV Lv LX (fun KK Ad=>?_) fun KK Ad=>?_
       ·refine CU rfl EC (.tmp 39) (by first|rfl|go_simp) g (m * 11+1) (by first|rfl|go_simp) p.ag.cs (JP (H.row 0 rfl) K5.Ab) rfl ?_
        refine Ai Ad trivial fun hHeld=>?_
        clear Ad KK
        refine BD LX fun KK Ad=>?_
        refine CU rfl EC (.tmp 41) (by first|rfl|go_simp) _ 1 (by first|rfl|go_simp) f.ag.cs (by intro jj uu hu;have:=(H.blk 1 rfl).range (1+jj) uu (by show (f.ks.v::f.ag.cs.toList)[1+jj]?=_;rw [Tq,FW];exact hu);rwa [Hw] at this) rfl ?_
        refine Ai Ad trivial fun hHeld=>?_
        clear Ad KK
        refine BD Px fun KK Ad=>?_
        go_simp
        refine (HJ _).mono ?_;rintro e' w6 ⟨rfl,hb6⟩
        replace H:=Aa (H.Au hb6)
        clear hb6
        refine Ai Ad trivial fun hHeld=>?_
        clear Ad KK
        refine BJ Qb ?_
        refine BJ Jj ?_
        refine BJ IL ?_
        refine BD KZ fun KK Ad=>?_
        refine FL rfl EC (.tmp 8) (.tmp 44) rfl _ (by first|rfl|go_simp) (H.blk 2 rfl) rfl u.cs rfl (by first|rfl|go_simp) (Kg u) ?_
        intro wq bq Ay
        replace H:=Aa (H.AY 2 rfl Ay bq);(try simp only [LS] at H)
        clear Ay bq
        refine Ai Ad trivial fun hHeld=>?_
        clear Ad KK
        refine BD Ms fun KK Ad=>?_
        go_simp
        refine Ai Ad trivial fun hHeld=>?_
        clear Ad KK
        refine BX ?_
        clear hHeld
        go_wp2_with fail
        go_meet
        exact ⟨_,rfl,rfl,H⟩
       ·refine CU rfl EC (.tmp 41) (by first|rfl|go_simp) _ 1 (by first|rfl|go_simp) f.ag.cs (by intro jj uu hu;have:=(H.blk 1 rfl).range (1+jj) uu (by show (f.ks.v::f.ag.cs.toList)[1+jj]?=_;rw [Tq,FW];exact hu);rwa [Hw] at this) rfl ?_
        refine Ai Ad trivial fun hHeld=>?_
        clear Ad KK
        refine BD Lv fun KK Ad=>?_
        refine CU rfl EC (.tmp 39) (by first|rfl|go_simp) g (m * 11+1) (by first|rfl|go_simp) p.ag.cs (JP (H.row 0 rfl) K5.Ab) rfl ?_
        refine Ai Ad trivial fun hHeld=>?_
        clear Ad KK
        refine BD Px fun KK Ad=>?_
        go_simp
        refine (HJ _).mono ?_;rintro e' w6 ⟨rfl,hb6⟩
        replace H:=Aa (H.Au hb6)
        clear hb6
        refine Ai Ad trivial fun hHeld=>?_
        clear Ad KK
        refine BJ Qb ?_
        refine BJ Jj ?_
        refine BJ IL ?_
        refine BD KZ fun KK Ad=>?_
        refine FL rfl EC (.tmp 8) (.tmp 44) rfl _ (by first|rfl|go_simp) (H.blk 2 rfl) rfl u.cs rfl (by first|rfl|go_simp) (Kg u) ?_
        intro wq bq Ay
        replace H:=Aa (H.AY 2 rfl Ay bq);(try simp only [LS] at H)
        clear Ay bq
        refine Ai Ad trivial fun hHeld=>?_
        clear Ad KK
        refine BD Ms fun KK Ad=>?_
        go_simp
        refine Ai Ad trivial fun hHeld=>?_
        clear Ad KK
        refine BX ?_
        clear hHeld
        go_wp2_with fail
        go_meet
        exact ⟨_,rfl,rfl,H⟩
     case rest=>
      clear H
      obtain ⟨z,rfl,rfl,H⟩:=hcut
      cases ok with
      |false=>
       have HO:=Aa (HOV rfl)
       go_wp2_with fail
       go_ret2
       exact HPO _ _ (.inl ⟨HO.Ab,rfl,H.to⟩)
      |true=>
       have HE2:=Aa (JB rfl)
       clear JB HOV
       go_upto_region 12 with (first|((with_reducible refine OP 51 ?_);(refine Cx EC (H.blk 2 rfl) ?_))|((with_reducible refine OS 53 ?_);refine Vb rfl EC (.tmp 53) (.tmp 51) rfl m rfl (H.row 0 rfl) K5 u rfl ?_;intro wq AR Ay;replace H:=Aa (H.setRow 0 rfl Ay AR (.inl rfl));(try simp only [LS] at H);clear AR Ay))
       (try simp only [Act.put,LP])
       replace H:=Aa (H.Gh [0] (by decide) (by simp));(try simp only [LS] at H)
       have HQ2:Hid ((out.set m ⟨p.ks,u⟩).length=m+1):=by show _=_;rw [Qm,HL.Ab]
       have gX:Hid (∀ z ∈ out.set m ⟨p.ks,u⟩,z.ok w):=fun z hz=>by
        rcases YO hz with h|rfl
        ·exact YI z h
        ·exact ⟨J2.ks,HUok.Ab⟩
       clear YI
       go_wp2_with fail
       go_roundg (N - (k+1))
       case rel=>exact ⟨k+1,m+1,d,some ⟨g,0,none⟩,out.set m ⟨p.ks,u⟩,rfl,by omega,by omega,rfl,by go_num,HQ2,HE2,gX,H⟩
       case measure=>rw [Cg.Ab];omega
    ·have d1:(Cu p.ks.l f.ks.l !=0)=true:=by simp [hcmp]
     have HE2:Hid (Ew (cons (out++[f])) (cons (X.drop (k+1)))=O):=by
      show _=_
      have h:=K7.Ab
      rw [HE.Ab,qR HL K5 hcmp] at h
      exact h.symm
     clear HE K7 hcmp HC wT HXB HPR e2 m0 m1 e1 HL K5
     go_upto_region 12 with (first|((with_reducible refine OP 31 ?_);(refine Cx BM (H.blk 1 rfl) ?_))|((with_reducible refine OP 32 ?_);(refine Cr rfl MJ (.tmp 31) rfl (f.cs) rfl (JU f) (by omega) ?_;replace H:=Aa (H.CJ ((Aj.refl _).alloc _) (SN _ 97 (f.cs) 11 (JU f)));(try simp only [LS] at H)))|((with_reducible refine OP 33 ?_);(refine BI rfl (.tmp 30) (.tmp 32) _ rfl MJ 0 (Bw _) _ _ _ rfl (H.row 0 rfl) _ 1 1 f.cs.toList rfl (Rd.Bf (H.row 2 rfl)) (Mw f) (by unfold maxLen;omega) (by omega) ?_;intro vq wq AR Ay Bb;replace H:=Aa (H.setRow 0 rfl Ay AR Bb);(try simp only [LS] at H);clear AR Ay Bb;obtain ⟨B2,d2,rfl,_⟩:=Ao (H.row 0 rfl))))
     (try simp only [Act.put,LP])
     replace H:=Aa (H.Gh [0] (by decide) (by simp));(try simp only [LS] at H)
     have TS:out.flatMap Ar.cells++f.cs.toList=(out++[f]).flatMap Ar.cells:=by simp [Ar.cells]
     rw [TS] at H
     have HQ2:Hid ((out++[f]).length=m+1+1):=by show _=_;rw [BQ,HQ.Ab];(try rfl)
     have gX:Hid (∀ z ∈ out++[f],z.ok w):=fun z hz=>(DT.1 hz).elim (YI z) (fun h=>by rw [Dt] at h;subst h;exact gW.Ab)
     clear TS HQ YI
     go_wp2_with fail
     go_roundg (N - (k+1))
     case rel=>exact ⟨k+1,m+1+1,d2,B2,out++[f],rfl,by omega,by omega,rfl,by go_num,HQ2,HE2,gX,H⟩
     case measure=>rw [Cg.Ab];omega
  ·obtain rfl:k=N:=by omega
   have HO:Hid (O=some (cons out)):=by
    show _=_
    have h:=HE.Ab
    rw [EY (by have:=hlen.Ab;omega)] at h
    exact h.symm
   have HX0:=Aa (Jz ⟨B,q,d,out⟩ wr (Rz (x:=⟨B,q,d,out⟩) (H.row 0 rfl) (fun f hf=>⟨(YI f hf).ks.mono H.to,(YI f hf).ag⟩) (by show q * 104≤_;omega)) (by show q≤_;omega))
   clear HE
   go_wp2_with fail
   refine HX0.mono ?_;rintro e w9 ⟨v,fs,rfl,hG,hc⟩
   have HRS:=Aa (HPO (.returned (.tuple #[v,.int .i64 0])) w9 (.inr ⟨_,v,fs,HO.Ab,rfl,hG.from_ H.to,hc⟩))
   clear hG hc HX0
   go_wp2
   go_ret2
   exact HRS.Ab
def ZW (O:Option (List BS)) (w:World) (v:Value) (k:Int):Prop:=
 (O=none∧v=.slice none 0 0∧k=12)∨∃ x:Row AV,O=some (cons x.l)∧v=.slice x.A x.n x.c∧k=0∧x.ok w∧x.n≤1000000
def ZN (O:Option (List BS)) (w:World) (v:Value) (b:Bool):Prop:=
 (O=none∧v=.slice none 0 0∧b=false)∨∃ x:Row AV,O=some (cons x.l)∧v=.slice x.A x.n x.c∧b=true∧x.ok w∧x.n≤1000000
theorem ZW.mono {O:Option (List BS)} {w w':World} {v:Value} {k:Int} (h:ZW O w v k) (hb:Aj w w'):ZW O w' v k:=by
 rcases h with h|⟨x,h1,h2,h3,h4,h5⟩
 ·exact .inl h
 ·exact .inr ⟨x,h1,h2,h3,h4.mono hb,h5⟩
theorem ZN.mono {O:Option (List BS)} {w w':World} {v:Value} {k:Bool} (h:ZN O w v k) (hb:Aj w w'):ZN O w' v k:=by
 rcases h with h|⟨x,h1,h2,h3,h4,h5⟩
 ·exact .inl h
 ·exact .inr ⟨x,h1,h2,h3,h4.mono hb,h5⟩
def ZX (O:Option (List BS)) (w:World) (e:Ending) (w':World):Prop:=∃ v k,e=.returned (.tuple #[v,.int .i64 k])∧ZW O w' v k∧Aj w w'
theorem Zt {acc r:List BS} {f:BS} (h:Fp acc f=some r):r.length≤acc.length+1:=by
 unfold Fp at h
 split at h
 ·injection h with h;subst h;simp
 ·rename_i p hp
  split at h
  ·split at h
   ·injection h with h
    subst h
    rw [BQ,UQ]
    simp
   ·cases h
  ·injection h with h;subst h;simp
theorem Zu (l:List BS):∀ (acc r:List BS),Ew acc l=some r→r.length≤acc.length+l.length:=by
 induction l with
 |nil=>intro acc r h;injection h with h;subst h;simp
 |cons f l ih=>
  intro acc r h
  rw [Ew] at h
  split at h
  ·cases h
  ·rename_i a ha
   have h1:=Zt ha
   have h2:=ih _ _ h
   rw [CZ]
   omega
theorem uY {l r:List BS} (h:NI l=some r):r.length≤l.length:=by
 have:=Zu l [] r h
 simpa using this
theorem uW (w:World) (x:Row AV) (hx:x.ok w) (hn:x.n≤1000000):Calls prog 68 #[.slice x.A x.n x.c] w (ZX (NI (cons x.l)) w):=by
 refine (uX w x hx hn).mono ?_
 rintro e w' (⟨h1,h2,h3⟩|⟨r,v,fs,h1,h2,h3,h4⟩)
 ·exact ⟨_,_,h2,.inl ⟨h1,rfl,rfl⟩,h3⟩
 ·have hl:=uY h1
  rw [←h4,AL,AL,hx.len] at hl
  obtain ⟨X,q1,q2,q3,q4,_⟩:=h3.run (by omega)
  refine ⟨v,0,h2,.inr ⟨X,?_,q1,rfl,q4,by omega⟩,h3.Au⟩
  rw [h1,q2,h4]
theorem gB (x:Row AV) (w:World) (hx:x.ok w) (hn:x.n≤5000):Calls prog 40 #[.slice x.A x.n x.c] w (ZX (NI (AZ (cons x.l))) w):=by
 have HK:=Aa (tX 32 4 (by omega) (by omega) (by omega) (by omega) x w hx hn)
 have hxl:Hid (x.l.length=x.n):=hx.len
 obtain ⟨A,N,c,X⟩:=x
 simp only at *
 clear hx
 go_enter func40,ntmps40
 go_wp2_with fail
 refine HK.mono ?_;rintro e w1 ⟨v,fs,rfl,hG,hc⟩
 have hfl:fs.length=N:=by have h:=Cm List.length hc;rw [AL,EW,AL] at h;rw [h];exact hxl.Ab
 have HB:=Aa hG.Au
 obtain ⟨Y,rfl,hYl,hYn,hYok,_⟩:=hG.run (by omega)
 have HF:=Aa (uW w1 Y hYok (by omega))
 rw [hYl,hc] at HF
 clear hG hc hfl hYl hYn hYok HK
 obtain ⟨YA,yn,yc,yl⟩:=Y
 simp only [Row.v] at *
 go_wp2_with fail
 refine HF.mono ?_;rintro e w2 ⟨v,k,rfl,hF,hb⟩
 have HRS:Hid (ZX (NI (AZ (cons X))) w (.returned (.tuple #[v,.int .i64 k])) w2):=⟨v,k,rfl,hF,HB.trans hb⟩
 clear hF hb HF
 go_wp2
 go_ret2
 exact HRS.Ab
theorem Yu (l:List AV):∀ u ∈ (l.flatMap Ar.cells:List Value),u.oneCell'=true:=fun u hu=>by
 obtain ⟨c,_,hc⟩:=List.mem_flatMap.1 hu
 exact Mw c u hc
theorem kI (w:World) (e:TypeId) (size:Nat):(w.alloc (.cells #[] e)).ownsRow w.heap.size e size (.slice (some ⟨w.heap.size,0,none⟩) 0 0) 0 []:=
 World.ownsRow_made w #[] 0 (BZ _) (by unfold maxLen;omega) (by simp)
theorem mM (x:Row AV) (w:World) (hx:x.ok w) (hn:x.n≤1000000):
 Calls prog 62 #[.slice x.A x.n x.c] w fun e w'=>∃ (A:Option Addr) (c:Nat),e=.returned (.slice A x.n c)∧Aj w w'∧w'.ownsRow w.heap.size 97 11 (.slice A x.n c) x.n (x.l.flatMap Ar.cells):=by
 have hr:Rd w 11 x.A x.n (x.l.flatMap Ar.cells):=hx.rd
 have hlen:Hid (x.l.length=x.n):=hx.len
 obtain ⟨A,n,c,l⟩:=x
 simp only at *
 clear hx
 cases A with
 |none=>
  obtain rfl:n=0:=by
   rcases Tt n with h|h
   ·exact h
   ·obtain ⟨ad,e,_⟩:=hr.2 (by omega);cases e
  have hl:l=[]:=Km hlen.Ab
  subst hl
  have he:=fun (c:Nat) (w:World)=>Tu (P:=prog) w 54 97 none 0 c 0 0 underlying54
  go_enter func62,ntmps62
  go_wp2
  go_ret
  exact ⟨none,0,rfl,Aj.refl _,QW _ _ _ _⟩
 |some ad=>
  have he:=fun (n c:Nat) (w:World)=>Tu (P:=prog) w 54 97 (some ad) n c 0 0 underlying54
  have HRR:=Aa (fun w' (hb:Aj w w')=>hr.Au hb)
  have H:=Aa ((SL.start No w).CJ ((Aj.refl _).alloc _) (kI w 97 11))
  (try simp only [LS] at H)
  go_enter func62,ntmps62
  go_wp2_with ((with_reducible refine OP 7 ?_);(refine BI rfl (.tmp 5) (.tmp 6) _ rfl MJ 0 (Bw _) _ 0 _ rfl (H.row 0 rfl) (some ad) n c (l.flatMap Ar.cells) rfl (HRR _ H.to) (Yu l) (by unfold maxLen;omega) (by omega) ?_;intro vq wq AR Ay Bb;replace H:=Aa (H.setRow 0 rfl Ay AR Bb);(try simp only [LS] at H);clear AR Ay Bb;obtain ⟨A2,c2,rfl,_⟩:=Ao (H.row 0 rfl);simp only [Hw,Fy] at H ⊢))
  go_ret
  exact ⟨A2,c2,rfl,H.to,H.yF 0 rfl⟩
theorem QJ (B:Nat) (x:Py) (w:World) (hb:Br w B 86 x.ms) (hx:x.rows.ok w) (hn:x.rows.n≤5000) (hf:Pz (cons x.rows.l)):
 Calls prog 18 #[.pointer (some ⟨B,0,none⟩)] w fun e w'=>∃ y:Row AV,e=.returned y.v∧cons y.l=(if x.has=true then Jm (cons x.rows.l) else [])∧y.ok w'∧y.n≤1000000∧Aj w w':=by
 have Xz:=Aa (fun w' (h:Aj w w')=>hb.Au h)
 have HHA:=Aa (fun w' (h:Aj w w')=>dR B x w' (hb.Au h))
 have HAN:=Aa (fun w' (h:Aj w w')=>gB x.rows w' (hx.mono h) hn)
 have HFD:=Aa (QO hf)
 have H:=Aa (SL.start No w)
 generalize hR:(if x.has=true then Jm (cons x.rows.l) else [])=R
 have HR:=Aa hR
 clear hb hx hf hR
 go_enter func18,ntmps18
 go_wp2_with fail
 refine (HHA _ H.to).mono ?_;rintro e w1 ⟨rfl,hb1⟩
 replace H:=Aa (H.Au hb1)
 clear hb1 HHA
 cases hh:x.has with
 |false=>
  go_wp2_with fail
  go_ret
  exact ⟨⟨none,0,0,[]⟩,rfl,by rw [←HR.Ab,hh];rfl,(MU _).rows,by show (0:Nat)≤_;omega,H.to⟩
 |true=>
  have c9:w1.cell? ⟨B,9,none⟩=some (.slice x.rows.A x.rows.n x.rows.c):=(Xz _ H.to).cell 9
  go_wp2_with fail
  refine (HAN _ H.to).mono ?_;rintro e w2 ⟨v,k,rfl,hF,hb2⟩
  replace H:=Aa (H.Au hb2)
  rcases hF with ⟨h,_⟩|⟨y,hy,rfl,rfl,WZ,hyn⟩
  ·rw [HFD.Ab] at h;cases h
  have HY:Hid (cons y.l=Jm (cons x.rows.l)):=by show _=_;rw [HFD.Ab] at hy;injection hy with hy;exact hy.symm
  have HYO:=Aa WZ
  clear hy WZ c9 hb2 HAN
  go_wp2_with fail
  go_ret
  exact ⟨y,rfl,by rw [←HR.Ab,Ak hh];exact HY.Ab,HYO.Ab,hyn,H.to⟩
theorem tC (D:Dm) (p:Pk) (M key j:Nat) (T:Bg) (u:List UInt8) (w:World) (hD:D.rd w) (hp:p.rd w) (hT:D.tr.l[M]?=some T) (hu:T.ts.l[j]?=some u) (hM:p.t=M) (hf:p.f=0∨p.f=1∨p.f=2)
 (hl:De (D.tr.l.map Bg.Ac) 0 M key=j) (hn:D.tr.n≤1000000) (hk:key≤1000000) (hrs:Kn p.set.l) (hsn:p.set.n≤1000000):
 Calls prog 104 #[.agg D.cs,.agg p.cs,.int .i64 key] w fun e w'=>e=.returned (.bool (Ox p.Ac u))∧Aj w w':=by
 have H:=Aa (((SL.start No w).alloc D.cs 73).alloc p.cs 80)
 (try simp only [LS] at H)
 have hTr:=hD.tr.all T (CE hT)
 have hMn:M<D.tr.n:=by have:=(Ca.1 hT).1;rw [hD.tr.len] at this;exact this
 have hkn:j<T.ts.n:=by have:=(Ca.1 hu).1;rw [hTr.ts.len] at this;exact this
 obtain ⟨bt,ot,T',hA,hbt,hT',_,hrg⟩:=hD.tr.JN (k:=M) hMn
 obtain rfl:T=T':=by rw [hT] at hT';injection hT'
 obtain ⟨bu,ou,u',hA2,hu',iE,J7⟩:=hTr.ts.FE (k:=j) hkn
 obtain rfl:u=u':=by rw [hu] at hu';injection hu'
 have HRC:=Aa (fun w' (hb:Aj w w')=>(hb.cell (p:=⟨bt,ot+M * 3+1,none⟩) hbt).trans (hrg 1 (.slice T.ts.A T.ts.n T.ts.c) rfl))
 have HCU:=Aa (fun w' (hb:Aj w w')=>(hb.cell (p:=⟨bu,ou+j,none⟩) (PN _ _ J7)).trans J7)
 have HAT:=Aa (fun w' (hb:Aj w w')=>SB p.set u w' (hp.set.mono hb) hrs hsn)
 have HLF:=Aa (fun w' (hb:Aj w w')=>dX D 0 M key w' (hD.mono hb) (by unfold AP;omega) (by unfold AP;omega) (by unfold AP;omega) hn)
 rw [hl] at HLF
 have i0:(0:Int)≤M:=by omega
 have i1:(M:Int)<D.tr.n:=by omega
 have i2:(0:Int)≤j:=by omega
 have i3:(j:Int)<T.ts.n:=by omega
 have t63:=hTr.ts.n63
 have hl0:p.f=0→Ox p.Ac u=true:=fun hf=>by unfold Ox;rw [Ak (show p.Ac.f=0 from hf)]
 have hl1:p.f=1→Ox p.Ac u=within p.lo p.hi u:=fun hf=>by unfold Ox;rw [Ah (show ¬ p.Ac.f=0 by rw [show p.Ac.f=p.f from rfl,hf];decide),Ak (show p.Ac.f=1 from hf)]
 have hl2:p.f=2→Ox p.Ac u=(posOf u p.set.l).isSome:=fun hf=>by unfold Ox;rw [Ah (show ¬ p.Ac.f=0 by rw [show p.Ac.f=p.f from rfl,hf];decide),Ah (show ¬ p.Ac.f=1 by rw [show p.Ac.f=p.f from rfl,hf];decide)]
 rw [hA2] at HRC
 generalize Ox p.Ac u=R at *
 clear hD hp hT hT' hTr hrg hMn hkn hu hu' hA2 hbt J7 hl hn hk hrs
 obtain ⟨NU,⟨TA,tn,tc,ts⟩,tup⟩:=T
 obtain ⟨pf,pt,lo,hi,⟨A,n,c,set⟩,g,pb⟩:=p
 obtain ⟨nm,⟨A2,n2,cp2,AB⟩⟩:=D
 simp only [Pk.cs,Dm.cs] at *
 subst hA hM
 rcases hf with rfl|rfl|rfl
 ·have HR:=Aa (hl0 rfl)
  clear hl0 hl1 hl2
  go_enter func104,ntmps104
  go_upto_region 1 with fail
  generalize w.heap.size+1=y at *
  generalize w.heap.size=x at *
  generalize World.alloc (World.alloc _ _) _=w1 at *
  have c1:=(H.blk 1 rfl).Am 1
  go_wp2_with ((with_reducible refine OP 11 ?_);(refine Cx Dl (H.blk 0 rfl) ?_))
  refine (HLF _ H.to).mono ?_;rintro e w2 ⟨rfl,hb2⟩
  replace H:=Aa (H.Au hb2)
  have hrc:=HRC _ H.to
  have J7:=HCU _ H.to
  clear hb2 HLF c1 HRC
  have c0:=(H.blk 1 rfl).cell 0
  have c1:=(H.blk 1 rfl).cell 1
  have c2:=(H.blk 1 rfl).cell 2
  have c3:=(H.blk 1 rfl).cell 3
  have c4:=(H.blk 1 rfl).cell 4
  have cd:=(H.blk 0 rfl).cell 1
  simp only [LG] at c0 c1 c2 c3 c4 cd
  go_wp2
  go_ret
  rw [HR.Ab]
  exact ⟨rfl,H.to⟩
 ·have HR:=Aa (hl1 rfl)
  clear hl0 hl1 hl2
  go_enter func104,ntmps104
  go_upto_region 1 with fail
  generalize w.heap.size+1=y at *
  generalize w.heap.size=x at *
  generalize World.alloc (World.alloc _ _) _=w1 at *
  have c1:=(H.blk 1 rfl).Am 1
  go_wp2_with ((with_reducible refine OP 11 ?_);(refine Cx Dl (H.blk 0 rfl) ?_))
  refine (HLF _ H.to).mono ?_;rintro e w2 ⟨rfl,hb2⟩
  replace H:=Aa (H.Au hb2)
  have hrc:=HRC _ H.to
  have J7:=HCU _ H.to
  clear hb2 HLF c1 HRC
  have c0:=(H.blk 1 rfl).cell 0
  have c1:=(H.blk 1 rfl).cell 1
  have c2:=(H.blk 1 rfl).cell 2
  have c3:=(H.blk 1 rfl).cell 3
  have c4:=(H.blk 1 rfl).cell 4
  have cd:=(H.blk 0 rfl).cell 1
  simp only [LG] at c0 c1 c2 c3 c4 cd
  unfold within at HR
  cases h1:Op.bytesLess u lo with
  |true=>
   have q1:(Op.bytesLess lo u||lo==u)=false:=by rw [Zl,h1];(try rfl)
   rw [h1] at HR
   clear h1
   go_upto_region 5 with fail
   have F3:=fun u:Over w2=>Over.cell c2 u
   have f_c3:=fun u:Over w2=>Over.cell c3 u
   have E9:=fun u:Over w2=>Over.cell J7 u
   refine Al ?_
   (try simp only [Act.put,LP])
   repeat (go_big_quiet_step (fail))
   refine CX ?_
   rintro w5 ⟨⟨_,FP⟩,rfl⟩
   (try dsimp only)
   replace H:=Aa (H.Au FP)
   clear F3 f_c3 E9 c2 c3 J7
   go_wp2
   go_ret
   rw [HR.Ab]
   exact ⟨rfl,H.to⟩
  |false=>
   have q1:(Op.bytesLess lo u||lo==u)=true:=by rw [Zl,h1];(try rfl)
   rw [h1] at HR
   clear h1
   have q2:(Op.bytesLess u hi||u==hi)=!Op.bytesLess hi u:=Zl _ _
   generalize Op.bytesLess hi u=z at *
   go_upto_region 5 with fail
   have F3:=fun u:Over w2=>Over.cell c2 u
   have f_c3:=fun u:Over w2=>Over.cell c3 u
   have E9:=fun u:Over w2=>Over.cell J7 u
   refine Al ?_
   (try simp only [Act.put,LP])
   repeat (go_big_quiet_step (fail))
   refine CX ?_
   rintro w5 ⟨⟨_,FP⟩,rfl⟩
   (try dsimp only)
   replace H:=Aa (H.Au FP)
   clear F3 f_c3 E9 c2 c3 J7
   go_wp2
   go_ret
   rw [HR.Ab]
   exact ⟨by cases z<;>rfl,H.to⟩
 ·have HR:=Aa (hl2 rfl)
  clear hl0 hl1 hl2
  go_enter func104,ntmps104
  go_upto_region 1 with fail
  generalize w.heap.size+1=y at *
  generalize w.heap.size=x at *
  generalize World.alloc (World.alloc _ _) _=w1 at *
  have c1:=(H.blk 1 rfl).Am 1
  go_wp2_with ((with_reducible refine OP 11 ?_);(refine Cx Dl (H.blk 0 rfl) ?_))
  refine (HLF _ H.to).mono ?_;rintro e w2 ⟨rfl,hb2⟩
  replace H:=Aa (H.Au hb2)
  have hrc:=HRC _ H.to
  have J7:=HCU _ H.to
  clear hb2 HLF c1 HRC
  have c0:=(H.blk 1 rfl).cell 0
  have c1:=(H.blk 1 rfl).cell 1
  have c2:=(H.blk 1 rfl).cell 2
  have c3:=(H.blk 1 rfl).cell 3
  have c4:=(H.blk 1 rfl).cell 4
  have cd:=(H.blk 0 rfl).cell 1
  simp only [LG] at c0 c1 c2 c3 c4 cd
  go_upto_region 7 with fail
  refine EG (S:=fun W=>W.cell? ⟨y,4,none⟩=some (.slice A n c)∧W.cell? ⟨bu,ou+j,none⟩=some (.string ⟨u.toArray⟩)) (by kernel_rfl) ⟨(H.blk 1 rfl).cell 4,by first|exact HCU _ H.to|exact HCU _ H.to.drew⟩ fun hHeld=>?_
  replace H:=Aa (H.drew)
  generalize World.drew _=w8 at *
  refine BJ NG ?_
  refine BJ KG ?_
  refine BJ NW ?_
  refine BJ KF ?_
  refine BJ Mr ?_
  refine BJ Lv ?_
  refine BD Mq fun KK Ad=>?_
  go_simp
  refine (HAT _ H.to).mono ?_;rintro e w3 ⟨m,fb,rfl,rfl,hF⟩
  refine Ai Ad ⟨(H.blk 1 rfl).cell 4,by first|exact HCU _ H.to|exact HCU _ H.to.drew⟩ fun hHeld=>?_
  clear Ad KK
  refine BJ LX ?_
  refine BJ Px ?_
  refine BJ Qb ?_
  refine BJ Jj ?_
  refine BJ IL ?_
  refine BX ?_
  clear hHeld
  have HR2:Hid (R=fb):=by
   show _=_
   rw [HR.Ab]
   cases fb with
   |true=>rw [hF.2.1 rfl];rfl
   |false=>rw [hF.2.2 rfl];rfl
  clear hF HR
  go_wp2
  go_ret
  rw [HR2.Ab]
  exact ⟨rfl,H.to⟩
theorem kY {D:Dm} {p:Pk} {w:World} (hD:D.rd w) (hd:Ba D.Ac=0) (hp:CB D.Ac p.Ac=0) {key:Nat} (hk:key<Ed (D.tr.l.map Bg.Ac) 0):
 ∃ (M j:Nat) (T:Bg) (u:List UInt8),p.t=M∧D.tr.l[M]?=some T∧T.ts.l[j]?=some u∧De (D.tr.l.map Bg.Ac) 0 M key=j∧RG D.Ac p.Ac key=Ox p.Ac u∧(p.f=0∨p.f=1∨p.f=2)∧Kn p.set.l:=by
 obtain ⟨_,d1,d4,d5⟩:=Ej hd
 have hok:Ic (D.tr.l.map Bg.Ac):=FR d5
 have hlen:D.Ac.AB.length=D.tr.l.length:=Cq ..
 have hP:=Ja hp
 have h1:(p.f=0∨p.f=1∨p.f=2)∧Kn p.set.l∧0≤p.t∧p.t<D.tr.l.length:=by
  rcases hP.f with ⟨a,b,_,_,s⟩|⟨a,s,_,_,b,b2⟩|⟨a,_,_,s,b,tr,ht,_⟩
  ·have a:p.f=0:=a
   have b:p.t=0:=b
   have s:p.set.l=[]:=s
   exact ⟨.inl a,by rw [s];exact List.Pairwise.nil,by omega,by omega⟩
  ·have a:p.f=1:=a
   have b:0≤p.t:=b
   have b2:p.t<(D.Ac.AB.length:Int):=b2
   have s:p.set.l=[]:=s
   exact ⟨.inr (.inl a),by rw [s];exact List.Pairwise.nil,b,by omega⟩
  ·have a:p.f=2:=a
   have b:0≤p.t:=b
   have h2:=(Ca.1 ht).1
   have h3:p.Ac.t=p.t:=rfl
   exact ⟨.inr (.inr a),SI s,b,by omega⟩
 obtain ⟨h2,h3,h4,h5⟩:=h1
 obtain ⟨M,hM⟩:∃ M:Nat,p.t=M:=⟨p.t.toNat,by omega⟩
 have hMl:M<D.tr.l.length:=by omega
 obtain ⟨e1,e2,e3⟩:=Ow hok (f:=0) (t:=M) (i:=key) (by omega) (by rw [Cq];exact hMl) hk
 have hsz:Ed (D.tr.l.map Bg.Ac) M=D.tr.l[M].ts.l.length:=by unfold Ed;rw [DD,Ep hMl];rfl
 obtain ⟨j,hj⟩:∃ j:Nat,De (D.tr.l.map Bg.Ac) 0 M key=j:=⟨(De (D.tr.l.map Bg.Ac) 0 M key).toNat,by simp only [Int.natCast_zero] at e2;omega⟩
 simp only [Int.natCast_zero] at e2 e3
 have hjl:j<D.tr.l[M].ts.l.length:=by omega
 refine ⟨M,j,D.tr.l[M],D.tr.l[M].ts.l[j],hM,Ep hMl,Ep hjl,hj,?_,h2,h3⟩
 unfold RG
 have e4:p.Ac.t=(M:Int):=hM
 rw [e4,Da,show D.Ac.AB=D.tr.l.map Bg.Ac from rfl,DD,Ep hMl,hj]
 simp only [Option.map_some,Option.bind_some,Da]
 rw [Ep hjl]
 rfl
theorem Qz {ds:List DC} {ps:List PC} {ks:List Int} {k:Nat} {d:DC} {p:PC} {key:Int} (hd:ds[k]?=some d) (hp:ps[k]?=some p) (hk:ks[k]?=some key):
 Eh (ds.drop k) (ps.drop k) (ks.drop k)=if RG d p key=true then (Eh (ds.drop (k+1)) (ps.drop (k+1)) (ks.drop (k+1))).map (fun l=>if p.g=true then De d.AB 0 p.MN key::l else l) else none:=by
 rw [Bz hd,Bz hp,Bz hk,Eh]
def Kc (acc:List Int) (o:Option (List Int)):Option (List Int):=o.map (acc++·)
theorem yS {ds:List DC} {ps:List PC} {ks acc:List Int} {k:Nat} {d:DC} {p:PC} {key:Int} {R:Option (List Int)} (h:R=Kc acc (Eh (ds.drop k) (ps.drop k) (ks.drop k))) (hd:ds[k]?=some d) (hp:ps[k]?=some p) (hk:ks[k]?=some key) (hl:RG d p key=false):R=none:=by
 rw [h,Qz hd hp hk,Ah (by simp [hl])];rfl
theorem kH {ds:List DC} {ps:List PC} {ks acc:List Int} {k:Nat} {d:DC} {p:PC} {key:Int} {R:Option (List Int)} (h:R=Kc acc (Eh (ds.drop k) (ps.drop k) (ks.drop k))) (hd:ds[k]?=some d) (hp:ps[k]?=some p) (hk:ks[k]?=some key) (hl:RG d p key=true) (hg:p.g=false):
 R=Kc acc (Eh (ds.drop (k+1)) (ps.drop (k+1)) (ks.drop (k+1))):=by
 rw [h,Qz hd hp hk,Ak hl,hg]
 unfold Kc
 cases Eh (ds.drop (k+1)) (ps.drop (k+1)) (ks.drop (k+1))<;>simp
theorem kG {ds:List DC} {ps:List PC} {ks acc:List Int} {k:Nat} {d:DC} {p:PC} {key:Int} {R:Option (List Int)} (h:R=Kc acc (Eh (ds.drop k) (ps.drop k) (ks.drop k))) (hd:ds[k]?=some d) (hp:ps[k]?=some p) (hk:ks[k]?=some key) (hl:RG d p key=true) (hg:p.g=true):
 R=Kc (acc++[De d.AB 0 p.MN key]) (Eh (ds.drop (k+1)) (ps.drop (k+1)) (ks.drop (k+1))):=by
 rw [h,Qz hd hp hk,Ak hl,hg]
 unfold Kc
 cases Eh (ds.drop (k+1)) (ps.drop (k+1)) (ks.drop (k+1))<;>simp
theorem sG {ds:List DC} {ps:List PC} {ks acc:List Int} {k:Nat} {R:Option (List Int)} (h:R=Kc acc (Eh (ds.drop k) (ps.drop k) (ks.drop k))) (hp:ps.length≤k):R=some acc:=by
 rw [h,EY hp,Eh]
 ·unfold Kc;simp
 ·intros;contradiction
theorem Wv {k:Row Int} {a:Ag} {A:Option Addr} {n c:Nat} {l':List Int}:(AV.mk k a).cs.setIfInBounds 0 (.slice A n c)=(AV.mk ⟨A,n,c,l'⟩ a).cs:=by
 simp [AV.cs,Row.v]
theorem Ve {ops:Array Oper} {rest:List Oper} {o:Oper} {a:Act} {w:World} {Q:Exit→Act→World→Prop} (hgd:o.guard=none) {t:TypeId} (ho:o.op=.build t #[])
 {v:Value} (hr:∀ w,(Instr.build t #[]).run prog w=.ok v w)
 (h:wpList prog ops Q rest (a.put o.dst v) w):wpList prog ops Q (o::rest) a w:=by
 refine MO hgd fun K hK=>?_
 unfold Oper.wp execOp
 simp only [ho,PI,EF,IP,hr,JK,JJ]
 exact hK _ _ h
theorem mW (a:Ag) (w:World):(Instr.build 97 #[(1,.agg a.cs)]).run prog w=.ok (.agg (AV.mk ⟨none,0,0,[]⟩ a).cs) w:=by kernel_rfl
theorem yG:DV prog 95 10:=⟨⟨_,underlying95,rfl⟩,by kernel_rfl⟩
def pM (o:Option (List Int)) (ag:Ag) (w:World) (e:Ending) (w':World):Prop:=
 match o with
 |none=>e=.returned (.tuple #[.agg (AV.mk ⟨none,0,0,[]⟩ .zero).cs,.bool false])∧Aj w w'
 |some l=>∃ (A:Option Addr) (c:Nat),e=.returned (.tuple #[.agg (AV.mk ⟨A,l.length,c,l⟩ ag).cs,.bool true])∧Aj w w'∧w'.ownsRow w.heap.size 3 1 (.slice A l.length c) l.length (l.map (Value.int .i64))
theorem kS (B:Nat) (x:Py) (q:Qr) (f:AV) (w:World) (hb:Br w B 86 x.ms) (hx:x.ct.sc.rd w) (hq:q.rd w) (hf:f.ok w) (hE:Bl x.ct.sc.Ac q.Ac=0) (hk:NL x.ct.sc.Ac.DF f.ks.l) (hps:∀ p ∈ q.ps.l,p.set.n≤1000000):
 Calls prog 64 #[.pointer (some ⟨B,0,none⟩),.agg q.cs,.agg f.cs] w (pM (Eh x.ct.sc.Ac.DF q.Ac f.ks.l) f.ag w):=by
 obtain ⟨g1,g2,g3⟩:=Em hE
 obtain ⟨g4,g5,g6,_⟩:=BA g1
 have Xz:=Aa (fun w' (h:Aj w w')=>hb.Au h)
 have HX:=Aa hx.dm
 have HQ:=Aa hq
 have HF:=Aa hf.ks.Vw
 have hdl:x.ct.sc.Ac.DF.length=x.ct.sc.dm.n:=by show (x.ct.sc.dm.l.map Dm.Ac).length=_;rw [Cq];exact hx.dm.len
 have hql:q.Ac.length=q.ps.n:=by show (q.ps.l.map Pk.Ac).length=_;rw [Cq];exact hq.len
 have hqd:q.ps.n=x.ct.sc.dm.n:=by omega
 have hfd:f.ks.n=x.ct.sc.dm.n:=by have h1:=hk.len;have h2:=hf.ks.len;omega
 have hn16:q.ps.n≤16:=by omega
 have HQD:Hid (q.ps.n=x.ct.sc.dm.n∧f.ks.n=x.ct.sc.dm.n):=⟨hqd,hfd⟩
 clear hqd hfd
 have HPE:=Aa (fun (k:Nat) d p (hd:x.ct.sc.Ac.DF[k]?=some d) (hp:q.Ac[k]?=some p)=>Oo g3 g2 k d p hd hp)
 have HDE:=Aa g6
 have HKO:=Aa (fun (k:Nat) d z (hd:x.ct.sc.Ac.DF[k]?=some d) (hz:f.ks.l[k]?=some z)=>hk.at_ hd hz)
 have qC:=Aa hps
 obtain ⟨R,hR⟩:∃ R,R=Eh x.ct.sc.Ac.DF q.Ac f.ks.l:=⟨_,rfl⟩
 rw [←hR]
 have HN:Hid (R=Kc [] (Eh (x.ct.sc.Ac.DF.drop 0) (q.Ac.drop 0) (f.ks.l.drop 0))):=by
  show _=_
  rw [hR]
  unfold Kc
  simp
 have HQL:=Aa hql
 have H:=Aa ((((SL.start No w).alloc q.cs 29).alloc f.cs 97).alloc #[.slice none 0 0,.int .i64 0,.int .i64 0,.int .i64 0,.int .i64 0,.int .i64 0,.int .i64 0,.int .i64 0,.int .i64 0,.int .i64 0,.int .i64 0] 97)
 (try simp only [LS] at H)
 clear hb hx hq hf hE hk hps g1 g2 g3 g4 g5 g6 hR hdl hql
 go_enter func64,ntmps64
 go_upto_region 1 with fail
 generalize w.heap.size+2=rx at H ⊢
 generalize w.heap.size+1=fx at H ⊢
 generalize w.heap.size=qx at H ⊢
 generalize World.alloc (World.alloc (World.alloc _ _) _) _=w0 at H ⊢
 have HFA:Hid (∀ w,w=w0→w.rangeAt fx 1 f.ag.cs.toList):=fun w e=>e ▸ (H.blk 1 rfl).part 1 f.ag.cs.toList rfl
 go_upto_region 2 with (first|((with_reducible refine OP 13 ?_);(refine Ae rfl yG (.tmp 12) rfl fx (1) rfl f.ag.cs rfl (HFA _ rfl) ?_))|((with_reducible refine OP 14 ?_);refine Fq (vx:=.agg f.ag.cs) (v:=.agg (AV.mk ⟨none,0,0,[]⟩ f.ag).cs) rfl (.tmp 13) rfl rfl (mW f.ag) ?_)|((with_reducible refine OS 8 ?_);(refine Fu BM ((AV.mk ⟨none,0,0,[]⟩ f.ag).cs) (FC _) ?_;replace H:=Aa (H.alloc ((AV.mk ⟨none,0,0,[]⟩ f.ag).cs) 97);(try simp only [LS] at H))))
 (try simp only [Act.put,LP])
 (try simp only [LS] at H)
 clear HFA
 generalize w0.heap.size=ox at H ⊢
 generalize World.alloc w0 _=w1 at H ⊢
 replace H:=Aa (H.ES 3 1);(try simp only [LS] at H)
 have cq:=(H.blk 0 rfl).Am 0
 go_upto_region 3 with fail
 clear cq
 obtain ⟨n,hn⟩:∃ n,n=q.ps.n:=⟨_,rfl⟩
 rw [←hn] at HQD hn16 HQL ⊢
 have HNN:=Aa hn
 clear hn
 go_loopg [18] n (fun gg s18 wr=>∃ (k:Nat) (A:Option Addr) (c:Nat) (l:List Int),gg=n - k∧k≤n∧l.length≤k∧s18=.int .i64 k∧Hid (R=Kc l (Eh (x.ct.sc.Ac.DF.drop k) (q.Ac.drop k) (f.ks.l.drop k)))∧Hid (SL No w wr [Av qx 29 q.cs,Av fx 97 f.cs,Av rx 97 #[.slice none 0 0,.int .i64 0,.int .i64 0,.int .i64 0,.int .i64 0,.int .i64 0,.int .i64 0,.int .i64 0,.int .i64 0,.int .i64 0,.int .i64 0],Av ox 97 (AV.mk ⟨A,l.length,c,l⟩ f.ag).cs,Cb 3 1 (.slice A l.length c) l.length (l.map (Value.int .i64))]))
 case atStart=>exact ⟨0,none,0,[],rfl,by omega,by simp,rfl,HN,H⟩
 case round=>
  clear H HN
  obtain ⟨k,A,c,l,BG,hk,hlk,rfl,HN,H⟩:=hrel
  have Cg:=Aa BG
  clear BG
  by_cases hlt:k<n
  ·obtain ⟨b1,o1,D,hA1,hb1,UC,IJ,hrg1⟩:=HX.Ta (k:=k) (by have h:=HQD.1;omega)
   obtain ⟨b2,o2,p,hA2,hb2,hpk,hpr,hrg2⟩:=HQ.rW (k:=k) (by have h:=HNN.Ab;omega)
   obtain ⟨bk,okk,key0,hA3,hzk,_,hck⟩:=HF.PZ (k:=k) (by have h:=HQD.Ab;omega)
   have Gg:x.ct.sc.Ac.DF[k]?=some D.Ac:=by show (x.ct.sc.dm.l.map Dm.Ac)[k]?=_;rw [DD,UC];rfl
   have hpc:q.Ac[k]?=some p.Ac:=by show (q.ps.l.map Pk.Ac)[k]?=_;rw [DD,hpk];rfl
   have hk1:=HKO k _ _ Gg hzk
   obtain ⟨key,rfl⟩:∃ key:Nat,key0=key:=⟨key0.toNat,by omega⟩
   have hpe:=HPE k _ _ Gg hpc
   have hde:=HDE D.Ac (CE Gg)
   obtain ⟨d0,d1,d4,d5⟩:=Ej hde
   have hdt:D.tr.n≤4:=by have h1:=IJ.tr.len;have h2:D.Ac.AB.length=D.tr.l.length:=Cq ..;omega
   have hk2:key<Ed (D.tr.l.map Bg.Ac) 0:=by have h:(key:Int)<((Ed (D.tr.l.map Bg.Ac) 0:Nat):Int):=hk1.2;omega
   have hk3:key≤1000000:=by
    have h1:=KH hde
    have h2:Ed (D.tr.l.map Bg.Ac) 0≤200:=by
     unfold Ed
     cases ht:(D.tr.l.map Bg.Ac)[0]? with
     |none=>simp
     |some t=>exact (h1 t (CE ht)).2
    omega
   obtain ⟨Mt,j,TT,u,m1,m2,m3,m4,m5,m6,m7⟩:=kY IJ hde hpe hk2
   have HLT:=Aa (fun w' (h:Aj w w')=>tC D p Mt key j TT u w' (IJ.mono h) (hpr.mono h) m2 m3 m1 m6 m4 (by omega) hk3 m7 (qC p (CE hpk)))
   have HLV:Hid (RG D.Ac p.Ac key=Ox p.Ac u):=m5
   have HB0:Hid (p.g=true→AP p.MN):=fun _=>hpr.MN
   have HLI:=Aa (fun w' (h:Aj w w')=>dX D 0 p.MN key w' (IJ.mono h) (by unfold AP;omega) hpr.MN (by unfold AP;omega) (by omega))
   have HR1:Hid (∀ w',Aj w w'→w'.rangeAt b1 (o1+k * 2) D.cs.toList):=fun w' h=>Ee hb1 hrg1 h
   have HR2:Hid (∀ w',Aj w w'→w'.rangeAt b2 (o2+k * 7) p.cs.toList):=fun w' h=>Ee hb2 hrg2 h
   have Ps:Hid (∀ w',Aj w w'→w'.cell? ⟨bk,okk+k,none⟩=some (.int .i64 key)):=fun w' h=>(h.cell (p:=⟨bk,okk+k,none⟩) (PN _ _ hck)).trans hck
   have NY:=Aa Gg
   have HPc:=Aa hpc
   have HZk:=Aa hzk
   have HQA:=Aa hA2
   have iG:=Aa hA3
   have HXA:=Aa hA1
   have i0:(0:Int)≤k:=by omega
   have i1:(k:Int)<n:=by omega
   have i2:(k:Int)<x.ct.sc.dm.n:=by have h:=HQD.Ab;omega
   have i3:(k:Int)<f.ks.n:=by have h:=HQD.Ab;omega
   clear hb1 hb2 UC hpk hzk hck Gg hpc hk1 hpe hde d0 d1 d4 d5 hdt hk2 hk3 m1 m2 m3 m4 m5 m6 m7 IJ hpr hrg1 hrg2 hA1 hA3
   rw [hA2]
   clear hA2
   go_upto_region 5 with (first|((with_reducible refine OP 22 ?_);(refine Ae rfl Ea (.tmp 21) rfl b2 (o2+k * 7) rfl p.cs rfl (HR2 _ H.to) ?_))|((with_reducible refine OS 10 ?_);(refine Fu Ea (p.cs) (Nb p) ?_;replace H:=Aa (H.alloc (p.cs) 80);(try simp only [LS] at H))))
   (try simp only [Act.put,LP])
   (try simp only [LS] at H)
   generalize wr.heap.size=pz at H ⊢
   generalize World.alloc wr _=w3 at H ⊢
   have c0:w3.cell? ⟨B,0,none⟩=some (.slice (some ⟨b1,o1,none⟩) x.ct.sc.dm.n x.ct.sc.dm.c):=by rw [←HXA.Ab];exact (Xz _ H.to).cell 0
   go_upto_region 6 with (first|((with_reducible refine OP 31 ?_);(refine Ae rfl Dl (.tmp 30) rfl b1 (o1+k * 2) rfl D.cs rfl (HR1 _ H.to) ?_))|((with_reducible refine OS 11 ?_);(refine Fu Dl (D.cs) (Zy D) ?_;replace H:=Aa (H.alloc (D.cs) 73);(try simp only [LS] at H))))
   (try simp only [Act.put,LP])
   (try simp only [LS] at H)
   clear c0 HR1 HR2
   generalize w3.heap.size=dz at H ⊢
   generalize World.alloc w3 _=w4 at H ⊢
   have cf:w4.cell? ⟨fx,0,none⟩=some (.slice (some ⟨bk,okk,none⟩) f.ks.n f.ks.c):=by rw [←iG.Ab];exact (H.blk 1 rfl).cell 0
   have ck:=Ps _ H.to
   have f_cf:=fun u:Over w4=>Over.cell cf u
   have f_ck:=fun u:Over w4=>Over.cell ck u
   refine Al ?_
   (try simp only [Act.put,LP])
   repeat (first
    |((with_reducible show wpQuiet _ _ _ _ (⟨some 32,_,_,_,_,_⟩::_) _);refine Af (by first|rfl|go_simp) Dl (.tmp 11) rfl _ (0) rfl _ rfl (H.blk 6 rfl).lt (H.blk 6 rfl).range ?_;simp only [Act.put,LP])
    |((with_reducible show wpQuiet _ _ _ _ (⟨some 33,_,_,_,_,_⟩::_) _);refine Af (by first|rfl|go_simp) Ea (.tmp 10) rfl _ (0) rfl _ rfl (H.blk 5 rfl).lt (H.blk 5 rfl).range ?_;simp only [Act.put,LP])
    |go_big_quiet_step (((go_at_call 104;rename_i u;exact Be (HLT _ (H.to.trans u.Au))))))
   refine CX ?_
   rintro w5 ⟨⟨_,FP⟩,rfl⟩
   (try dsimp only)
   replace H:=Aa (H.Au FP)
   clear f_cf f_ck cf ck
   clear FP HLT
   rw [←HLV.Ab]
   cases hL:RG D.Ac p.Ac key with
   |false=>
    have HRN:Hid (R=none):=yS HN NY HPc HZk hL
    clear hL HN HLV
    go_wp2_with (first|((with_reducible refine OP 41 ?_);refine Ve rfl rfl (mV) ?_)|((with_reducible refine OS 6 ?_);(refine Ec BM H 2 rfl ((AV.mk ⟨none,0,0,[]⟩ .zero).cs) (FC _) ?_;clear H;intro wq H;(try simp only [LS] at H))))
    (try simp only [Act.put,LP])
    refine Ce (AJ rfl BM rfl (H.blk 2 rfl) rfl) rfl ?_
    rw [HRN.Ab]
    exact ⟨rfl,H.to⟩
   |true=>
    have cg:w5.cell? ⟨pz,5,none⟩=some (.bool p.g):=(H.blk 5 rfl).cell 5
    cases hg:p.g with
    |false=>
     have Il:=Aa (kH HN NY HPc HZk hL hg)
     rw [hg] at cg
     clear hL HN HLV HLI hg
     go_wp2_with fail
     clear cg
     rw [←HQA.Ab]
     replace H:=Aa (H.Gh [0,1,2,3,4] (by decide) (by simp));(try simp only [LS] at H)
     go_roundg (n - (k+1))
     case rel=>exact ⟨k+1,A,c,l,rfl,by omega,by omega,by go_num,Il,H⟩
     case measure=>rw [Cg.Ab];omega
    |true=>
     have hN2:=kG HN NY HPc HZk hL hg
     obtain ⟨z,hz⟩:∃ z,z=De D.Ac.AB 0 p.Ac.MN key:=⟨_,rfl⟩
     rw [←hz] at hN2
     rw [show De (D.tr.l.map Bg.Ac) 0 p.MN key=z from hz.symm] at HLI
     rw [hg] at cg
     replace HN:=Aa hN2
     clear hL HLV hg hz hN2 HB0
     go_upto_region 9 with fail
     clear cg
     refine EG (S:=fun W=>Br W dz 73 D.cs∧W.cell? ⟨pz,6,none⟩=some (.int .i64 p.MN)∧W.cell? ⟨fx,0,none⟩=some (.slice (some ⟨bk,okk,none⟩) f.ks.n f.ks.c)∧W.cell? ⟨bk,okk+k,none⟩=some (.int .i64 key)) (by kernel_rfl) ⟨H.blk 6 rfl,(H.blk 5 rfl).cell 6,by rw [←iG.Ab];exact (H.blk 1 rfl).cell 0,by first|exact Ps _ H.to|exact Ps _ H.to.drew⟩ fun hHeld=>?_
     replace H:=Aa (H.drew)
     generalize World.drew _=w8 at *
     refine BJ NG ?_
     refine QZ (i:=2) (v:=.agg D.cs) NW (by kernel_rfl) (by kernel_rfl) (by kernel_rfl) (by exact fun _ _ _ h=>h) (Fb Dl (by rfl) (.tmp 11) rfl dz 0 rfl (fun w h=>Br.part h.1 0 D.cs.toList rfl) rfl) (by assumption) ?_
     try simp only [Act.put,LP]
     refine BJ KF ?_
     refine BJ Mr ?_
     refine BJ Lv ?_
     refine BJ Mq ?_
     refine BJ LX ?_
     refine BJ Px ?_
     refine BJ Qb ?_
     refine NV KG Jj (fun KK Ad=>?_) fun KK Ad=>?_
     ·have WB:=(H.blk 3 rfl).cell 0
      replace WB:=WB.trans (show _=some (Value.slice A l.length c) from rfl)
      go_simp
      clear WB
      refine Ai Ad ⟨H.blk 6 rfl,(H.blk 5 rfl).cell 6,by rw [←iG.Ab];exact (H.blk 1 rfl).cell 0,by first|exact Ps _ H.to|exact Ps _ H.to.drew⟩ fun hHeld=>?_
      clear Ad KK
      refine BD Jj fun KK Ad=>?_
      go_simp
      refine (HLI _ H.to).mono ?_;rintro e' w6 ⟨rfl,hb6⟩
      replace H:=Aa (H.Au hb6)
      clear hb6
      refine Ai Ad ⟨H.blk 6 rfl,(H.blk 5 rfl).cell 6,by rw [←iG.Ab];exact (H.blk 1 rfl).cell 0,by first|exact Ps _ H.to|exact Ps _ H.to.drew⟩ fun hHeld=>?_
      clear Ad KK
      refine BD IL fun KK Ad=>?_
      refine Bu rfl Lf (.tmp 54) rfl (.int .i64 z) rfl #[.int .i64 z] rfl rfl (by omega) ?_
      replace H:=Aa (H.alloc #[.int .i64 z] 3);(try simp only [LS] at H)
      refine Ai Ad ⟨H.blk 6 rfl,(H.blk 5 rfl).cell 6,by rw [←iG.Ab];exact (H.blk 1 rfl).cell 0,by first|exact Ps _ H.to|exact Ps _ H.to.drew⟩ fun hHeld=>?_
      clear Ad KK
      refine BD Ji fun KK Ad=>?_
      refine Aw rfl (.tmp 45) (.tmp 55) _ rfl Lf 0 (Bw _) _ l.length _ rfl (H.row 4 rfl) _ 1 1 [.int .i64 z] rfl (AQ (H.blk 7 rfl) rfl) (by simp [Value.oneCell']) (by unfold maxLen;omega) (by omega) ?_
      intro vq wq AR Ay Bb
      replace H:=Aa (H.setRow 4 rfl Ay AR Bb);(try simp only [LS] at H)
      clear AR Ay Bb
      obtain ⟨A2,c2,rfl,_⟩:=Ao (H.row 4 rfl)
      refine Ai Ad ⟨H.blk 6 rfl,(H.blk 5 rfl).cell 6,by rw [←iG.Ab];exact (H.blk 1 rfl).cell 0,by first|exact Ps _ H.to|exact Ps _ H.to.drew⟩ fun hHeld=>?_
      clear Ad KK
      refine BJ KZ ?_
      refine BD Ms fun KK Ad=>?_
      have WB:=(H.blk 3 rfl).cell 0
      replace WB:=WB.trans (show _=some (Value.slice A l.length c) from rfl)
      have fr1:=(H.blk 3 rfl).frozen 0
      go_simp
      replace H:=Aa (H.setCell 3 rfl 0 (.slice A2 (l.length+1) c2));(try simp only [LS] at H)
      clear WB fr1
      refine Ai Ad ⟨H.blk 6 rfl,(H.blk 5 rfl).cell 6,by rw [←iG.Ab];exact (H.blk 1 rfl).cell 0,by first|exact Ps _ H.to|exact Ps _ H.to.drew⟩ fun hHeld=>?_
      clear Ad KK
      refine BX ?_
      clear hHeld
      rw [Wv (l':=l++[z])] at H
      replace H:=Aa (H.Gh [0,1,2,3,4] (by decide) (by simp));(try simp only [LS] at H)
      have E1:l.length+1=(l++[z]).length:=by simp
      have E2:l.map (Value.int .i64)++[Value.int .i64 z]=(l++[z]).map (Value.int .i64):=by simp
      generalize World.setCell _ _ _=wz at H ⊢
      rw [E2] at H
      rw [E1] at H
      clear E1 E2 HLI Ps
      go_wp2_with fail
      rw [←HQA.Ab]
      go_roundg (n - (k+1))
      case rel=>exact ⟨k+1,A2,c2,l++[z],rfl,by omega,by rw [BQ];show l.length+1≤k+1;omega,by go_num,HN,H⟩
      case measure=>rw [Cg.Ab];omega
     ·go_simp
      refine (HLI _ H.to).mono ?_;rintro e' w6 ⟨rfl,hb6⟩
      replace H:=Aa (H.Au hb6)
      clear hb6
      refine Ai Ad ⟨H.blk 6 rfl,(H.blk 5 rfl).cell 6,by rw [←iG.Ab];exact (H.blk 1 rfl).cell 0,by first|exact Ps _ H.to|exact Ps _ H.to.drew⟩ fun hHeld=>?_
      clear Ad KK
      refine NV KG IL (fun KK Ad=>?_) fun KK Ad=>?_
      ·have WB:=(H.blk 3 rfl).cell 0
       replace WB:=WB.trans (show _=some (Value.slice A l.length c) from rfl)
       go_simp
       clear WB
       refine Ai Ad ⟨H.blk 6 rfl,(H.blk 5 rfl).cell 6,by rw [←iG.Ab];exact (H.blk 1 rfl).cell 0,by first|exact Ps _ H.to|exact Ps _ H.to.drew⟩ fun hHeld=>?_
       clear Ad KK
       refine BD IL fun KK Ad=>?_
       refine Bu rfl Lf (.tmp 54) rfl (.int .i64 z) rfl #[.int .i64 z] rfl rfl (by omega) ?_
       replace H:=Aa (H.alloc #[.int .i64 z] 3);(try simp only [LS] at H)
       refine Ai Ad ⟨H.blk 6 rfl,(H.blk 5 rfl).cell 6,by rw [←iG.Ab];exact (H.blk 1 rfl).cell 0,by first|exact Ps _ H.to|exact Ps _ H.to.drew⟩ fun hHeld=>?_
       clear Ad KK
       refine BD Ji fun KK Ad=>?_
       refine Aw rfl (.tmp 45) (.tmp 55) _ rfl Lf 0 (Bw _) _ l.length _ rfl (H.row 4 rfl) _ 1 1 [.int .i64 z] rfl (AQ (H.blk 7 rfl) rfl) (by simp [Value.oneCell']) (by unfold maxLen;omega) (by omega) ?_
       intro vq wq AR Ay Bb
       replace H:=Aa (H.setRow 4 rfl Ay AR Bb);(try simp only [LS] at H)
       clear AR Ay Bb
       obtain ⟨A2,c2,rfl,_⟩:=Ao (H.row 4 rfl)
       refine Ai Ad ⟨H.blk 6 rfl,(H.blk 5 rfl).cell 6,by rw [←iG.Ab];exact (H.blk 1 rfl).cell 0,by first|exact Ps _ H.to|exact Ps _ H.to.drew⟩ fun hHeld=>?_
       clear Ad KK
       refine BJ KZ ?_
       refine BD Ms fun KK Ad=>?_
       have WB:=(H.blk 3 rfl).cell 0
       replace WB:=WB.trans (show _=some (Value.slice A l.length c) from rfl)
       have fr1:=(H.blk 3 rfl).frozen 0
       go_simp
       replace H:=Aa (H.setCell 3 rfl 0 (.slice A2 (l.length+1) c2));(try simp only [LS] at H)
       clear WB fr1
       refine Ai Ad ⟨H.blk 6 rfl,(H.blk 5 rfl).cell 6,by rw [←iG.Ab];exact (H.blk 1 rfl).cell 0,by first|exact Ps _ H.to|exact Ps _ H.to.drew⟩ fun hHeld=>?_
       clear Ad KK
       refine BX ?_
       clear hHeld
       rw [Wv (l':=l++[z])] at H
       replace H:=Aa (H.Gh [0,1,2,3,4] (by decide) (by simp));(try simp only [LS] at H)
       have E1:l.length+1=(l++[z]).length:=by simp
       have E2:l.map (Value.int .i64)++[Value.int .i64 z]=(l++[z]).map (Value.int .i64):=by simp
       generalize World.setCell _ _ _=wz at H ⊢
       rw [E2] at H
       rw [E1] at H
       clear E1 E2 HLI Ps
       go_wp2_with fail
       rw [←HQA.Ab]
       go_roundg (n - (k+1))
       case rel=>exact ⟨k+1,A2,c2,l++[z],rfl,by omega,by rw [BQ];show l.length+1≤k+1;omega,by go_num,HN,H⟩
       case measure=>rw [Cg.Ab];omega
      ·refine Bu rfl Lf (.tmp 54) rfl (.int .i64 z) rfl #[.int .i64 z] rfl rfl (by omega) ?_
       replace H:=Aa (H.alloc #[.int .i64 z] 3);(try simp only [LS] at H)
       refine Ai Ad ⟨H.blk 6 rfl,(H.blk 5 rfl).cell 6,by rw [←iG.Ab];exact (H.blk 1 rfl).cell 0,by first|exact Ps _ H.to|exact Ps _ H.to.drew⟩ fun hHeld=>?_
       clear Ad KK
       refine BD KG fun KK Ad=>?_
       have WB:=(H.blk 3 rfl).cell 0
       replace WB:=WB.trans (show _=some (Value.slice A l.length c) from rfl)
       go_simp
       clear WB
       refine Ai Ad ⟨H.blk 6 rfl,(H.blk 5 rfl).cell 6,by rw [←iG.Ab];exact (H.blk 1 rfl).cell 0,by first|exact Ps _ H.to|exact Ps _ H.to.drew⟩ fun hHeld=>?_
       clear Ad KK
       refine BD Ji fun KK Ad=>?_
       refine Aw rfl (.tmp 45) (.tmp 55) _ rfl Lf 0 (Bw _) _ l.length _ rfl (H.row 4 rfl) _ 1 1 [.int .i64 z] rfl (AQ (H.blk 7 rfl) rfl) (by simp [Value.oneCell']) (by unfold maxLen;omega) (by omega) ?_
       intro vq wq AR Ay Bb
       replace H:=Aa (H.setRow 4 rfl Ay AR Bb);(try simp only [LS] at H)
       clear AR Ay Bb
       obtain ⟨A2,c2,rfl,_⟩:=Ao (H.row 4 rfl)
       refine Ai Ad ⟨H.blk 6 rfl,(H.blk 5 rfl).cell 6,by rw [←iG.Ab];exact (H.blk 1 rfl).cell 0,by first|exact Ps _ H.to|exact Ps _ H.to.drew⟩ fun hHeld=>?_
       clear Ad KK
       refine BJ KZ ?_
       refine BD Ms fun KK Ad=>?_
       have WB:=(H.blk 3 rfl).cell 0
       replace WB:=WB.trans (show _=some (Value.slice A l.length c) from rfl)
       have fr1:=(H.blk 3 rfl).frozen 0
       go_simp
       replace H:=Aa (H.setCell 3 rfl 0 (.slice A2 (l.length+1) c2));(try simp only [LS] at H)
       clear WB fr1
       refine Ai Ad ⟨H.blk 6 rfl,(H.blk 5 rfl).cell 6,by rw [←iG.Ab];exact (H.blk 1 rfl).cell 0,by first|exact Ps _ H.to|exact Ps _ H.to.drew⟩ fun hHeld=>?_
       clear Ad KK
       refine BX ?_
       clear hHeld
       rw [Wv (l':=l++[z])] at H
       replace H:=Aa (H.Gh [0,1,2,3,4] (by decide) (by simp));(try simp only [LS] at H)
       have E1:l.length+1=(l++[z]).length:=by simp
       have E2:l.map (Value.int .i64)++[Value.int .i64 z]=(l++[z]).map (Value.int .i64):=by simp
       generalize World.setCell _ _ _=wz at H ⊢
       rw [E2] at H
       rw [E1] at H
       clear E1 E2 HLI Ps
       go_wp2_with fail
       rw [←HQA.Ab]
       go_roundg (n - (k+1))
       case rel=>exact ⟨k+1,A2,c2,l++[z],rfl,by omega,by rw [BQ];show l.length+1≤k+1;omega,by go_num,HN,H⟩
       case measure=>rw [Cg.Ab];omega
  ·have HRN:Hid (R=some l):=sG HN (by rw [HQL.Ab];omega)
   clear HN
   go_wp2_with (first|((with_reducible refine OP 59 ?_);(refine Cx BM (H.blk 3 rfl) ?_))|((with_reducible refine OS 6 ?_);(refine Ec BM H 2 rfl ((AV.mk ⟨A,l.length,c,l⟩ f.ag).cs) (FC _) ?_;clear H;intro wq H;(try simp only [LS] at H))))
   (try simp only [Act.put,LP])
   refine Ce (AJ rfl BM rfl (H.blk 2 rfl) rfl) rfl ?_
   rw [HRN.Ab]
   exact ⟨A,c,rfl,H.to,H.yF 4 rfl⟩
theorem TK:∀ {ds:List DC} {ps:List PC} {ks l:List Int},(∀ d ∈ ds,Ba d=0)→ps.length=ds.length→Cn ds ps=0→NL ds ks→Eh ds ps ks=some l→(∀ z ∈ l,AP z)∧l.length≤ds.length
 |[],[],[],l,_,_,_,_,h=>by
  simp only [Eh] at h
  injection h with h;subst h;exact ⟨fun z hz=>(by cases hz),BZ _⟩
 |d::ds,p::ps,k::ks,l,hok,hl,hp,hk,h=>by
  have hp1:CB d p=0:=by
   rw [Cn] at hp;split at hp;· (rename_i h1;exact absurd hp h1)
   ·rename_i h1;exact Ob.1 h1
  have hp2:Cn ds ps=0:=by rw [Cn,Ah (by simp [hp1])] at hp;exact hp
  rw [Eh] at h
  split at h
  ·cases hr:Eh ds ps ks with
   |none=>rw [hr] at h;cases h
   |some m=>
    rw [hr] at h
    simp only [Option.map_some] at h
    injection h with h
    subst h
    obtain ⟨i1,i2⟩:=TK (fun x hx=>hok x (EO _ hx)) (by simpa using hl) hp2 hk.2 hr
    have hb:=(Ja hp1).b
    cases hg:p.g with
    |false=>
     rw [Ah (by simp)]
     exact ⟨i1,by rw [CZ];omega⟩
    |true=>
     rcases hb with ⟨_,b0,b1⟩|⟨hx,_⟩
     ·have hde:=hok d Dr
      obtain ⟨_,_,_,d5⟩:=Ej hde
      have hA:=FR d5
      obtain ⟨⟨k0,k1⟩,_⟩:=hk
      obtain ⟨n,rfl⟩:∃ n:Nat,k=n:=⟨k.toNat,by omega⟩
      obtain ⟨b,hbb⟩:∃ n:Nat,p.MN=n:=⟨p.MN.toNat,by omega⟩
      have hlt:b<d.AB.length:=by omega
      have hlw:=Ow hA (f:=0) (t:=b) (i:=n) (by omega) hlt (by omega)
      have e2:Ed d.AB b=d.AB[b].ts.length:=by unfold Ed;rw [Ep hlt]
      have h200:=(KH hde d.AB[b] (List.getElem_mem hlt)).2
      rw [e2] at hlw
      have hlw0:=hlw.2.1
      have hlw1:=hlw.2.2
      simp only [Int.natCast_zero] at hlw0 hlw1
      rw [Ak rfl,hbb]
      refine ⟨fun z hz=>?_,by rw [CZ,CZ];omega⟩
      rcases En.1 hz with rfl|hz
      ·unfold AP;omega
      ·exact i1 z hz
     ·rw [hg] at hx;cases hx
  ·cases h
 |[],[],_::_,_,_,_,_,hk,_=>hk.elim
 |[],_::_,_,_,_,hl,_,_,_=>by simp at hl
 |_::_,[],_,_,_,hl,_,_,_=>by simp at hl
 |_::_,_::_,[],_,_,_,_,hk,_=>hk.elim
theorem LW:∀ {ds:List DC} {ps:List PC} {ks:List Int} {acc ts:List (List UInt8)},(∀ d ∈ ds,∀ tr ∈ d.AB,∀ t ∈ tr.ts,t.length≤16)→(∀ t ∈ acc,t.length≤16)→Ch ds ps ks acc=.ok ts→(∀ t ∈ ts,t.length≤16)∧ts.length≤acc.length+ds.length
 |d::ds,p::ps,ks,acc,ts,hd,ha,h=>by
  have hd2:∀ x ∈ ds,∀ tr ∈ x.AB,∀ t ∈ tr.ts,t.length≤16:=fun x hx=>hd x (EO _ hx)
  rw [Ch] at h
  split at h
  ·cases ht:d.AB[p.MN.toNat]? with
   |none=>rw [ht] at h;cases h
   |some tr=>
    rw [ht] at h
    simp only at h
    match ks,h with
    |[],h=>cases h
    |k::ks,h=>
     simp only at h
     split at h
     ·cases h
     ·cases hx:tr.ts[k.toNat]? with
      |none=>rw [hx] at h;cases h
      |some t=>
       rw [hx] at h
       simp only at h
       have ht2:=hd d Dr tr (CE ht) t (CE hx)
       obtain ⟨i1,i2⟩:=LW hd2 (fun y hy=>(DT.1 hy).elim (ha y) (fun h=>by rw [Dt] at h;subst h;exact ht2)) h
       refine ⟨i1,?_⟩
       rw [BQ] at i2
       rw [CZ]
       simp only [CZ,KM] at i2
       omega
  ·obtain ⟨i1,i2⟩:=LW hd2 ha h
   exact ⟨i1,by rw [CZ];omega⟩
 |[],ps,[],acc,ts,_,ha,h=>by
  simp only [Ch] at h
  injection h with h
  subst h
  exact ⟨ha,by simp⟩
 |[],ps,_::_,acc,ts,_,ha,h=>by
  simp only [Ch] at h
  cases h
 |d::ds,[],[],acc,ts,_,ha,h=>by
  simp only [Ch] at h
  injection h with h
  subst h
  exact ⟨ha,by simp⟩
 |d::ds,[],_::_,acc,ts,_,ha,h=>by
  simp only [Ch] at h
  cases h
theorem qY {s:SC} (hE:Ap s=0):∀ d ∈ s.DF,∀ tr ∈ d.AB,∀ t ∈ tr.ts,t.length≤16:=fun d hd tr htr t ht=>((oH hE d hd).2.2 tr htr).2.1 t ht
theorem dP {s:SC} {q:List PC} {ks:List Int} {ts:List (List UInt8)} (hE:Bl s q=0) (h:Dx s q ks=.ok ts):(∀ t ∈ ts,t.length≤16)∧ts.length≤16:=by
 obtain ⟨h1,h2,h3⟩:=Em hE
 unfold Dx at h
 rw [Ah (by simp [hE])] at h
 obtain ⟨i1,i2⟩:=LW (qY h1) (fun t ht=>by cases ht) h
 have:=(BA h1).2.1
 exact ⟨i1,by simp only [KM] at i2;omega⟩
theorem eP {s:SC} {q:List PC} {l:List BS} {k:Nat} {f:BS} (h:l[k]?=some f):CW s q (l.take (k+1))=CW s q (l.take k)++(match Eh s.DF q f.1 with|none=>[]|some ks=>[(ks,f.2)]):=by
 unfold CW
 rw [Tw,h,List.filterMap_append]
 cases hp:Eh s.DF q f.1<;>simp [hp]
theorem kR {s:SC} {q:List PC} {l:List BS} {k:Nat} {f:BS} (h:l[k]?=some f):QI s q (l.take (k+1))=QI s q (l.take k)++[(QH s q f.1,f.2)]:=by
 unfold QI
 rw [Tw,h,BR]
 simp
theorem uL {f:AV} {w:World} (h:(Cb 3 1 (.slice f.ks.A f.ks.n f.ks.c) f.ks.n (f.ks.l.map (Value.int .i64))).holds w) (hk:∀ z ∈ f.ks.l,AP z) (hn:f.ks.n≤1000000) (ha:f.ag.ok):(rH f).holds w:=
 ⟨h.1,fun w' hs hk'=>⟨QD (x:=f.ks) (by rw [EX];exact h.2 w' hs hk') hk (by show f.ks.n * 8≤_;omega),ha⟩⟩
theorem U0 {A:Option Addr} {n c:Nat} {L:List AV} {w:World} (h1:(Cb 97 11 (.slice A n c) n (L.flatMap Ar.cells)).holds w) (h2:(Ig rH L).holds w) (hn:n≤1000000):(Row.mk A n c L).ok w:=
 QD (x:=⟨A,n,c,L⟩) h1.now (fun f hf=>(h2.now.1 f hf).now) (by show n * 104≤_;omega)
abbrev jU (g:NR):EE:=⟨(Cb 9 1 (.slice g.ks.A g.ks.n g.ks.c) g.ks.n (g.ks.l.map tx)).D,fun w=>g.rd w⟩
theorem uK {g:NR} {w:World} (h:(Cb 9 1 (.slice g.ks.A g.ks.n g.ks.c) g.ks.n (g.ks.l.map tx)).holds w) (hk:∀ z ∈ g.ks.l,z.length≤16) (hn:g.ks.n≤1000000) (ha:g.ag.ok):(jU g).holds w:=
 ⟨h.1,fun w' hs hk'=>⟨⟨by rw [FQ];exact Rd.Bf (h.2 w' hs hk'),fun t ht=>by have:=hk t ht;show t.length≤_;omega,by omega⟩,ha⟩⟩
theorem R7 {A:Option Addr} {n c:Nat} {L:List NR} {w:World} (h1:(Cb 136 11 (.slice A n c) n (L.flatMap Ar.cells)).holds w) (h2:(Ig jU L).holds w) (hn:n≤1000000):(Row.mk A n c L).rd w:=
 ⟨Rd.Bf h1.now,fun f hf=>(h2.now.1 f hf).now,by show n≤_;omega⟩
theorem q9 (f:NR):∀ u ∈ f.cs.toList,u.oneCell'=true:=fun u hu=>NB.1 (R8 f) u (by simpa using hu)
theorem Aa4:BC prog 46 136 11 104:=BC.mk' (z:=.agg #[.slice none 0 0,.int .i64 0,.int .i64 0,.int .i64 0,.int .i64 0,.int .i64 0,.int .i64 0,.int .i64 0,.int .i64 0,.int .i64 0,.int .i64 0]) underlying46 (by kernel_rfl) rfl (by omega)
theorem vQ (A:Option Addr) (n c:Nat) (l:List (List UInt8)) (a:Ag) (w:World):(Instr.build 136 #[(0,.slice A n c),(1,.agg a.cs)]).run prog w=.ok (.agg (NR.mk ⟨A,n,c,l⟩ a).cs) w:=by kernel_rfl
theorem Vm (x:Py) (E:Ct):Dp x.ms 0 E.cs.toList=(Py.mk E x.rows x.has x.closed).ms:=by
 simp [Dp]
def gI (T:Nat→Prop) (B:Nat) (o:MC × Int) (w:World) (e:Ending) (w':World):Prop:=
 ∃ y:Py,e=.returned (.agg (Io.err o.2).cs)∧Fr (One B) w w'∧Br w' B 86 y.ms∧y.Ac=o.1∧ET T w' fun w=>y.rd w
theorem dV (T:Nat→Prop) (B:Nat) (x:Py) (c:NS) (w:World) (hb:Br w B 86 x.ms) (hT:∀ g,T g→g<w.heap.size) (wP:T B) (hx:ET T w fun w=>x.rd w) (hc:c.data.length≤140737488351232):
 Calls prog 34 #[.pointer (some ⟨B,0,none⟩),.agg c.cs] w (gI T B (Ij x.Ac c.data) w):=by
 have Us:=Aa (fun w'=>bA c.data w' hc)
 have HX:=Aa hx
 have wR:=Aa (fun w' (k:Fr (One B) w w')=>hx w' (k.mono fun g (hg:g=B)=>hg ▸ wP))
 have Jg:=Aa (fun w' (k:Fr (One B) w w')=>hx.fr (k.mono fun g (hg:g=B)=>hg ▸ wP))
 have wS:=Aa hT
 have H:=Aa (((SL.blk1 w hb).alloc c.cs 41).alloc #[.int .i64 0,.slice none 0 0,.slice none 0 0] 49)
 (try simp only [LS] at H)
 clear hb hT hx hc
 go_enter func34,ntmps34
 go_upto_region 1 with fail
 generalize w.heap.size+1=y at H ⊢
 generalize w.heap.size=q at H ⊢
 generalize World.alloc (World.alloc _ _) _=w0 at H ⊢
 have c10:w0.cell? ⟨B,10,none⟩=some (.bool x.has):=(H.blk 0 rfl).cell 10
 cases hh:x.has with
 |true=>
  have HO:Hid (Ij x.Ac c.data=(x.Ac,11)):=by show _=_;unfold Ij;rw [Ak (show x.Ac.has=true from hh)]
  have HR:Hid (x=⟨x.ct,x.rows,true,x.closed⟩):=by show _=_;rw [←hh]
  rw [hh] at c10
  go_wp2_with fail
  clear c10
  refine (CF 11 w0).mono ?_;rintro e wf ⟨rfl,hbf⟩
  replace H:=Aa (H.Au hbf)
  clear hbf
  go_wp2_with ((with_reducible refine OS 4 ?_);(refine Ec Bh H 2 rfl ((Io.err (11)).cs) (CL _) ?_;clear H;intro wq H;(try simp only [LS] at H)))
  (try simp only [Act.put,LP])
  refine Ce (Aq rfl Bh rfl (H.blk 2 rfl) rfl) rfl ?_
  rw [HO.Ab]
  exact ⟨x,rfl,H.fr,H.blk 0 rfl,rfl,Jg _ H.fr⟩
 |false=>
  have HHF:Hid (x.Ac.has=false):=hh
  rw [hh] at c10
  have c1:w0.cell? ⟨q,1,none⟩=some (.string ⟨c.data.toArray⟩):=(H.blk 1 rfl).cell 1
  go_wp2_with fail
  refine (Us w0).mono ?_;rintro e w1 ⟨D,rfl,hD,hb1,hN⟩
  replace H:=Aa (H.add hb1 _ hN.1 hN.2);(try simp only [LS] at H)
  have HD:=Aa hD
  clear hD hb1 hN c10 c1 Us
  go_upto_region 4 with ((with_reducible refine OS 5 ?_);(refine Fu BL (D.cs) (Uv D) ?_;replace H:=Aa (H.alloc (D.cs) 25);(try simp only [LS] at H)))
  (try simp only [Act.put,LP])
  (try simp only [LS] at H)
  generalize w1.heap.size=z at H ⊢
  generalize World.alloc w1 _=w2 at H ⊢
  obtain ⟨K,hK⟩:∃ K,K=(Ff c.data).2:=⟨_,rfl⟩
  rw [←hK]
  have HK:=Aa hK
  clear hK
  by_cases hz:K=0
  ·have HO:Hid (Ij x.Ac c.data=(⟨⟨(Ff c.data).1,0,0,0,0,0,0,0⟩,x.Ac.rows,true,x.Ac.closed⟩,0)):=by show _=_;unfold Ij;rw [Ah (by rw [HHF.Ab];decide),Ah (by rw [←HK.Ab,hz];decide)]
   have HE:Hid (Ap D.Ac=0):=by show _=_;rw [HD.Ab];exact Rk (by rw [←HK.Ab,hz])
   have dk:(K !=0)=false:=by simpa using hz
   clear HK hz
   go_wp2_with ((with_reducible refine OP 24 ?_);(refine Cx BL (H.blk 4 rfl) ?_))
   refine (fH D w2 (H.at_ 3 rfl).rd (IW (H.at_ 3 rfl))).mono ?_;rintro e w3 ⟨E,rfl,hE,hEr,hEm,hb3,hN⟩
   replace H:=Aa (H.add hb3 _ hN.1 hN.2);(try simp only [LS] at H)
   have HEC:Hid (E.Ac=⟨D.Ac,0,0,0,0,0,0,0⟩):=by show _=_;rw [hE];unfold WI;rw [Ah (by rw [HE.Ab];decide)]
   have HEI:=Aa (And.intro hEr.ints hEm)
   clear hE hEr hEm hb3 hN
   go_upto_region 7 with ((with_reducible refine OS 29 ?_);refine Bd rfl Cw (.tmp 29) (.tmp 26) rfl B 0 rfl (H.blk 0 rfl) E.cs rfl (by simp) rfl (WA E) ?_;intro wq bq Ay;rw [Vm] at bq;replace H:=Aa (H.AY 0 rfl Ay bq);(try simp only [LS] at H);clear Ay bq)
   (try simp only [Act.put,LP])
   have cz:=(H.blk 0 rfl).Am 10;have fz:=(H.blk 0 rfl).frozen 10
   go_wp2_with fail
   replace H:=Aa (H.setCell 0 rfl 10 (.bool true));(try simp only [LS] at H)
   clear cz fz
   refine (CF 0 _).mono ?_;rintro e wf ⟨rfl,hbf⟩
   replace H:=Aa (H.Au hbf)
   clear hbf
   go_wp2_with ((with_reducible refine OS 4 ?_);(refine Ec Bh H 2 rfl ((Io.err (0)).cs) (CL _) ?_;clear H;intro wq H;(try simp only [LS] at H)))
   (try simp only [Act.put,LP])
   refine Ce (Aq rfl Bh rfl (H.blk 2 rfl) rfl) rfl ?_
   have h3:=(ET.VK (T:=T) (r:=KU E.sc) ⟨H.get 5 rfl,H.RB 5 0 (by decide) rfl rfl rfl⟩ wS.Ab)
   have h4:=Jg _ H.fr
   rw [HO.Ab]
   refine ⟨⟨E,x.rows,true,x.closed⟩,rfl,H.fr,H.blk 0 rfl,?_,fun wz kz=>⟨HEI.1.rd (h3 wz kz),HEI.2,(h4 wz kz).rows⟩⟩
   show MC.mk E.Ac _ true _=_
   rw [HEC.Ab,HD.Ab]
   rfl
  ·have HO:Hid (Ij x.Ac c.data=(x.Ac,K)):=by show _=_;unfold Ij;rw [Ah (by rw [HHF.Ab];decide),Ak (by rw [←HK.Ab];exact hz),←HK.Ab]
   have dk:(K !=0)=true:=by simpa using hz
   clear HK hz
   go_wp2_with fail
   refine (CF K w2).mono ?_;rintro e wf ⟨rfl,hbf⟩
   replace H:=Aa (H.Au hbf)
   clear hbf
   go_wp2_with ((with_reducible refine OS 4 ?_);(refine Ec Bh H 2 rfl ((Io.err (K)).cs) (CL _) ?_;clear H;intro wq H;(try simp only [LS] at H)))
   (try simp only [Act.put,LP])
   refine Ce (Aq rfl Bh rfl (H.blk 2 rfl) rfl) rfl ?_
   rw [HO.Ab]
   exact ⟨x,rfl,H.fr,H.blk 0 rfl,rfl,Jg _ H.fr⟩
theorem YQ {X:Row Rw} {L:List (Row Int)} {A:Option Addr} {c:Nat} {w:World} (hL:L.map Row.l=X.l.map (fun r=>r.vs.l)) (hn:X.l.length≤1000000) (hs:∀ r ∈ X.l,r.vs.l.length≤3∧∀ v ∈ r.vs.l,AP v)
 (h1:(Cb 36 1 (.slice A X.l.length c) X.l.length (L.map Row.v)).holds w) (h2:(Ig rIv L).holds w):(Row.mk A X.l.length c L).rd w:=by
 have o1:w.ownsRow 0 36 1 (.slice A X.l.length c) X.l.length (L.map Row.v):=h1.now
 have hlen:L.length=X.l.length:=by have h:=Cm List.length hL;rw [Cq,Cq] at h;exact h
 refine ⟨by show Rd _ _ _ _ (L.flatMap _);rw [vB];exact Rd.Bf o1,fun y hy=>?_,by show X.l.length≤_;omega⟩
 have o2:w.ownsRow 0 2 1 (.slice y.A y.n y.c) y.n (y.l.map (Value.int .i64)):=(h2.now.1 y hy).now
 have hl:y.l.length=y.n:=by have:=o2.1;rw [Cq] at this;omega
 have hm:y.l ∈ X.l.map (fun r=>r.vs.l):=by rw [←hL];exact GZ.2 ⟨y,hy,rfl⟩
 obtain ⟨r,hr,e⟩:=GZ.1 hm
 have h3:=hs r hr
 rw [e] at h3
 exact QD (by rw [EX];exact o2) h3.2 (by show y.n * 8≤_;omega)
theorem Yh (T:Nat→Prop) (B:Nat) (x:Py) (c:NS) (w:World) (hb:Br w B 86 x.ms) (hT:∀ g,T g→g<w.heap.size) (wP:T B) (hx:ET T w fun w=>x.rd w) (hc:c.data.length≤140737488351232) (hi:MInv x.Ac) (hh:x.has=true):
 Calls prog 35 #[.pointer (some ⟨B,0,none⟩),.agg c.cs] w (gI T B (Fv x.Ac c.data) w):=by
 have hx0:=hx.now
 have hsm:=hx0.sm
 have K4:=Aa hsm
 have HBT:=Aa (fun w' (hr:x.ct.sc.rd w')=>fP x.ct.sc c.data w' hr hc hsm.1 hsm.2.1 hsm.2.2)
 have eB:x.rows.n≤4000:=by have h1:=hi.len;have h2:=hx0.rows.len;have h3:x.Ac.rows.length=x.rows.l.length:=AL _;omega
 have HCF:=Aa (fun w' (hr:x.rows.ok w')=>mM x.rows w' hr (by omega))
 have HX:=Aa hx
 have wR:=Aa (fun w' (k:Fr (One B) w w')=>hx w' (k.mono fun g (hg:g=B)=>hg ▸ wP))
 have Jg:=Aa (fun w' (k:Fr (One B) w w')=>hx.fr (k.mono fun g (hg:g=B)=>hg ▸ wP))
 have wS:=Aa hT
 have H:=Aa (((SL.blk1 w hb).alloc c.cs 41).alloc #[.int .i64 0,.slice none 0 0,.slice none 0 0] 49)
 (try simp only [LS] at H)
 clear hb hT hx hc hx0 hsm hi hh
 go_enter func35,ntmps35
 go_upto_region 1 with fail
 generalize w.heap.size+1=y at H ⊢
 generalize w.heap.size=q at H ⊢
 generalize World.alloc (World.alloc _ _) _=w0 at H ⊢
 refine' wY (P:=fun (X:Row Rw) wq=>X.l.map Rw.Ac=(Dn x.ct.sc.Ac c.data).1∧SL (One B) w wq [Av B 86 x.ms,Av q 41 c.cs,Av y 49 #[.int .i64 0,.slice none 0 0,.slice none 0 0],jV X]) (fun key=>?mn) ?tl
 case mn=>
  refine EG (S:=fun W=>Br W B 86 x.ms∧W.cell? ⟨q,1,none⟩=some (.string ⟨c.data.toArray⟩)) (by kernel_rfl) ⟨H.blk 0 rfl,(H.blk 1 rfl).cell 1⟩ fun hHeld=>?_
  replace H:=Aa (H.drew)
  generalize World.drew _=w8 at *
  refine BJ NG ?_
  refine BJ KG ?_
  refine BJ NW ?_
  refine BJ KF ?_
  refine QZ (i:=4) (v:=.agg x.ct.sc.cs) Mr (by kernel_rfl) (by kernel_rfl) (by kernel_rfl) (by exact fun _ _ _ h=>h) (Fb BL (by rfl) (.tmp 14) rfl B 0 rfl (fun w h=>Br.part h.1 0 x.ct.sc.cs.toList rfl) rfl) (by assumption) ?_
  try simp only [Act.put,LP]
  refine BJ Lv ?_
  refine BJ Mq ?_
  refine BD LX fun KK Ad=>?_
  go_simp
  refine (HBT _ (wR _ H.fr).ct.sc).mono ?_;rintro e' w1 ⟨X,rfl,hX,hb1,hN⟩
  replace H:=Aa (H.add hb1 _ hN.1 hN.2);(try simp only [LS] at H)
  have qB:=Aa hX
  clear hX hb1 hN
  refine Ai Ad ⟨H.blk 0 rfl,(H.blk 1 rfl).cell 1⟩ fun hHeld=>?_
  clear Ad KK
  refine BJ Px ?_
  refine BJ Qb ?_
  refine BJ Jj ?_
  refine BJ IL ?_
  refine BJ Ji ?_
  refine BX ?_
  clear hHeld
  exact key X _ ⟨qB.Ab,H.Ab⟩
 case tl=>
  rintro X wq ⟨hX,hH⟩
  replace H:=Aa hH
  clear hH HBT
  (try simp only at H)
  obtain ⟨O,hO⟩:∃ O,O=Dn x.ct.sc.Ac c.data:=⟨_,rfl⟩
  rw [←hO] at hX ⊢
  have nM:=Aa hO
  clear hO
  obtain ⟨R,K⟩:=O
  simp only at hX ⊢
  by_cases hK:K=0
  ·subst hK
   have hB:BF x.ct.sc.Ac R=0:=by have h:=RY (s:=x.ct.sc.Ac) (b:=c.data) (by rw [←nM.Ab]);rw [←nM.Ab] at h;exact h
   obtain ⟨b1,b2,b3⟩:=DK hB
   have hXr:=(H.at_ 3 rfl:X.rd wq∧X.n≤300)
   have hxl:X.l.length=X.n:=hXr.1.len
   have I8:Hid (X.l.length≤1000000):=by show _≤_;omega
   have hvs:∀ r ∈ X.l,r.vs.l.length≤3∧∀ v ∈ r.vs.l,AP v:=fun r hr=>by
    have hm:r.Ac ∈ R:=by rw [←hX];exact GZ.2 ⟨r,hr,rfl⟩
    obtain ⟨ks,hk⟩:=b3 r.Ac hm
    exact ⟨(OM b1 hk).2.1,(Rw.rd.vs (hXr.1.all r hr)).all⟩
   have V8:=Aa hvs
   have HVA:=Aa (fun w' (hr:X.rd w')=>iO X w' hr (by omega) (fun r h=>by have h1:=(hvs r h).1;have h2:=(Rw.rd.vs (hr.all r h)).len;omega))
   have HVR:Hid (X.l.map (fun r=>r.vs.l)=R.map (·.vs)):=by show _=_;rw [←hX,UO];rfl
   have qB:Hid (X.l.map Rw.Ac=R):=hX
   have HBE:=Aa hB
   have hx3:=hXr.2
   clear hB b1 b2 b3 hXr hxl hvs hX
   go_upto_region 4 with fail
   obtain ⟨G,hG⟩:∃ G,G=BO x.ct.Ac (R.map (·.vs)):=⟨_,rfl⟩
   refine' qJ (P:=fun z (VA:Option Addr) (vc:Nat) (D:Ct) wr=>D.Ac=(BO x.ct.Ac (R.map (·.vs))).1∧(D.ints∧SmS D.sc)∧SL (One B) w wr [Av B 86 x.ms,Av q 41 c.cs,Av y 49 #[.int .i64 0,.slice none 0 0,.slice none 0 0],jV X,KU D.sc,Av z 63 D.cs]) (fun key=>?mn2) ?tl2
   case mn2=>
    refine EG (S:=fun W=>Br W B 86 x.ms) (by kernel_rfl) (H.blk 0 rfl) fun hHeld=>?_
    replace H:=Aa (H.drew)
    generalize World.drew _=w8 at *
    refine BJ NG ?_
    refine BJ KG ?_
    refine BJ NW ?_
    refine QZ (i:=3) (v:=.agg x.ct.cs) KF (by kernel_rfl) (by kernel_rfl) (by kernel_rfl) (by exact fun _ _ _ h=>h) (Fb Cw (by rfl) (.tmp 28) rfl B 0 rfl (fun w h=>Br.part h 0 x.ct.cs.toList rfl) rfl) (by assumption) ?_
    try simp only [Act.put,LP]
    refine BJ Mr ?_
    refine NV Lv Jj (fun KK Ad=>?_) fun KK Ad=>?_
    ·go_simp
     refine (HVA _ (H.at_ 3 rfl).1).mono ?_;rintro e' w5 ⟨VA,vc,L,rfl,hL,hV⟩
     replace H:=Aa (H.join hV);(try simp only [LS] at H)
     have HL:=Aa hL
     clear hL hV
     refine Ai Ad (H.blk 0 rfl) fun hHeld=>?_
     clear Ad KK
     refine NV Mq Jj (fun KK Ad=>?_) fun KK Ad=>?_
     ·go_simp
      refine (Nl x.ct ⟨VA,X.l.length,vc,L⟩ _ (wR _ H.fr).ct K4 (YQ HL I8 V8 (H.get 4 rfl) (H.get 5 rfl)) I8.Ab).mono ?_;rintro e' w6 ⟨D,rfl,hD,IJ,hDm,hb6,hN⟩
      replace H:=Aa (H.add hb6 _ hN.1 hN.2);(try simp only [LS] at H)
      have p9:L.map (fun y=>y.l)=R.map (·.vs):=HL.trans HVR.Ab
      simp only at hD
      rw [p9] at hD
      rw [p9]
      have HD:=Aa hD
      have HDI:=Aa (And.intro IJ.ints hDm)
      clear hD IJ hDm hb6 hN p9 HL
      refine Ai Ad (H.blk 0 rfl) fun hHeld=>?_
      clear Ad KK
      refine BJ LX ?_
      refine BJ Px ?_
      refine BJ Qb ?_
      refine BD Jj fun KK Ad=>?_
      go_simp
      replace H:=Aa (H.alloc #[.slice none 0 0,.slice none 0 0,.int .i64 0,.int .i64 0,.int .i64 0,.int .i64 0,.int .i64 0,.int .i64 0,.int .i64 0] 63);(try simp only [LS] at H)
      generalize w6.heap.size=z at H ⊢
      generalize World.alloc w6 _=w7 at H ⊢
      refine Ai Ad (H.blk 0 rfl) fun hHeld=>?_
      clear Ad KK
      refine BD IL fun KK Ad=>?_
      refine EU rfl Cw (.tmp 7) (.tmp 33) rfl _ rfl (H.blk 7 rfl) rfl (D.cs) rfl rfl (WA D) ?_
      intro wq bq Ay
      replace H:=Aa (H.AY 7 rfl Ay bq);(try simp only [LS] at H)
      clear Ay bq
      refine Ai Ad (H.blk 0 rfl) fun hHeld=>?_
      clear Ad KK
      refine BJ Ji ?_
      refine BX ?_
      clear hHeld
      replace H:=Aa (H.Gh [0,1,2,3,6,7] (by decide) (by simp));(try simp only [LS] at H)
      exact key z VA vc D _ ⟨HD.Ab,HDI.Ab,H.Ab⟩
     ·go_simp
      replace H:=Aa (H.alloc #[.slice none 0 0,.slice none 0 0,.int .i64 0,.int .i64 0,.int .i64 0,.int .i64 0,.int .i64 0,.int .i64 0,.int .i64 0] 63);(try simp only [LS] at H)
      generalize w5.heap.size=z at H ⊢
      generalize World.alloc w5 _=w7 at H ⊢
      refine Ai Ad (H.blk 0 rfl) fun hHeld=>?_
      clear Ad KK
      refine BD Mq fun KK Ad=>?_
      go_simp
      refine (Nl x.ct ⟨VA,X.l.length,vc,L⟩ _ (wR _ H.fr).ct K4 (YQ HL I8 V8 (H.get 4 rfl) (H.get 5 rfl)) I8.Ab).mono ?_;rintro e' w6 ⟨D,rfl,hD,IJ,hDm,hb6,hN⟩
      replace H:=Aa (H.add hb6 _ hN.1 hN.2);(try simp only [LS] at H)
      have p9:L.map (fun y=>y.l)=R.map (·.vs):=HL.trans HVR.Ab
      simp only at hD
      rw [p9] at hD
      rw [p9]
      have HD:=Aa hD
      have HDI:=Aa (And.intro IJ.ints hDm)
      clear hD IJ hDm hb6 hN p9 HL
      refine Ai Ad (H.blk 0 rfl) fun hHeld=>?_
      clear Ad KK
      refine BJ LX ?_
      refine BJ Px ?_
      refine BJ Qb ?_
      refine BD IL fun KK Ad=>?_
      refine EU rfl Cw (.tmp 7) (.tmp 33) rfl _ rfl (H.blk 6 rfl) rfl (D.cs) rfl rfl (WA D) ?_
      intro wq bq Ay
      replace H:=Aa (H.AY 6 rfl Ay bq);(try simp only [LS] at H)
      clear Ay bq
      refine Ai Ad (H.blk 0 rfl) fun hHeld=>?_
      clear Ad KK
      refine BJ Ji ?_
      refine BX ?_
      clear hHeld
      replace H:=Aa (H.Gh [0,1,2,3,7,6] (by decide) (by simp));(try simp only [LS] at H)
      exact key z VA vc D _ ⟨HD.Ab,HDI.Ab,H.Ab⟩
    ·go_simp
     replace H:=Aa (H.alloc #[.slice none 0 0,.slice none 0 0,.int .i64 0,.int .i64 0,.int .i64 0,.int .i64 0,.int .i64 0,.int .i64 0,.int .i64 0] 63);(try simp only [LS] at H)
     generalize w8.heap.size=z at H ⊢
     generalize World.alloc w8 _=w7 at H ⊢
     refine Ai Ad (H.blk 0 rfl) fun hHeld=>?_
     clear Ad KK
     refine BD Lv fun KK Ad=>?_
     go_simp
     refine (HVA _ (H.at_ 3 rfl).1).mono ?_;rintro e' w5 ⟨VA,vc,L,rfl,hL,hV⟩
     replace H:=Aa (H.join hV);(try simp only [LS] at H)
     have HL:=Aa hL
     clear hL hV
     refine Ai Ad (H.blk 0 rfl) fun hHeld=>?_
     clear Ad KK
     refine BD Mq fun KK Ad=>?_
     go_simp
     refine (Nl x.ct ⟨VA,X.l.length,vc,L⟩ _ (wR _ H.fr).ct K4 (YQ HL I8 V8 (H.get 5 rfl) (H.get 6 rfl)) I8.Ab).mono ?_;rintro e' w6 ⟨D,rfl,hD,IJ,hDm,hb6,hN⟩
     replace H:=Aa (H.add hb6 _ hN.1 hN.2);(try simp only [LS] at H)
     have p9:L.map (fun y=>y.l)=R.map (·.vs):=HL.trans HVR.Ab
     simp only at hD
     rw [p9] at hD
     rw [p9]
     have HD:=Aa hD
     have HDI:=Aa (And.intro IJ.ints hDm)
     clear hD IJ hDm hb6 hN p9 HL
     refine Ai Ad (H.blk 0 rfl) fun hHeld=>?_
     clear Ad KK
     refine BJ LX ?_
     refine BJ Px ?_
     refine BJ Qb ?_
     refine BD IL fun KK Ad=>?_
     refine EU rfl Cw (.tmp 7) (.tmp 33) rfl _ rfl (H.blk 4 rfl) rfl (D.cs) rfl rfl (WA D) ?_
     intro wq bq Ay
     replace H:=Aa (H.AY 4 rfl Ay bq);(try simp only [LS] at H)
     clear Ay bq
     refine Ai Ad (H.blk 0 rfl) fun hHeld=>?_
     clear Ad KK
     refine BJ Ji ?_
     refine BX ?_
     clear hHeld
     replace H:=Aa (H.Gh [0,1,2,3,7,4] (by decide) (by simp));(try simp only [LS] at H)
     exact key z VA vc D _ ⟨HD.Ab,HDI.Ab,H.Ab⟩
   case tl2=>
    rintro z VA vc D wr ⟨hD,hDI,hH⟩
    replace H:=Aa hH
    clear hH HVA
    (try simp only at H)
    rw [←hG] at hD ⊢
    have HG:=Aa hG
    clear hG
    obtain ⟨GC,GK⟩:=G
    simp only at hD ⊢
    have HD:=Aa hD
    have HDI:=Aa hDI
    clear hD hDI
    by_cases hK:GK=0
    ·subst hK
     have HO:Hid (Fv x.Ac c.data=(⟨GC,x.Ac.rows++R.map (Gz x.ct.sc.Ac),x.has,x.closed⟩,0)):=by
      show _=_
      unfold Fv
      rw [show x.Ac.cat=x.ct.Ac from rfl,show x.ct.Ac.sc=x.ct.sc.Ac from rfl,←nM.Ab]
      simp only
      rw [←HG.Ab]
      rfl
     have HBF:=Aa (fun w' (hs:x.ct.sc.rd w') (hr:X.rd w')=>ZH x.ct.sc X w' hs hr K4.1 K4.2.1 K4.2.2 (by rw [qB.Ab];exact HBE.Ab))
     clear nM HG HBE
     go_wp2_with ((with_reducible refine OP 44 ?_);refine Ae rfl BL (.tmp 43) rfl B 0 rfl x.ct.sc.cs rfl ((H.blk 0 rfl).part 0 x.ct.sc.cs.toList rfl) ?_)
     refine (HBF _ (wR _ H.fr).ct.sc (H.at_ 3 rfl).1).mono ?_;rintro e w8 ⟨F,rfl,hFn,hFc,hb8,hN⟩
     replace H:=Aa (H.add hb8 _ hN.1 hN.2);(try simp only [LS] at H)
     have HFC:Hid (F.l.map AV.Ac=R.map (Gz x.ct.sc.Ac)):=by show _=_;rw [hFc,qB.Ab]
     have hF3:F.n≤300:=(H.at_ 6 rfl).2
     clear hFn hFc hb8 hN HBF
     go_upto_region 8 with fail
     refine EG (S:=fun W=>Br W z 63 D.cs) (by kernel_rfl) (H.blk 5 rfl) fun hHeld=>?_
     replace H:=Aa (H.drew)
     generalize World.drew _=w8 at *
     refine BJ NG ?_
     refine BJ KG ?_
     refine QZ (i:=2) (v:=.agg D.cs) NW (by kernel_rfl) (by kernel_rfl) (by kernel_rfl) (by exact fun _ _ _ h=>h) (Fb Cw (by rfl) (.tmp 7) rfl z 0 rfl (fun w h=>Br.part h 0 D.cs.toList rfl) rfl) (by assumption) ?_
     try simp only [Act.put,LP]
     refine BJ KF ?_
     refine BJ Mr ?_
     refine BJ Lv ?_
     refine BJ Px ?_
     refine BD Mq fun KK Ad=>?_
     have cr9:=(H.blk 0 rfl).Am 9
     go_simp
     clear cr9
     refine Ai Ad (H.blk 5 rfl) fun hHeld=>?_
     clear Ad KK
     refine BD LX fun KK Ad=>?_
     go_simp
     refine (HCF _ (wR _ H.fr).rows).mono ?_;rintro e' w9 ⟨CA,cc,rfl,MM,ho9⟩
     replace H:=Aa (H.CJ MM ho9);(try simp only [LS] at H)
     clear MM ho9
     refine Ai Ad (H.blk 5 rfl) fun hHeld=>?_
     clear Ad KK
     refine BD Qb fun KK Ad=>?_
     refine Aw rfl (.tmp 56) (.tmp 57) _ rfl MJ 0 (Bw _) _ x.rows.n _ rfl (H.row 7 rfl) F.A F.n F.c _ rfl ((H.at_ 6 rfl).1.rd) (Yu F.l) (by unfold maxLen;omega) (by omega) ?_
     intro vq wq AR Ay Bb
     replace H:=Aa (H.setRow 7 rfl Ay AR Bb);(try simp only [LS] at H)
     clear AR Ay Bb
     obtain ⟨A2,c2,rfl,_⟩:=Ao (H.row 7 rfl)
     refine Ai Ad (H.blk 5 rfl) fun hHeld=>?_
     clear Ad KK
     refine BJ Jj ?_
     refine BJ IL ?_
     refine BD Ji fun KK Ad=>?_
     refine Vg rfl Cw (.tmp 60) (.tmp 51) rfl B 0 rfl (H.blk 0 rfl) D.cs rfl (by simp) rfl (WA D) ?_
     intro wq bq Ay
     rw [Vm] at bq
     replace H:=Aa (H.AY 0 rfl Ay bq);(try simp only [LS] at H)
     clear Ay bq
     refine Ai Ad (H.blk 5 rfl) fun hHeld=>?_
     clear Ad KK
     refine BJ KZ ?_
     refine BJ Ms ?_
     refine BD R9 fun KK Ad=>?_
     have cz9:=(H.blk 0 rfl).Am 9;have fz9:=(H.blk 0 rfl).frozen 9
     go_simp
     replace H:=Aa (H.setCell 0 rfl 9 (.slice A2 (x.rows.n+F.n) c2));(try simp only [LS] at H)
     clear cz9 fz9
     refine Ai Ad (H.blk 5 rfl) fun hHeld=>?_
     clear Ad KK
     refine BX ?_
     clear hHeld
     clear HCF wR
     go_wp2_with fail
     refine (CF 0 _).mono ?_;rintro e wf ⟨rfl,hbf⟩
     replace H:=Aa (H.Au hbf)
     clear hbf
     go_wp2_with ((with_reducible refine OS 4 ?_);(refine Ec Bh H 2 rfl ((Io.err (0)).cs) (CL _) ?_;clear H;intro wq H;(try simp only [LS] at H)))
     (try simp only [Act.put,LP])
     refine Ce (Aq rfl Bh rfl (H.blk 2 rfl) rfl) rfl ?_
     have h1:=(ET.VK (T:=T) (r:=Cb 97 11 (.slice A2 (x.rows.n+F.n) c2) (x.rows.n+F.n) (x.rows.l.flatMap Ar.cells++F.l.flatMap Ar.cells)) ⟨H.get 7 rfl,H.RB 7 0 (by decide) rfl rfl rfl⟩ wS.Ab)
     have h2:=(ET.VK (T:=T) (r:=O4 F) ⟨H.get 6 rfl,H.RB 6 0 (by decide) rfl rfl rfl⟩ wS.Ab)
     have h3:=(ET.VK (T:=T) (r:=KU D.sc) ⟨H.get 4 rfl,H.RB 4 0 (by decide) rfl rfl rfl⟩ wS.Ab)
     have h4:=Jg _ H.fr
     rw [HO.Ab]
     refine ⟨⟨D,⟨A2,x.rows.n+F.n,c2,x.rows.l++F.l⟩,x.has,x.closed⟩,rfl,H.fr,H.blk 0 rfl,?_,fun wz kz=>⟨HDI.1.rd (h3 wz kz),HDI.2,QD (x:=⟨A2,x.rows.n+F.n,c2,x.rows.l++F.l⟩) (by show World.ownsRow _ 0 _ _ _ _ _;rw [FD];exact h1 wz kz) (fun a ha=>(DT.1 ha).elim ((h4 wz kz).rows.all a) ((h2 wz kz).1.all a)) (by show (x.rows.n+F.n) * 104≤_;omega)⟩⟩
     show MC.mk D.Ac (cons (x.rows.l++F.l)) x.has x.closed=_
     rw [HD.Ab]
     unfold cons
     rw [BR,HFC.Ab]
     rfl
    ·have HO:Hid (Fv x.Ac c.data=(x.Ac,GK)):=by
      show _=_
      unfold Fv
      rw [show x.Ac.cat=x.ct.Ac from rfl,show x.ct.Ac.sc=x.ct.sc.Ac from rfl,←nM.Ab]
      simp only
      rw [←HG.Ab]
      simp only
      rw [Ah (by simp),Ak hK]
     have dk:(GK !=0)=true:=by simpa using hK
     clear HG hK nM
     go_wp2_with fail
     refine (CF GK _).mono ?_;rintro e wf ⟨rfl,hbf⟩
     replace H:=Aa (H.Au hbf)
     clear hbf
     go_wp2_with ((with_reducible refine OS 4 ?_);(refine Ec Bh H 2 rfl ((Io.err (GK)).cs) (CL _) ?_;clear H;intro wq H;(try simp only [LS] at H)))
     (try simp only [Act.put,LP])
     refine Ce (Aq rfl Bh rfl (H.blk 2 rfl) rfl) rfl ?_
     rw [HO.Ab]
     exact ⟨x,rfl,H.fr,H.blk 0 rfl,rfl,Jg _ H.fr⟩
  ·have HO:Hid (Fv x.Ac c.data=(x.Ac,K)):=by
    show _=_
    unfold Fv
    rw [show x.Ac.cat=x.ct.Ac from rfl,show x.ct.Ac.sc=x.ct.sc.Ac from rfl,←nM.Ab]
    simp only
    rw [Ak hK]
   have dk:(K !=0)=true:=by simpa using hK
   clear hK nM hX
   go_wp2_with fail
   refine (CF K _).mono ?_;rintro e wf ⟨rfl,hbf⟩
   replace H:=Aa (H.Au hbf)
   clear hbf
   go_wp2_with ((with_reducible refine OS 4 ?_);(refine Ec Bh H 2 rfl ((Io.err (K)).cs) (CL _) ?_;clear H;intro wq H;(try simp only [LS] at H)))
   (try simp only [Act.put,LP])
   refine Ce (Aq rfl Bh rfl (H.blk 2 rfl) rfl) rfl ?_
   rw [HO.Ab]
   exact ⟨x,rfl,H.fr,H.blk 0 rfl,rfl,Jg _ H.fr⟩
end Go.Proofs.YtijplolmkcdflaaGreat
