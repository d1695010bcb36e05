/- What follows was written short by a program: the walks that lead to YtijplolmkcdflaaGreatModelPlays. -/
import Derived.Maps.Own
import Derived.OpenShut
import Derived.Deep.DeepCutAuto
import Derived.StillTailTactics
import Derived.ChangeKeysEq
import Derived.Test.YtijplolmkcdflaaGreatS0
set_option maxHeartbeats 40000000
set_option maxRecDepth 100000
set_option linter.unusedVariables false
set_option linter.unusedSimpArgs false
namespace Go.Proofs.YtijplolmkcdflaaGreat
open Go.RowKit
structure FM where
 D:Nat→Prop
 p:World→Prop
def FM.holds (r:FM) (w:World):Prop:=(∀ g,r.D g→g<w.heap.size)∧∀ w',w.heap.size≤w'.heap.size→(∀ g,r.D g→w'.heap[g]?=w.heap[g]?)→r.p w'
theorem FM.holds.now {r:FM} {w:World} (h:r.holds w):r.p w:=h.2 w (Ci _) (fun _ _=>rfl)
theorem FM.holds.keep {r:FM} {w w':World} (h:r.holds w) (hs:w.heap.size≤w'.heap.size) (hk:∀ g,r.D g→w'.heap[g]?=w.heap[g]?):r.holds w':=
 ⟨fun g hg=>KI (h.1 g hg) hs,fun w'' hs' hk'=>h.2 w'' (IA hs hs') (fun g hg=>(hk' g hg).trans (hk g hg))⟩
theorem FM.holds.Av {r:FM} {w w':World} (h:r.holds w) (hb:Ai w w'):r.holds w':=h.keep hb.size fun g hg=>hb.block g (h.1 g hg)
theorem FM.holds.imp {r:FM} {w:World} {q:World→Prop} (h:r.holds w) (hq:∀ w',r.p w'→q w'):(FM.mk r.D q).holds w:=⟨h.1,fun w' hs hk=>hq w' (h.2 w' hs hk)⟩
structure Fr (S:Nat→Prop) (w w':World):Prop where
 os:w'.os=w.os
 tape:w'.tape=w.tape
 output:w'.output=w.output
 size:w.heap.size≤w'.heap.size
 block:∀ g,g<w.heap.size→¬ S g→w'.heap[g]?=w.heap[g]?
abbrev No:Nat→Prop:=fun _=>False
abbrev One (b:Nat):Nat→Prop:=fun g=>g=b
theorem Fr.refl (S:Nat→Prop) (w:World):Fr S w w:=⟨rfl,rfl,rfl,Ci _,fun _ _ _=>rfl⟩
theorem Fr.MR {S:Nat→Prop} {w w':World} (h:Ai w w'):Fr S w w':=⟨h.os,h.tape,h.output,h.size,fun g hg _=>h.block g hg⟩
theorem Fr.Gl {w w':World} {row:Option Nat} (h:w.grownBy w' row):Fr (fun g=>row=some g) w w':=⟨h.os,h.tape,h.output,h.size,fun g hg hn=>h.block g hg (fun e=>hn e.symm)⟩
theorem Fr.Av {w w':World} (h:Fr No w w'):Ai w w':=⟨h.os,h.tape,h.output,h.size,fun g hg=>h.block g hg (fun h=>h)⟩
theorem Fr.grown {b:Nat} {w w':World} (h:Fr (One b) w w'):w.grownBy w' (some b):=⟨h.os,h.tape,h.output,h.size,fun g hg hn=>h.block g hg (fun e=>hn (by rw [e]))⟩
theorem Fr.trans {S T:Nat→Prop} {a b c:World} (h:Fr S a b) (k:Fr T b c) (hT:∀ g,T g→S g∨a.heap.size≤g):Fr S a c:=
 ⟨k.os.trans h.os,k.tape.trans h.tape,k.output.trans h.output,IA h.size k.size,fun g hg hn=>
  (k.block g (KI hg h.size) (fun ht=>by rcases hT g ht with h'|h';exact hn h';omega)).trans (h.block g hg hn)⟩
structure SL (S:Nat→Prop) (w0 w:World) (l:List FM):Prop where
 fr:Fr S w0 w
 all:∀ (i:Nat) r,l[i]?=some r→r.holds w
 YM:∀ (i j:Nat) r q,i≠j→l[i]?=some r→l[j]?=some q→∀ g,r.D g→¬ q.D g
 own:∀ (i:Nat) r,l[i]?=some r→∀ g,r.D g→w0.heap.size≤g∨S g
section
variable {S : Nat → Prop} {w0 w w' : World} {l : List FM}
theorem SL.start (S:Nat→Prop) (w:World):SL S w w []:=⟨Fr.refl _ _,uH,uH,uH⟩
theorem SL.Av (h:SL S w0 w l) (hb:Ai w w'):SL S w0 w' l:=
 ⟨h.fr.trans (Fr.MR (S:=No) hb) (fun _ h=>h.elim),fun i r hi=>(h.all i r hi).Av hb,h.YM,h.own⟩
theorem SL.drew (h:SL S w0 w l):SL S w0 w.drew l:=h.Av (Ai.refl w).drew
theorem SL.drewN (h:SL S w0 w l) (n:Nat):SL S w0 (w.drewN n) l:=h.Av ((Ai.refl w).drewN n)
theorem SL.to (h:SL No w0 w l):Ai w0 w:=h.fr.Av
theorem SL.size (h:SL S w0 w l):w0.heap.size≤w.heap.size:=h.fr.size
theorem SL.get (h:SL S w0 w l) (i:Nat) {r:FM} (hi:l[i]?=some r):r.holds w:=h.all i r hi
theorem SL.at_ (h:SL S w0 w l) (i:Nat) {r:FM} (hi:l[i]?=some r):r.p w:=(h.all i r hi).now
theorem SL.upd (h:SL S w0 w l) (i:Nat) {r:FM} (hi:l[i]?=some r) (hk:Fr r.D w w') (r':FM) (hr:r'.holds w') (hd:∀ g,r'.D g→r.D g∨w.heap.size≤g):SL S w0 w' (l.set i r'):=by
 have hil:i<l.length:=(CB.1 hi).1;have key:∀ (j:Nat) q,(l.set i r')[j]?=some q→(j=i∧q=r')∨(j≠i∧l[j]?=some q):=by
  intro j q hq;by_cases e:i=j
  ·subst e;rw [NK hil] at hq;injection hq with hq;exact .inl ⟨rfl,hq.symm⟩
  ·rw [Ou e] at hq;exact .inr ⟨fun h=>e h.symm,hq⟩
 refine ⟨h.fr.trans hk (fun g hg=>(h.own i r hi g hg).symm),fun j q hq=>?_,fun j k q q' hjk hq hq' g hg hg'=>?_,fun j q hq g hg=>?_⟩
 ·rcases key j q hq with ⟨rfl,rfl⟩|⟨hne,hq⟩
  ·exact hr
  ·exact (h.all j q hq).keep hk.size fun g hg=>hk.block g ((h.all j q hq).1 g hg) (h.YM j i q r hne hq hi g hg)
 ·rcases key j q hq with ⟨rfl,rfl⟩|⟨hne,hq1⟩
  ·rcases key k q' hq' with ⟨rfl,rfl⟩|⟨hne',hq2⟩
   ·exact hjk rfl
   ·rcases hd g hg with h1|h1
    ·exact h.YM j k r q' hjk hi hq2 g h1 hg'
    ·have:=(h.all k q' hq2).1 g hg';omega
  ·rcases key k q' hq' with ⟨rfl,rfl⟩|⟨hne',hq2⟩
   ·rcases hd g hg' with h1|h1
    ·exact h.YM j k q r hjk hq1 hi g hg h1
    ·have:=(h.all j q hq1).1 g hg;omega
   ·exact h.YM j k q q' hjk hq1 hq2 g hg hg'
 ·rcases key j q hq with ⟨rfl,rfl⟩|⟨hne,hq⟩
  ·rcases hd g hg with h1|h1
   ·exact h.own j r hi g h1
   ·exact .inl (IA h.fr.size h1)
  ·exact h.own j q hq g hg
theorem SL.turn (h:SL S w0 w l) (i:Nat) {r:FM} (hi:l[i]?=some r) (r':FM) (hr:r'.holds w) (hd:∀ g,r'.D g→r.D g):SL S w0 w (l.set i r'):=
 h.upd i hi (Fr.refl _ _) r' hr (fun g hg=>.inl (hd g hg))
theorem SL.ext (h:SL S w0 w l) (r:FM) (hr:r.holds w) (hn:∀ (j:Nat) q,l[j]?=some q→∀ g,q.D g→¬ r.D g) (ho:∀ g,r.D g→w0.heap.size≤g∨S g):SL S w0 w (l++[r]):=by
 have key:∀ (j:Nat) q,(l++[r])[j]?=some q→(l[j]?=some q∧j<l.length)∨(q=r∧j=l.length):=by
  intro j q hq;rcases MX j l.length with hj|hj
  ·rw [QH hj] at hq;exact .inl ⟨hq,hj⟩
  ·have hb:=(CB.1 hq).1;simp at hb;rw [Rf hj,show j - l.length=0 by omega] at hq;injection hq with hq;exact .inr ⟨hq.symm,Xl⟩
 refine ⟨h.fr,fun j q hq=>?_,fun j k q q' hjk hq hq' g hg hg'=>?_,fun j q hq g hg=>?_⟩
 ·rcases key j q hq with ⟨hq,_⟩|⟨rfl,_⟩
  ·exact h.all j q hq
  ·exact hr
 ·rcases key j q hq with ⟨hq1,_⟩|⟨rfl,hj⟩
  ·rcases key k q' hq' with ⟨hq2,_⟩|⟨rfl,hk⟩
   ·exact h.YM j k q q' hjk hq1 hq2 g hg hg'
   ·exact hn j q hq1 g hg hg'
  ·rcases key k q' hq' with ⟨hq2,_⟩|⟨rfl,hk⟩
   ·exact hn k q' hq2 g hg' hg
   ·omega
 ·rcases key j q hq with ⟨hq,_⟩|⟨rfl,_⟩
  ·exact h.own j q hq g hg
  ·exact ho g hg
theorem SL.add (h:SL S w0 w l) (hb:Ai w w') (r:FM) (hr:r.holds w') (hn:∀ g,r.D g→w.heap.size≤g):SL S w0 w' (l++[r]):=
 (h.Av hb).ext r hr (fun j q hq g hg hg'=>by have:=(h.all j q hq).1 g hg;have:=hn g hg';omega) (fun g hg=>.inl (IA h.fr.size (hn g hg)))
theorem SL.Ar8 (h:SL S w0 w l) (i:Nat) {r:FM} (hi:l[i]?=some r) (hk:Fr r.D w w') (r':FM) (hr:r'.holds w') (hd:∀ g,r'.D g→r.D g) (q:FM) (hq:q.holds w') (hn:∀ g,q.D g→w.heap.size≤g):SL S w0 w' (l.set i r'++[q]):=by
 have hil:i<l.length:=(CB.1 hi).1;refine (h.upd i hi hk r' hr (fun g hg=>.inl (hd g hg))).ext q hq (fun j z hz g hg hg'=>?_) (fun g hg=>.inl (IA h.fr.size (hn g hg)));have h1:=hn g hg';by_cases e:i=j
 ·subst e;rw [NK hil] at hz;injection hz with hz;subst hz;have:=(h.all i r hi).1 g (hd g hg);omega
 ·rw [Ou e] at hz;have:=(h.all j z hz).1 g hg;omega
theorem SL.both (h:SL S w0 w l) (i j:Nat) {r q:FM} (hij:i≠j) (hi:l[i]?=some r) (hj:l[j]?=some q) (r':FM) (hr:r'.holds w) (hd:∀ g,r'.D g→r.D g∨q.D g):SL S w0 w ((l.set i r').eraseIdx j):=by
 have hil:i<l.length:=(CB.1 hi).1;have ln:∀ m:Nat,((l.set i r').eraseIdx j)[m]?=(l.set i r')[if m<j then m else m+1]?:=by
  intro m;rw [List.getElem?_eraseIdx];split<;>rfl
 have key:∀ (m:Nat) z,((l.set i r').eraseIdx j)[m]?=some z→∃ m',m'=(if m<j then m else m+1)∧m'≠j∧((m'=i∧z=r')∨(m'≠i∧l[m']?=some z)):=by
  intro m z hz;rw [ln] at hz;refine ⟨_,rfl,by split<;>omega,?_⟩;generalize (if m<j then m else m+1)=m' at *;by_cases e:i=m'
  ·subst e;rw [NK hil] at hz;injection hz with hz;exact .inl ⟨rfl,hz.symm⟩
  ·rw [Ou e] at hz;exact .inr ⟨fun h=>e h.symm,hz⟩
 refine ⟨h.fr,fun m z hz=>?_,fun m n z z' hmn hz hz' g hg hg'=>?_,fun m z hz g hg=>?_⟩
 ·obtain ⟨m',_,_,⟨_,rfl⟩|⟨_,hz⟩⟩:=key m z hz
  ·exact hr
  ·exact h.all _ _ hz
 ·obtain ⟨m',em,mj,hm⟩:=key m z hz;obtain ⟨n',en,nj,hn⟩:=key n z' hz';have hne:m'≠n':=by rw [em,en];split<;>split<;>omega
  rcases hm with ⟨rfl,rfl⟩|⟨mi,hm⟩
  ·rcases hn with ⟨rfl,rfl⟩|⟨ni,hn⟩
   ·exact hne rfl
   ·rcases hd g hg with h1|h1
    ·exact h.YM _ _ _ _ hne hi hn g h1 hg'
    ·exact h.YM _ _ _ _ (Ne.symm nj) hj hn g h1 hg'
  ·rcases hn with ⟨rfl,rfl⟩|⟨ni,hn⟩
   ·rcases hd g hg' with h1|h1
    ·exact h.YM _ _ _ _ hne hm hi g hg h1
    ·exact h.YM _ _ _ _ mj hm hj g hg h1
   ·exact h.YM _ _ _ _ hne hm hn g hg hg'
 ·obtain ⟨m',_,_,⟨_,rfl⟩|⟨_,hz⟩⟩:=key m z hz
  ·rcases hd g hg with h1|h1
   ·exact h.own _ _ hi g h1
   ·exact h.own _ _ hj g h1
  ·exact h.own _ _ hz g hg
end
abbrev Aw (g:Nat) (t:TypeId) (cs:Array Value):FM:=⟨One g,fun w=>Bh w g t cs⟩
abbrev Ce (e:TypeId) (size:Nat) (v:Value) (n:Nat) (xs:List Value):FM:=⟨fun g=>v.ownBlock=some g,fun w=>w.ownsRow 0 e size v n xs⟩
abbrev Qh (b:Nat) (s l:List UInt8):FM:=⟨One b,fun w=>Ir w b s l⟩
abbrev pU (P:Program) (k:TypeId) (R:Value→Option (DataW Unit × List MemPlace)) (b n:Nat) (D:DataW Unit):FM:=⟨One b,fun w=>w.ownsMap P k R b n D⟩
theorem Mc {w:World} {g:Nat} {t:TypeId} {cs:Array Value} (h:Bh w g t cs):(Aw g t cs).holds w:=⟨fun _ e=>e ▸ h.lt,fun w' _ hk=>(hk g rfl).trans h⟩
theorem Ag2 {w:World} {base:Nat} {e:TypeId} {size n:Nat} {v:Value} {xs:List Value} (h:w.ownsRow 0 e size v n xs) (hb:∀ g,v.ownBlock=some g→base≤g):w.ownsRow base e size v n xs:=by
 refine ⟨h.1,?_⟩;rcases h.2 with h0|⟨g,cap,cur,rfl,_,h3⟩
 ·exact .inl h0
 ·exact .inr ⟨g,cap,cur,rfl,hb g rfl,h3⟩
theorem Jg {w:World} {base:Nat} {e:TypeId} {size n:Nat} {v:Value} {xs:List Value} (h:w.ownsRow base e size v n xs):(Ce e size v n xs).holds w:=by
 refine ⟨fun g hg=>lG h hg,fun w' _ hk=>⟨h.1,?_⟩⟩;rcases h.2 with h0|⟨g,cap,cur,rfl,_,hh,h3⟩
 ·exact .inl h0
 ·exact .inr ⟨g,cap,cur,rfl,Bj _,(hk g rfl).trans hh,h3⟩
theorem SQ {w:World} {b:Nat} {s l:List UInt8} (h:Ir w b s l):(Qh b s l).holds w:=by
 refine ⟨fun _ e=>e ▸ h.lt,fun w' _ hk=>?_⟩;obtain ⟨h0,t,h1,h2,h3⟩:=h;exact ⟨h0,t,h1,h2,(hk b rfl).trans h3⟩
theorem iT {P:Program} {k:TypeId} {R:Value→Option (DataW Unit × List MemPlace)} {b n:Nat} {D:DataW Unit} {w:World} (h:w.ownsMap P k R b n D):(pU P k R b n D).holds w:=by
 refine ⟨fun _ e=>e ▸ h.lt,fun w' _ hk=>?_⟩;obtain ⟨es,clock,h1,h2⟩:=h;exact ⟨es,clock,(hk b rfl).trans h1,h2⟩
section
variable {S : Nat → Prop} {w0 w w' : World} {l : List FM}
theorem SL.blk (h:SL S w0 w l) (i:Nat) {g:Nat} {t:TypeId} {cs:Array Value} (hi:l[i]?=some (Aw g t cs)):Bh w g t cs:=h.at_ i hi
theorem SL.ne (h:SL S w0 w l) (i j:Nat) (hij:i≠j) {g g':Nat} {t t':TypeId} {cs cs':Array Value} (hi:l[i]?=some (Aw g t cs)) (hj:l[j]?=some (Aw g' t' cs')):g≠g':=fun e=>h.YM i j _ _ hij hi hj g rfl e
theorem SL.row (h:SL S w0 w l) (i:Nat) {e:TypeId} {size n:Nat} {v:Value} {xs:List Value} (hi:l[i]?=some (Ce e size v n xs)):w.ownsRow 0 e size v n xs:=h.at_ i hi
theorem SL.M7 (h:SL No w0 w l) (i:Nat) {e:TypeId} {size n:Nat} {v:Value} {xs:List Value} (hi:l[i]?=some (Ce e size v n xs)):w.ownsRow w0.heap.size e size v n xs:=
 Ag2 (h.row i hi) fun g hg=>(h.own i _ hi g hg).elim (fun h=>h) (fun h=>h.elim)
theorem SL.Fv (h:SL S w0 w l) (i:Nat) {b:Nat} {s k:List UInt8} (hi:l[i]?=some (Qh b s k)):Ir w b s k:=h.at_ i hi
theorem SL.map (h:SL S w0 w l) (i:Nat) {P:Program} {k:TypeId} {R:Value→Option (DataW Unit × List MemPlace)} {b n:Nat} {D:DataW Unit} (hi:l[i]?=some (pU P k R b n D)):w.ownsMap P k R b n D:=h.at_ i hi
theorem SL.alloc (h:SL S w0 w l) (cs:Array Value) (t:TypeId):SL S w0 (w.alloc (.cells cs t)) (l++[Aw w.heap.size t cs]):=
 h.add ((Ai.refl w).alloc _) _ (Mc (Bh.new w t cs)) (fun g hg=>by cases hg;exact Ci _)
theorem SL.AA (h:SL S w0 w l) (i:Nat) {g:Nat} {t:TypeId} {cs cs':Array Value} (hi:l[i]?=some (Aw g t cs)) (hg:w.grownBy w' (some g)) (hb:Bh w' g t cs'):SL S w0 w' (l.set i (Aw g t cs')):=
 h.upd i hi ⟨hg.os,hg.tape,hg.output,hg.size,fun k hk hn=>hg.block k hk (fun e=>hn (by injection e))⟩ _ (Mc hb) (fun k hk=>.inl hk)
theorem SL.setCell (h:SL S w0 w l) (i:Nat) {g:Nat} {t:TypeId} {cs:Array Value} (hi:l[i]?=some (Aw g t cs)) (o:Nat) (x:Value):SL S w0 (w.setCell ⟨g,o,none⟩ x) (l.set i (Aw g t (cs.setIfInBounds o x))):=
 h.AA i hi (grownBy_setCell w g o x) ((h.blk i hi).Iy o x)
theorem SL.setRow (h:SL S w0 w l) (i:Nat) {e e':TypeId} {size size' n n':Nat} {v v':Value} {xs xs':List Value} {base:Nat} (hi:l[i]?=some (Ce e size v n xs)) (hg:w.grownBy w' v.ownBlock) (ho:w'.ownsRow base e' size' v' n' xs') (hv:v'.ownBlock=v.ownBlock∨v'.ownBlock=some w.heap.size):SL S w0 w' (l.set i (Ce e' size' v' n' xs')):=by
 refine h.upd i hi (Fr.Gl hg) _ (Jg ho) (fun g (hg:v'.ownBlock=some g)=>?_);rcases hv with hv|hv
 ·exact .inl (show v.ownBlock=some g by rw [←hv];exact hg)
 ·rw [hv] at hg;injection hg with hg;exact .inr Xl
theorem SL.Cb (h:SL S w0 w l) (i:Nat) {b:Nat} {s k k':List UInt8} (hi:l[i]?=some (Qh b s k)) (hg:w.grownBy w' (some b)) (hr:Ir w' b s k'):SL S w0 w' (l.set i (Qh b s k')):=
 h.upd i hi ⟨hg.os,hg.tape,hg.output,hg.size,fun k hk hn=>hg.block k hk (fun e=>hn (by injection e))⟩ _ (SQ hr) (fun k hk=>.inl hk)
theorem SL.Jf (h:SL S w0 w l) (i:Nat) {b:Nat} {s k k':List UInt8} (hi:l[i]?=some (Qh b s k)) (hg:w.grownBy w' (some b)) (hr:Ir w' b s k') (q:FM) (hq:q.holds w') (hn:∀ g,q.D g→w.heap.size≤g):SL S w0 w' (l.set i (Qh b s k')++[q]):=
 h.Ar8 i hi ⟨hg.os,hg.tape,hg.output,hg.size,fun k hk hn=>hg.block k hk (fun e=>hn (by injection e))⟩ _ (SQ hr) (fun k hk=>hk) q hq hn
theorem SL.Dw (h:SL S w0 w l) (e:TypeId) (size:Nat):SL S w0 w (l++[Ce e size (.slice none 0 0) 0 []]):=
 h.add (Ai.refl w) _ (Jg (Tw w 0 e size)) (fun g (hg:Value.ownBlock (.slice none 0 0)=some g)=>by simp [Value.ownBlock] at hg)
theorem SL.Co (h:SL S w0 w l) (hb:Ai w w') {e:TypeId} {size n:Nat} {v:Value} {xs:List Value} (ho:w'.ownsRow w.heap.size e size v n xs):SL S w0 w' (l++[Ce e size v n xs]):=
 h.add hb _ (Jg ho) (fun g hg=>Jh ho hg)
theorem SL.new (h:SL No w0 w l) (i:Nat) {r:FM} (hi:l[i]?=some r):∀ g,r.D g→w0.heap.size≤g:=fun g hg=>(h.own i r hi g hg).elim (fun h=>h) (fun h=>h.elim)
theorem SL.VG {b:Nat} (h:SL (One b) w0 w l) (i j:Nat) {r q:FM} (hij:i≠j) (hi:l[i]?=some r) (hj:l[j]?=some q) (hq:q.D b):∀ g,r.D g→w0.heap.size≤g:=fun g hg=>(h.own i r hi g hg).elim (fun h=>h) (fun e=>by
 cases e;exact absurd hq (h.YM i j r q hij hi hj _ hg))
theorem SL.rdr1 {b:Nat} {s k:List UInt8} (w:World) (h:Ir w b s k):SL (One b) w w [Qh b s k]:=by
 refine ⟨Fr.refl _ _,fun i r hi=>?_,fun i j r q hij hi hj=>?_,fun i r hi g hg=>?_⟩
 ·match i,hi with
  |0,hi=>injection hi with hi;subst hi;exact SQ h
 ·match i,j,hi,hj with
  |0,0,_,_=>exact absurd rfl hij
 ·match i,hi with
  |0,hi=>injection hi with hi;subst hi;exact .inr hg
abbrev Kl (B:Nat) (s k:List UInt8) (l:List FM):List FM:=Qh (B+1) s k::Aw B 45 #[.int .i64 0]::Aw (B+2) 166 #[.pointer (some ⟨B+1,0,none⟩)]::l
theorem SL.begin {s k:List UInt8} (h:SL S w0 w l) (h1:Ai w w') (h2:Ir w' (w.heap.size+1) s k) (h3:Bh w' w.heap.size 45 #[.int .i64 0]) (h4:Bh w' (w.heap.size+2) 166 #[.pointer (some ⟨w.heap.size+1,0,none⟩)]):SL S w0 w' (Kl w.heap.size s k l):=by
 have hb:=h.Av h1;have hsz:=h.fr.size;have hlt:∀ (i:Nat) r,l[i]?=some r→∀ g,r.D g→g<w.heap.size:=fun i r hi g hg=>(h.all i r hi).1 g hg
 have hD0:∀ g,(Qh (w.heap.size+1) s k).D g→g=w.heap.size+1:=fun g hg=>hg
 have hD1:∀ g,(Aw w.heap.size 45 #[.int .i64 0]).D g→g=w.heap.size:=fun g hg=>hg
 have hD2:∀ g,(Aw (w.heap.size+2) 166 #[.pointer (some ⟨w.heap.size+1,0,none⟩)]).D g→g=w.heap.size+2:=fun g hg=>hg
 have key:∀ (i:Nat) r,(Kl w.heap.size s k l)[i]?=some r→(i=0∧r=Qh (w.heap.size+1) s k)∨(i=1∧r=Aw w.heap.size 45 #[.int .i64 0])∨(i=2∧r=Aw (w.heap.size+2) 166 #[.pointer (some ⟨w.heap.size+1,0,none⟩)])∨(3≤i∧l[i - 3]?=some r):=by
  intro i r hi
  match i,hi with
  |0,hi=>injection hi with hi;exact .inl ⟨rfl,hi.symm⟩
  |1,hi=>injection hi with hi;exact .inr (.inl ⟨rfl,hi.symm⟩)
  |2,hi=>injection hi with hi;exact .inr (.inr (.inl ⟨rfl,hi.symm⟩))
  |n+3,hi=>exact .inr (.inr (.inr ⟨Xl,by simpa [Kl] using hi⟩))
 refine ⟨hb.fr,fun i r hi=>?_,fun i j r q hij hi hj g hg hg'=>?_,fun i r hi g hg=>?_⟩
 ·rcases key i r hi with ⟨_,rfl⟩|⟨_,rfl⟩|⟨_,rfl⟩|⟨_,hi⟩
  ·exact SQ h2
  ·exact Mc h3
  ·exact Mc h4
  ·exact hb.all _ _ hi
 ·rcases key i r hi with ⟨ei,rfl⟩|⟨ei,rfl⟩|⟨ei,rfl⟩|⟨ei,hi⟩<;>rcases key j q hj with ⟨ej,rfl⟩|⟨ej,rfl⟩|⟨ej,rfl⟩|⟨ej,hj⟩<;>
   first
    |exact hij (ei.trans ej.symm)
    |exact absurd ((hD0 g hg).symm.trans (hD1 g hg')) Xl
    |exact absurd ((hD0 g hg).symm.trans (hD2 g hg')) Xl
    |exact absurd ((hD1 g hg).symm.trans (hD0 g hg')) Xl
    |exact absurd ((hD1 g hg).symm.trans (hD2 g hg')) Xl
    |exact absurd ((hD2 g hg).symm.trans (hD0 g hg')) Xl
    |exact absurd ((hD2 g hg).symm.trans (hD1 g hg')) Xl
    |(have a:=hlt _ _ hi g hg;have b:=hD0 g hg';omega)
    |(have a:=hlt _ _ hi g hg;have b:=hD1 g hg';omega)
    |(have a:=hlt _ _ hi g hg;have b:=hD2 g hg';omega)
    |(have a:=hlt _ _ hj g hg';have b:=hD0 g hg;omega)
    |(have a:=hlt _ _ hj g hg';have b:=hD1 g hg;omega)
    |(have a:=hlt _ _ hj g hg';have b:=hD2 g hg;omega)
    |exact h.YM (i - 3) (j - 3) r q Xl hi hj g hg hg'
 ·rcases key i r hi with ⟨_,rfl⟩|⟨_,rfl⟩|⟨_,rfl⟩|⟨_,hi⟩
  ·have:=hD0 g hg;exact .inl Xl
  ·have:=hD1 g hg;exact .inl Xl
  ·have:=hD2 g hg;exact .inl Xl
  ·exact h.own _ _ hi g hg
theorem SL.ok {B:Nat} {s k:List UInt8} {R:Int→World→Prop} (h:SL S w0 w (Kl B s k l)) (hR:R (if k=[] then 0 else 3) w):Nu B s R (.returned (.tuple #[])) w:=
 ⟨h.blk 1 rfl,h.blk 2 rfl,.inr ⟨k,rfl,h.Fv 0 rfl,hR⟩⟩
theorem SL.err {B:Nat} {s k:List UInt8} {R:Int→World→Prop} {e:Int} (h:SL S w0 w (Kl B s k l)) (hR:R e w):Nu B s R (.panicked (flt e)) w:=
 ⟨h.blk 1 rfl,h.blk 2 rfl,.inl ⟨e,rfl,⟨k,h.Fv 0 rfl⟩,hR⟩⟩
theorem SL.ended {B:Nat} {s k:List UInt8} (h:SL S w0 w (Kl B s k l)) (hb:PN B w w'):SL S w0 w' l:=by
 have h0:∀ (i:Nat) r,l[i]?=some r→(Kl B s k l)[i+3]?=some r:=fun i r hi=>by simpa [Kl] using hi
 have n0:∀ (i:Nat) r,l[i]?=some r→∀ g,r.D g→g≠B∧g≠B+1:=fun i r hi g hg=>
  ⟨fun e=>h.YM (i+3) 1 r _ Xl (h0 i r hi) rfl g hg e,fun e=>h.YM (i+3) 0 r _ Xl (h0 i r hi) rfl g hg e⟩
 have o0:w0.heap.size≤B∨S B:=h.own 1 _ rfl B rfl;have o1:w0.heap.size≤B+1∨S (B+1):=h.own 0 _ rfl (B+1) rfl;refine ⟨⟨hb.os.trans h.fr.os,hb.tape.trans h.fr.tape,hb.output.trans h.fr.output,IA h.fr.size hb.size,fun g hg hn=>?_⟩,fun i r hi=>?_,fun i j r q hij hi hj=>h.YM (i+3) (j+3) r q Xl (h0 i r hi) (h0 j q hj),fun i r hi=>h.own (i+3) r (h0 i r hi)⟩
 ·refine (hb.block g (KI hg h.fr.size) ?_ ?_).trans (h.fr.block g hg hn)
  ·rintro rfl;rcases o0 with o|o
   ·omega
   ·exact hn o
  ·rintro rfl;rcases o1 with o|o
   ·omega
   ·exact hn o
 ·have:=h.all (i+3) r (h0 i r hi);exact this.keep hb.size fun g hg=>hb.block g (this.1 g hg) (n0 i r hi g hg).1 (n0 i r hi g hg).2
theorem SL.readAll {B:Nat} {s k k':List UInt8} (h:SL S w0 w (Kl B s k l)) (hg:w.grownBy w' (some (B+1))) (hr:Ir w' (B+1) s k'):SL S w0 w' (Kl B s k' l):=h.Cb 0 rfl hg hr
theorem SL.ZR {B:Nat} {s k k':List UInt8} (h:SL S w0 w (Kl B s k l)) (hg:w.grownBy w' (some (B+1))) (hr:Ir w' (B+1) s k') (q:FM) (hq:q.holds w') (hn:∀ g,q.D g→w.heap.size≤g):SL S w0 w' (Kl B s k' (l++[q])):=h.Jf 0 rfl hg hr q hq hn
theorem SL.pick (h:SL S w0 w l) (l':List FM) (f:Nat→Nat) (hf:∀ (i:Nat) r,l'[i]?=some r→l[f i]?=some r) (hi:∀ i j,i<l'.length→j<l'.length→f i=f j→i=j):SL S w0 w l':=
 ⟨h.fr,fun i r hr=>h.all _ _ (hf i r hr),fun i j r q hij hr hq=>h.YM _ _ r q (fun e=>hij (hi i j (CB.1 hr).1 (CB.1 hq).1 e)) (hf i r hr) (hf j q hq),fun i r hr=>h.own _ _ (hf i r hr)⟩
def ZF (l:List FM):List Nat→List FM
 |[]=>[]
 |i::is=>l.getD i ⟨fun _=>False,fun _=>True⟩::ZF l is
theorem Cj {P:Program} {ops:Array Oper} {r:List Oper} {o:Oper} {a:Act} {w:World} {Q:Exit→Act→World→Prop} {ty:TypeId} {n:Nat} (R:Ep P ty n) {S:Nat→Prop} {w0:World} {l:List FM} (H:Hid (SL S w0 w l)) (i:Nat) {g:Nat} {t:TypeId} {cs:Array Value} (hi:l[i]?=some (Aw g t cs)) (cs':Array Value) (k:cs'.all (·.oneCell')=true) (h:∀ w',Hid (SL S w0 w' (l.set i (Aw g t cs')))→wpList P ops Q r (a.put o.dst undef) w') {x y:Operand} (h1:o.guard=none:=by rfl) (h2:o.op=.store ty x y:=by rfl) (h3:a.eval x=.pointer (some ⟨g,0,none⟩):=by rfl) (h4:cs.size=n:=by rfl) (h5:cs'.size=n:=by rfl) (h6:a.eval y=.agg cs':=by rfl):wpList P ops Q (o::r) a w:=Ae h1 R x y h2 g h3 (H.out.blk i hi) h4 cs' h5 h6 k fun w' b g=>h w' (Aa (H.out.AA i hi g b))
theorem LS:(∀ {α:Type} {x:α} {xs:List α} {a:α},(x::xs).set 0 a=a::xs)∧(∀ {α:Type} {x:α} {xs:List α} {i:Nat} {a:α},(x::xs).set (i+1) a=x::xs.set i a)∧(∀ {α:Type} {a:α} {l m:List α},a::l++m=a::(l++m))∧(∀ {α:Type} (m:List α),[]++m=m)∧(∀ {α:Type} {a:α} {l:List α},(a::l).eraseIdx 0=l)∧(∀ {α:Type} {a:α} {l:List α} {i:Nat},(a::l).eraseIdx (i+1)=a::l.eraseIdx i)∧(∀ {α:Type} (l:List α) (i:Nat) (a:α),l.toArray.setIfInBounds i a=(l.set i a).toArray)∧(∀ (w:World) (d:Obj),(w.alloc d).heap.size=w.heap.size+1)∧(∀ l:List FM,ZF l []=[])∧(∀ (l:List FM) (i:Nat) (is:List Nat),ZF l (i::is)=l.getD i ⟨fun _=>False,fun _=>True⟩::ZF l is)∧(∀ {α:Type} {x:α} {xs:List α} {d:α},(x::xs).getD 0 d=x)∧(∀ {α:Type} {x:α} {xs:List α} {n:Nat} {d:α},(x::xs).getD (n+1) d=xs.getD n d):=
 ⟨kD,List.set_cons_succ,KZ,FC,List.eraseIdx_cons_zero,List.eraseIdx_cons_succ,List.setIfInBounds_toArray,Gf,fun _=>rfl,fun _ _ _=>rfl,List.getD_cons_zero,List.getD_cons_succ⟩
theorem Ad8 (l:List FM) (is:List Nat):(ZF l is).length=is.length:=by induction is with|nil=>rfl|cons i is ih=>simp [ZF,ih]
theorem oG (l:List FM):∀ (is:List Nat) (k:Nat),(∀ i ∈ is,i<l.length)→(ZF l is)[k]?=(is[k]?).bind (fun i=>l[i]?)
 |[],k,_=>by simp [ZF]
 |i::is,0,h=>by
  have:=h i (Gg ..);simp [ZF,YS,Fp this]
 |i::is,k+1,h=>by
  rw [ZF,FR,FR];exact oG l is k fun j hj=>h j (Ii _ hj)
theorem SL.Fg (h:SL S w0 w l) (is:List Nat) (hn:is.Nodup) (hl:∀ i ∈ is,i<l.length):SL S w0 w (ZF l is):=by
 refine h.pick _ (fun i=>is.getD i 0) (fun i r hi=>?_) (fun i j hi hj e=>?_)
 ·rw [oG l is i hl] at hi;cases hx:is[i]? with
  |none=>rw [hx] at hi;cases hi
  |some x=>
   rw [hx] at hi;show l[is.getD i 0]?=_;rw [YS,hx];exact hi
 ·rw [Ad8] at hi hj;simp only [YS,Fp hi,Fp hj,Option.getD_some] at e;have hp:=List.pairwise_iff_getElem.1 hn;rcases kC i j with h1|h1|h1
  ·exact absurd e (hp i j hi hj h1)
  ·exact h1
  ·exact absurd e.symm (hp j i hj hi h1)
theorem SL.rot {r:FM} (h:SL S w0 w (l++[r])):SL S w0 w (r::l):=by
 refine h.pick _ (fun i=>match i with|0=>l.length|i+1=>i) (fun i q hq=>?_) (fun i j hi hj e=>?_)
 ·match i,hq with
  |0,hq=>
   injection hq with hq;subst hq;show (l++[r])[l.length]?=_;simp
  |i+1,hq=>
   have hq:l[i]?=some q:=by simpa using hq
   have:=(CB.1 hq).1;show (l++[r])[i]?=_;rw [QH this];exact hq
 ·match i,j,hi,hj,e with
  |0,0,_,_,_=>rfl
  |0,j+1,_,hj,e=>simp at hj;simp at e;omega
  |i+1,0,hi,_,e=>simp at hi;simp at e;omega
  |i+1,j+1,_,_,e=>simp at e;omega
theorem SL.Tm (h:SL S w0 w l) (i j:Nat) (hij:i≠j) {d0 d1:Nat} {t0 t1:TypeId} {c0 c1 e0 e1:Array Value} (hi:l[i]?=some (Aw d0 t0 c0)) (hj:l[j]?=some (Aw d1 t1 c1)) (hb:Tt d0 d1 w w') (b0:Bh w' d0 t0 e0) (b1:Bh w' d1 t1 e1):SL S w0 w' ((l.set i (Aw d0 t0 e0)).set j (Aw d1 t1 e1)):=by
 have hil:i<l.length:=(CB.1 hi).1;have hjl:j<l.length:=(CB.1 hj).1;have key:∀ (m:Nat) z,((l.set i (Aw d0 t0 e0)).set j (Aw d1 t1 e1))[m]?=some z→z.holds w'∧∃ q,l[m]?=some q∧∀ g,z.D g→q.D g:=by
  intro m z hz;by_cases ej:j=m
  ·subst ej;rw [NK (by simpa using hjl)] at hz;injection hz with hz;subst hz;exact ⟨Mc b1,_,hj,fun g hg=>hg⟩
  ·rw [Ou ej] at hz;by_cases ei:i=m
   ·subst ei;rw [NK hil] at hz;injection hz with hz;subst hz;exact ⟨Mc b0,_,hi,fun g hg=>hg⟩
   ·rw [Ou ei] at hz;exact ⟨(h.all m z hz).keep hb.size fun g hg=>hb.block g ((h.all m z hz).1 g hg) (fun e=>h.YM m i z _ (fun e=>ei e.symm) hz hi g hg e) (fun e=>h.YM m j z _ (fun e=>ej e.symm) hz hj g hg e),z,hz,fun g hg=>hg⟩
 refine ⟨⟨hb.os.trans h.fr.os,hb.tape.trans h.fr.tape,hb.output.trans h.fr.output,IA h.fr.size hb.size,fun g hg hn=>?_⟩,fun m z hz=>(key m z hz).1,fun m n z z' hmn hz hz' g hg hg'=>?_,fun m z hz g hg=>?_⟩
 ·refine (hb.block g (KI hg h.fr.size) ?_ ?_).trans (h.fr.block g hg hn)
  ·rintro rfl;exact (h.own i _ hi g rfl).elim (fun o=>by omega) hn
  ·rintro rfl;exact (h.own j _ hj g rfl).elim (fun o=>by omega) hn
 ·obtain ⟨q,hq,hd⟩:=(key m z hz).2;obtain ⟨q',hq',hd'⟩:=(key n z' hz').2;exact h.YM m n q q' hmn hq hq' g (hd g hg) (hd' g hg')
 ·obtain ⟨q,hq,hd⟩:=(key m z hz).2;exact h.own m q hq g (hd g hg)
end
end Go.Proofs.YtijplolmkcdflaaGreat
namespace Go.Proofs.YtijplolmkcdflaaGreat
open Tryz
open Go.RowKit Go.ChangeShapes Go.WideShapes Go.Deep
structure Wt where
 kind:Int
 data:List UInt8
abbrev Wt.cs (c:Wt):Array Value:=#[.int .i64 c.kind,.string ⟨c.data.toArray⟩]
structure Wt.ok (c:Wt):Prop where
 kind:AZ c.kind
 data:c.data.length≤140737488351232
instance At6:AY Wt where
 size:=2
 bytes:=24
 cells c:=c.cs.toList
 ok w c:=c.ok
 len _:=rfl
 pos:=by omega
 mono _ h:=h
theorem Ao5 (c:Wt):c.cs.all (·.oneCell')=true:=by simp [Value.oneCell']
theorem Rx:Ep prog 41 2:=⟨⟨_,underlying41,rfl⟩,by kernel_rfl⟩
theorem Ar5:prog.cellsOf 41=2:=by kernel_rfl
theorem R7:jR prog 41 Wt:=by
 intro H enc w base spare held fuel cs x h hz;have hl:=vU underlying41 h Ar5;obtain ⟨a0,h0,w0⟩:=sK underlying41 h hz 0 _ rfl (R6 underlying3) Aw7;obtain ⟨a1,h1,w1⟩:=sK underlying41 h hz 1 _ rfl (xE underlying9) Aw6;refine ⟨⟨a0,a1⟩,?_,⟨w0,w1⟩⟩
 match cs,hl with
 |[x0,x1],_=>
  simp [AY.cells,Row.v] at h0 h1;simp [AY.cells,h0,h1]
theorem R8 {H:Type} {enc:TypeId × Value→H} {w:World} {base b0:Nat} {spare:Nat→Bool} {held:Bool} {r:Reach} {v:Value} {d:DataW H} {p:List MemPlace}
 (hv:Value.okWide prog w r b0 57 v) (h:DataW.Trod enc prog w base spare held 57 v d p) (hz:Wl prog 57 d):∃ x:Row Wt,v=x.v∧x.ok w:=open_row underlying57 Ar5 Za0 R7 hv h hz
theorem Row.rd.Ar4 {w:World} {x:Row Wt} (h:x.rd w) {k:Nat} (hk:k<x.n):∃ b o t,x.A=some ⟨b,o,none⟩∧b<w.heap.size∧x.l[k]?=some t∧t.ok∧w.rangeAt b (o+k * 2) t.cs.toList:=by
 obtain ⟨b,o,t,e,hb,ht,hc⟩:=NP h.r hk;exact ⟨b,o,t,e,hb,ht,h.all t (CU ht),hc⟩
def sU (l:List Wt):Nat:=(l.map fun c=>min c.data.length 5000).sum
def FewK (l:Row Wt) (most:Nat):Prop:=l.n≤most∧sU l.l≤5000
theorem J2 {l:List Wt} {k:Nat} {t:Wt} (h:l[k]?=some t):sU (l.take (k+1))=sU (l.take k)+min t.data.length 5000:=by
 unfold sU;rw [Ra,h,Cf,List.sum_append];simp
theorem Zq9 {p:Prop} (h:p:=by
 rcases d0 with ⟨d2,d3⟩|⟨d2,d3,d4,d5⟩
 ·go_wp2_with fail;go_ret;exact ⟨false,rfl,(fun h=>by cases h),H.to⟩
 ·go_wp2_with fail;go_ret;exact ⟨false,rfl,(fun h=>by cases h),H.to⟩
):p:=h
theorem Z6 (l:Row Wt) (most:Nat) (w:World) (hl:l.rd w) (hm:most≤1000000):
 Calls prog 19 #[.slice l.A l.n l.c,.int .i64 most] w (Ap9 (FewK l most) w):=by
 have HL:=Aa (fun w' (h:Ai w w')=>hl.mono h);have hll:Hid (l.l.length=l.n):=hl.len;have n63:=hl.n63;have H:=Aa (SL.start No w);obtain ⟨A,n,c,ns⟩:=l;simp only at *;clear hl;go_enter func19,ntmps19;go_upto_region 3 with fail;have HA:Hid (sU (ns.take 0)=0):=rfl;go_loopg [5,6] n (fun gg s5 s6 wr=>∃ (k a:Nat),gg=n - k∧k≤n∧k≤most+1∧s5=.int .i64 a∧s6=.int .i64 k∧a≤k * 5000∧Hid (SL No w wr [])∧Hid (sU (ns.take k)=a));case atStart=>exact ⟨0,0,rfl,Xl,Xl,rfl,rfl,Xl,H,HA⟩
 case round=>
  clear H HA;obtain ⟨k,a,BR,hk,hkm,rfl,rfl,hak,H,HA⟩:=hrel;have Cs:=Aa BR;clear BR;by_cases hlt:k<n∧k≤most
  ·obtain ⟨h1,h2⟩:=hlt;have e1:decide ((k:Int)≤(most:Int))=true:=by simp<;>omega
   have e1n:decide (k≤most)=true:=by simp<;>omega
   have e2:decide ((k:Int)<(n:Int))=true:=by simp<;>omega
   have e2n:decide (k<n)=true:=by simp<;>omega
   obtain ⟨bl,ol,t,hAl,hbl,htk,htr,hrg⟩:=(HL _ H.to).Ar4 (k:=k) h1;simp only at hAl;have ct:wr.cell? ⟨bl,ol+k * 2+1,none⟩=some (.string ⟨t.data.toArray⟩):=hrg 1 _ rfl;have HAL:=Aa hAl;obtain ⟨qq,hq,hq2,hq3⟩:∃ q:Nat,(min (t.data.length:Int) 5000)=q∧q≤5000∧min t.data.length 5000=q:=⟨min t.data.length 5000,Xl,Xl,rfl⟩;have HQ:=Aa hq;have HA2:Hid (sU (ns.take (k+1))=a+qq):=by show _=_;rw [J2 htk,HA.Ab,hq3]
   have i0:(0:Int)≤k:=by omega
   have i1:(k:Int)<n:=by omega
   have t63:=htr.data;clear hbl htk htr hrg hq hq3 HA;rw [hAl];clear hAl;go_wp2;rw [HQ.Ab,←HAL.Ab];clear e1 e1n e2 e2n ct;go_roundg (n - (k+1));case rel=>exact ⟨k+1,a+qq,rfl,Xl,Xl,by go_num,by go_num,Xl,H,HA2⟩
   case measure=>rw [Cs.Ab];omega
  ·have d0:(decide ((k:Int)<(n:Int))=false∧decide (k<n)=false)∨(decide ((k:Int)<(n:Int))=true∧decide (k<n)=true∧decide ((k:Int)≤(most:Int))=false∧decide (k≤most)=false):=by
    by_cases h:k<n
    ·right;refine ⟨by simp<;>omega,by simp<;>omega,by simp<;>omega,by simp<;>omega⟩
    ·left;refine ⟨by simp<;>omega,by simp<;>omega⟩
   have HV:Hid (n≤most→a≤5000→FewK ⟨A,n,c,ns⟩ most):=fun h1 h2=>by
    obtain rfl:k=n:=by omega
    refine ⟨h1,?_⟩;have h5:=HA.Ab;rw [EU (by rw [hll.Ab];exact Ci _)] at h5;show sU ns≤5000;omega
   clear HA hlt;by_cases g1:n≤most
   ·have f1:decide ((n:Int)≤(most:Int))=true:=by simp<;>omega
    have f1n:decide (n≤most)=true:=by simp<;>omega
    have Lu:=Aa (HV g1);by_cases g2:a≤5000
    ·have f2:decide ((a:Int)≤5000)=true:=by simp<;>omega
     have HV3:=Aa (Lu g2);clear HV Lu g1 g2;rcases d0 with ⟨d2,d3⟩|⟨d2,d3,d4,d5⟩
     ·go_wp2_with fail;go_ret;exact ⟨true,rfl,(fun _=>HV3.Ab),H.to⟩
     ·go_wp2_with fail;go_ret;exact ⟨true,rfl,(fun _=>HV3.Ab),H.to⟩
    ·have f2:decide ((a:Int)≤5000)=false:=by simp<;>omega
     clear HV Lu g1 g2;exact Zq9
   ·have f1:decide ((n:Int)≤(most:Int))=false:=by simp<;>omega
    have f1n:decide (n≤most)=false:=by simp<;>omega
    clear HV g1;exact Zq9
end Go.Proofs.YtijplolmkcdflaaGreat
namespace Go.Proofs.YtijplolmkcdflaaGreat
open Tryz
open Go.RowKit
structure Oi where
 s:Int
 mn:Int
 mx:Int
deriving DecidableEq
structure Ag where
 c:Int
 p:Oi
 q:Oi
 r:Oi
deriving DecidableEq
def Oi.cs (x:Oi):Array Value:=#[.int .i64 x.s,.int .i64 x.mn,.int .i64 x.mx]
def Ag.cs (a:Ag):Array Value:=#[.int .i64 a.c,.int .i64 a.p.s,.int .i64 a.p.mn,.int .i64 a.p.mx,.int .i64 a.q.s,.int .i64 a.q.mn,.int .i64 a.q.mx,.int .i64 a.r.s,.int .i64 a.r.mn,.int .i64 a.r.mx]
structure Oi.ok (x:Oi):Prop where
 s:AZ x.s
 mn:AZ x.mn
 mx:AZ x.mx
structure Ag.ok (a:Ag):Prop where
 c:AZ a.c
 p:a.p.ok
 q:a.q.ok
 r:a.r.ok
def Oi.zero:Oi:=⟨0,0,0⟩
def Ag.zero:Ag:=⟨0,.zero,.zero,.zero⟩
def Oi.join (x y:Oi):Oi:=⟨(Cu x.s y.s).1,min x.mn y.mn,max x.mx y.mx⟩
theorem aJ (x y:Oi) (w:World) (hx:x.ok) (hy:y.ok):
 Calls prog 154 #[.agg x.cs,.agg y.cs] w fun e w'=>e=.returned (.tuple #[.agg (x.join y).cs,.bool (Cu x.s y.s).2])∧Ai w w':=by
 obtain ⟨x0,x1,x2⟩:=x;obtain ⟨y0,y1,y2⟩:=y;have Hx:=Aa hx;have Hy:=Aa hy;clear hx hy;unfold Oi.cs Oi.join;simp only;go_enter func154,ntmps154;go_wp2_with fail;refine (Wi _ _ _ Hx.s Hy.s).mono ?_;rintro e w1 ⟨rfl,rfl⟩;go_wp2;refine Bc (v:=.tuple #[.agg #[.int .i64 (Cu x0 y0).1,.int .i64 (min x1 y1),.int .i64 (max x2 y2)],.bool (Cu x0 y0).2]) (by simp [results,Tryz.results154,go_sem]) rfl ⟨rfl,?_⟩;exact (((Ai.refl _).alloc _).alloc _).alloc _
def Ag.join (a b:Ag):Ag × Bool:=
 if a.c=0 then (b,true) else if b.c=0 then (a,true) else
 if (Cu a.c b.c).2=true∧(Cu a.p.s b.p.s).2=true∧(Cu a.q.s b.q.s).2=true∧(Cu a.r.s b.r.s).2=true
 then (⟨(Cu a.c b.c).1,a.p.join b.p,a.q.join b.q,a.r.join b.r⟩,true) else (.zero,false)
def Ag.upto (a b:Ag) (k:Nat):Ag:=⟨(Cu a.c b.c).1,if 0<k then a.p.join b.p else .zero,if 1<k then a.q.join b.q else .zero,if 2<k then a.r.join b.r else .zero⟩
theorem Ze6 {p:Prop} (h:p:=by show _=_;rw [HJ.Ab,Ak];rintro ⟨k1,k2,k3⟩;first|(rw [QQ.Ab] at k1;cases k1)|(rw [QQ.Ab] at k2;cases k2)|(rw [QQ.Ab] at k3;cases k3)):p:=h
theorem Zt8 {p:Prop} (h:p:=by have:=((Bh.new (w.alloc (.cells a.cs 95)) 95 b.cs).alloc (.cells Ag.zero.cs 95)).alloc (.cells (a.upto b 0).cs 95);simpa using this):p:=h
theorem Zt9 {p:Prop} (h:p:=by have:=(Bh.new ((w.alloc (.cells a.cs 95)).alloc (.cells b.cs 95)) 95 Ag.zero.cs).alloc (.cells (a.upto b 0).cs 95);simpa using this):p:=h
theorem Zu0 {p:Prop} (h:p:=by have:=Bh.new (((w.alloc (.cells a.cs 95)).alloc (.cells b.cs 95)).alloc (.cells Ag.zero.cs 95)) 95 (a.upto b 0).cs;simpa using this):p:=h
theorem V8 (a b:Ag) (w:World) (ha:a.ok) (hb:b.ok) (h1:¬ a.c=0) (h2:¬ b.c=0) (h3:(Cu a.c b.c).2=true):
 Calls prog 109 #[.agg a.cs,.agg b.cs] w fun e w'=>e=.returned (.tuple #[.agg (a.join b).1.cs,.bool (a.join b).2])∧Ai w w':=by
 have Ha:=Aa ha;have Hb:=Aa hb;clear ha hb;have q1:(a.c==0)=false:=by simpa using h1
 have q2:(b.c==0)=false:=by simpa using h2
 have HJ:Hid (a.join b=if (Cu a.p.s b.p.s).2=true∧(Cu a.q.s b.q.s).2=true∧(Cu a.r.s b.r.s).2=true then (a.upto b 3,true) else (.zero,false)):=by
  show _=_;unfold Ag.join Ag.upto;rw [Ak h1,Ak h2];simp [h3]
 clear h1 h2;have ea:a.cs=#[.int .i64 a.c,.int .i64 a.p.s,.int .i64 a.p.mn,.int .i64 a.p.mx,.int .i64 a.q.s,.int .i64 a.q.mn,.int .i64 a.q.mx,.int .i64 a.r.s,.int .i64 a.r.mn,.int .i64 a.r.mx]:=rfl;have eb:b.cs=#[.int .i64 b.c,.int .i64 b.p.s,.int .i64 b.p.mn,.int .i64 b.p.mx,.int .i64 b.q.s,.int .i64 b.q.mn,.int .i64 b.q.mx,.int .i64 b.r.s,.int .i64 b.r.mn,.int .i64 b.r.mx]:=rfl;rw [ea,eb];clear ea eb;go_enter func109,ntmps109;go_wp2_with fail;refine (Wi _ _ _ Ha.c Hb.c).mono ?_;rintro e w1 ⟨rfl,rfl⟩;go_wp2_with fail;have B0:Bh ((((w.alloc (.cells a.cs 95)).alloc (.cells b.cs 95)).alloc (.cells Ag.zero.cs 95)).alloc (.cells (a.upto b 0).cs 95)) w.heap.size 95 a.cs:=(((Bh.new w _ _).alloc _).alloc _).alloc _;have B1:Bh ((((w.alloc (.cells a.cs 95)).alloc (.cells b.cs 95)).alloc (.cells Ag.zero.cs 95)).alloc (.cells (a.upto b 0).cs 95)) (w.heap.size+1) 95 b.cs:=by
  exact Zt8
 have B2:Bh ((((w.alloc (.cells a.cs 95)).alloc (.cells b.cs 95)).alloc (.cells Ag.zero.cs 95)).alloc (.cells (a.upto b 0).cs 95)) (w.heap.size+1+1) 95 Ag.zero.cs:=by
  exact Zt9
 have B3:Bh ((((w.alloc (.cells a.cs 95)).alloc (.cells b.cs 95)).alloc (.cells Ag.zero.cs 95)).alloc (.cells (a.upto b 0).cs 95)) (w.heap.size+1+1+1) 95 (a.upto b 0).cs:=by
  exact Zu0
 have BB:Ai w ((((w.alloc (.cells a.cs 95)).alloc (.cells b.cs 95)).alloc (.cells Ag.zero.cs 95)).alloc (.cells (a.upto b 0).cs 95)):=((((Ai.refl w).alloc _).alloc _).alloc _).alloc _;go_loopg [7,32] 3 (fun g s7 s32 wr=>∃ k:Nat,g=3 - k∧k≤3∧s32=.int .i64 k∧s7=.bool true∧Ai w wr∧Bh wr w.heap.size 95 a.cs∧Bh wr (w.heap.size+1) 95 b.cs∧Bh wr (w.heap.size+1+1) 95 Ag.zero.cs∧Bh wr (w.heap.size+1+1+1) 95 (a.upto b k).cs∧
  Hid ((0<k→(Cu a.p.s b.p.s).2=true)∧(1<k→(Cu a.q.s b.q.s).2=true)∧(2<k→(Cu a.r.s b.r.s).2=true)))
 case atStart=>exact ⟨0,rfl,Xl,rfl,rfl,BB,B0,B1,B2,B3,by refine ⟨?_,?_,?_⟩<;>intro h<;>omega⟩
 case round=>
  clear B0 B1 B2 B3 BB;obtain ⟨k,BR,hk,rfl,rfl,hB,b0,b1,b2,b3,hF⟩:=hrel;by_cases hlt:k<3
  ·rcases (show k=0∨k=1∨k=2 by omega) with rfl|rfl|rfl
   ·have c0:=b0.cell 1;have d0:=b1.cell 1;have c1:=b0.cell 2;have d1:=b1.cell 2;have c2:=b0.cell 3;have d2:=b1.cell 3;simp [Ag.cs] at c0 c1 c2 d0 d1 d2;obtain ⟨m,Hm⟩:∃ m,Hid (a.p.join b.p=m):=⟨_,rfl⟩;obtain ⟨ok,QQ⟩:∃ ok,Hid ((Cu a.p.s b.p.s).2=ok):=⟨_,rfl⟩;have Hu:Hid (((((a.upto b 0).cs.setIfInBounds 1 (.int .i64 m.s)).setIfInBounds 2 (.int .i64 m.mn)).setIfInBounds 3 (.int .i64 m.mx))=(a.upto b 1).cs):=by rw [←Hm.Ab];rfl
    go_wp2_with fail;go_region_with (go_at_call 154;refine (aJ a.p b.p _ Ha.p Hb.p).mono ?_;rintro e w1 ⟨rfl,hb1⟩;rw [Hm.Ab,QQ.Ab,show m.cs=#[.int .i64 m.s,.int .i64 m.mn,.int .i64 m.mx] from rfl];have b3':=b3.drew.Av hb1;have f0:=b3'.cell 1;have f1:=b3'.cell 2;have f2:=b3'.cell 3;simp [Ag.cs] at f0 f1 f2;have z0:=b3'.frozen 1;have z1:=b3'.frozen 2;have z2:=b3'.frozen 3);all_goals
     have b0':=((((b0.drew.Av hb1).far (p:=⟨w.heap.size+1+1+1,1,none⟩) Za3 (.int .i64 m.s)).far (p:=⟨w.heap.size+1+1+1,2,none⟩) Za3 (.int .i64 m.mn)).far (p:=⟨w.heap.size+1+1+1,3,none⟩) Za3 (.int .i64 m.mx));have b1':=((((b1.drew.Av hb1).far (p:=⟨w.heap.size+1+1+1,1,none⟩) uH (.int .i64 m.s)).far (p:=⟨w.heap.size+1+1+1,2,none⟩) uH (.int .i64 m.mn)).far (p:=⟨w.heap.size+1+1+1,3,none⟩) uH (.int .i64 m.mx));have b2':=((((b2.drew.Av hb1).far (p:=⟨w.heap.size+1+1+1,1,none⟩) uH (.int .i64 m.s)).far (p:=⟨w.heap.size+1+1+1,2,none⟩) uH (.int .i64 m.mn)).far (p:=⟨w.heap.size+1+1+1,3,none⟩) uH (.int .i64 m.mx));have tX:=((b3'.Iy 1 (.int .i64 m.s)).Iy 2 (.int .i64 m.mn)).Iy 3 (.int .i64 m.mx);rw [Hu.Ab] at tX;have hB':=(((hB.drew.trans hb1).setCell (p:=⟨w.heap.size+1+1+1,1,none⟩) Za3 (.int .i64 m.s)).setCell (p:=⟨w.heap.size+1+1+1,2,none⟩) Za3 (.int .i64 m.mn)).setCell (p:=⟨w.heap.size+1+1+1,3,none⟩) Za3 (.int .i64 m.mx);generalize (((w1.setCell ⟨w.heap.size+1+1+1,1,none⟩ (.int .i64 m.s)).setCell ⟨w.heap.size+1+1+1,2,none⟩ (.int .i64 m.mn)).setCell ⟨w.heap.size+1+1+1,3,none⟩ (.int .i64 m.mx))=w2 at *;clear f0 f1 f2 z0 z1 z2 c0 c1 c2 d0 d1 d2 b0 b1 b2 b3 b3' hB hb1;cases ok
     ·have uP:Hid (a.join b=(.zero,false)):=by
       exact Ze6
      have UM:=b2'.cell 0;have UL:=b2'.cell 1;have UK:=b2'.cell 2;have UJ:=b2'.cell 3;have UI:=b2'.cell 4;have UH:=b2'.cell 5;have UG:=b2'.cell 6;have UF:=b2'.cell 7;have UE:=b2'.cell 8;have UD:=b2'.cell 9;have gz0:=b2'.frozen 0;have gz1:=b2'.frozen 1;have gz2:=b2'.frozen 2;have gz3:=b2'.frozen 3;have gz4:=b2'.frozen 4;have gz5:=b2'.frozen 5;have gz6:=b2'.frozen 6;have gz7:=b2'.frozen 7;have gz8:=b2'.frozen 8;have gz9:=b2'.frozen 9;simp only [Ag.zero,Oi.zero,Ag.cs] at UM UL UK UJ UI UH UG UF UE UD;simp at UM UL UK UJ UI UH UG UF UE UD;go_wp2;refine Bc (v:=.tuple #[.agg #[.int .i64 0,.int .i64 0,.int .i64 0,.int .i64 0,.int .i64 0,.int .i64 0,.int .i64 0,.int .i64 0,.int .i64 0,.int .i64 0],.bool false]) (by simp [results,Tryz.results109,go_sem,UM,UL,UK,UJ,UI,UH,UG,UF,UE,UD] ) rfl ?_;rw [uP.Ab];refine ⟨rfl,?_⟩
      iterate 10 (refine Ai.setCell ?_ Za3 _)
      exact hB'
     ·go_wp2;go_roundg (3 - 1);case rel=>exact ⟨1,rfl,Xl,rfl,rfl,hB',b0',b1',b2',tX,by refine ⟨fun h=>?_,fun h=>?_,fun h=>?_⟩<;>first|omega|exact QQ.Ab|exact hF.1 Xl|exact hF.2.1 Xl⟩
      case measure=>omega
   ·have c0:=b0.cell 4;have d0:=b1.cell 4;have c1:=b0.cell 5;have d1:=b1.cell 5;have c2:=b0.cell 6;have d2:=b1.cell 6;simp [Ag.cs] at c0 c1 c2 d0 d1 d2;obtain ⟨m,Hm⟩:∃ m,Hid (a.q.join b.q=m):=⟨_,rfl⟩;obtain ⟨ok,QQ⟩:∃ ok,Hid ((Cu a.q.s b.q.s).2=ok):=⟨_,rfl⟩;have Hu:Hid (((((a.upto b 1).cs.setIfInBounds 4 (.int .i64 m.s)).setIfInBounds 5 (.int .i64 m.mn)).setIfInBounds 6 (.int .i64 m.mx))=(a.upto b 2).cs):=by rw [←Hm.Ab];rfl
    go_wp2_with fail;go_region_with (go_at_call 154;refine (aJ a.q b.q _ Ha.q Hb.q).mono ?_;rintro e w1 ⟨rfl,hb1⟩;rw [Hm.Ab,QQ.Ab,show m.cs=#[.int .i64 m.s,.int .i64 m.mn,.int .i64 m.mx] from rfl];have b3':=b3.drew.Av hb1;have f0:=b3'.cell 4;have f1:=b3'.cell 5;have f2:=b3'.cell 6;simp [Ag.cs] at f0 f1 f2;have z0:=b3'.frozen 4;have z1:=b3'.frozen 5;have z2:=b3'.frozen 6);all_goals
     have b0':=((((b0.drew.Av hb1).far (p:=⟨w.heap.size+1+1+1,4,none⟩) Za3 (.int .i64 m.s)).far (p:=⟨w.heap.size+1+1+1,5,none⟩) Za3 (.int .i64 m.mn)).far (p:=⟨w.heap.size+1+1+1,6,none⟩) Za3 (.int .i64 m.mx));have b1':=((((b1.drew.Av hb1).far (p:=⟨w.heap.size+1+1+1,4,none⟩) uH (.int .i64 m.s)).far (p:=⟨w.heap.size+1+1+1,5,none⟩) uH (.int .i64 m.mn)).far (p:=⟨w.heap.size+1+1+1,6,none⟩) uH (.int .i64 m.mx));have b2':=((((b2.drew.Av hb1).far (p:=⟨w.heap.size+1+1+1,4,none⟩) uH (.int .i64 m.s)).far (p:=⟨w.heap.size+1+1+1,5,none⟩) uH (.int .i64 m.mn)).far (p:=⟨w.heap.size+1+1+1,6,none⟩) uH (.int .i64 m.mx));have tX:=((b3'.Iy 4 (.int .i64 m.s)).Iy 5 (.int .i64 m.mn)).Iy 6 (.int .i64 m.mx);rw [Hu.Ab] at tX;have hB':=(((hB.drew.trans hb1).setCell (p:=⟨w.heap.size+1+1+1,4,none⟩) Za3 (.int .i64 m.s)).setCell (p:=⟨w.heap.size+1+1+1,5,none⟩) Za3 (.int .i64 m.mn)).setCell (p:=⟨w.heap.size+1+1+1,6,none⟩) Za3 (.int .i64 m.mx);generalize (((w1.setCell ⟨w.heap.size+1+1+1,4,none⟩ (.int .i64 m.s)).setCell ⟨w.heap.size+1+1+1,5,none⟩ (.int .i64 m.mn)).setCell ⟨w.heap.size+1+1+1,6,none⟩ (.int .i64 m.mx))=w2 at *;clear f0 f1 f2 z0 z1 z2 c0 c1 c2 d0 d1 d2 b0 b1 b2 b3 b3' hB hb1;cases ok
     ·have uP:Hid (a.join b=(.zero,false)):=by
       exact Ze6
      have UM:=b2'.cell 0;have UL:=b2'.cell 1;have UK:=b2'.cell 2;have UJ:=b2'.cell 3;have UI:=b2'.cell 4;have UH:=b2'.cell 5;have UG:=b2'.cell 6;have UF:=b2'.cell 7;have UE:=b2'.cell 8;have UD:=b2'.cell 9;have gz0:=b2'.frozen 0;have gz1:=b2'.frozen 1;have gz2:=b2'.frozen 2;have gz3:=b2'.frozen 3;have gz4:=b2'.frozen 4;have gz5:=b2'.frozen 5;have gz6:=b2'.frozen 6;have gz7:=b2'.frozen 7;have gz8:=b2'.frozen 8;have gz9:=b2'.frozen 9;simp only [Ag.zero,Oi.zero,Ag.cs] at UM UL UK UJ UI UH UG UF UE UD;simp at UM UL UK UJ UI UH UG UF UE UD;go_wp2;refine Bc (v:=.tuple #[.agg #[.int .i64 0,.int .i64 0,.int .i64 0,.int .i64 0,.int .i64 0,.int .i64 0,.int .i64 0,.int .i64 0,.int .i64 0,.int .i64 0],.bool false]) (by simp [results,Tryz.results109,go_sem,UM,UL,UK,UJ,UI,UH,UG,UF,UE,UD] ) rfl ?_;rw [uP.Ab];refine ⟨rfl,?_⟩
      iterate 10 (refine Ai.setCell ?_ Za3 _)
      exact hB'
     ·go_wp2;go_roundg (3 - 2);case rel=>exact ⟨2,rfl,Xl,rfl,rfl,hB',b0',b1',b2',tX,by refine ⟨fun h=>?_,fun h=>?_,fun h=>?_⟩<;>first|omega|exact QQ.Ab|exact hF.1 Xl|exact hF.2.1 Xl⟩
      case measure=>omega
   ·have c0:=b0.cell 7;have d0:=b1.cell 7;have c1:=b0.cell 8;have d1:=b1.cell 8;have c2:=b0.cell 9;have d2:=b1.cell 9;simp [Ag.cs] at c0 c1 c2 d0 d1 d2;obtain ⟨m,Hm⟩:∃ m,Hid (a.r.join b.r=m):=⟨_,rfl⟩;obtain ⟨ok,QQ⟩:∃ ok,Hid ((Cu a.r.s b.r.s).2=ok):=⟨_,rfl⟩;have Hu:Hid (((((a.upto b 2).cs.setIfInBounds 7 (.int .i64 m.s)).setIfInBounds 8 (.int .i64 m.mn)).setIfInBounds 9 (.int .i64 m.mx))=(a.upto b 3).cs):=by rw [←Hm.Ab];rfl
    go_wp2_with fail;go_region_with (go_at_call 154;refine (aJ a.r b.r _ Ha.r Hb.r).mono ?_;rintro e w1 ⟨rfl,hb1⟩;rw [Hm.Ab,QQ.Ab,show m.cs=#[.int .i64 m.s,.int .i64 m.mn,.int .i64 m.mx] from rfl];have b3':=b3.drew.Av hb1;have f0:=b3'.cell 7;have f1:=b3'.cell 8;have f2:=b3'.cell 9;simp [Ag.cs] at f0 f1 f2;have z0:=b3'.frozen 7;have z1:=b3'.frozen 8;have z2:=b3'.frozen 9);all_goals
     have b0':=((((b0.drew.Av hb1).far (p:=⟨w.heap.size+1+1+1,7,none⟩) Za3 (.int .i64 m.s)).far (p:=⟨w.heap.size+1+1+1,8,none⟩) Za3 (.int .i64 m.mn)).far (p:=⟨w.heap.size+1+1+1,9,none⟩) Za3 (.int .i64 m.mx));have b1':=((((b1.drew.Av hb1).far (p:=⟨w.heap.size+1+1+1,7,none⟩) uH (.int .i64 m.s)).far (p:=⟨w.heap.size+1+1+1,8,none⟩) uH (.int .i64 m.mn)).far (p:=⟨w.heap.size+1+1+1,9,none⟩) uH (.int .i64 m.mx));have b2':=((((b2.drew.Av hb1).far (p:=⟨w.heap.size+1+1+1,7,none⟩) uH (.int .i64 m.s)).far (p:=⟨w.heap.size+1+1+1,8,none⟩) uH (.int .i64 m.mn)).far (p:=⟨w.heap.size+1+1+1,9,none⟩) uH (.int .i64 m.mx));have tX:=((b3'.Iy 7 (.int .i64 m.s)).Iy 8 (.int .i64 m.mn)).Iy 9 (.int .i64 m.mx);rw [Hu.Ab] at tX;have hB':=(((hB.drew.trans hb1).setCell (p:=⟨w.heap.size+1+1+1,7,none⟩) Za3 (.int .i64 m.s)).setCell (p:=⟨w.heap.size+1+1+1,8,none⟩) Za3 (.int .i64 m.mn)).setCell (p:=⟨w.heap.size+1+1+1,9,none⟩) Za3 (.int .i64 m.mx);generalize (((w1.setCell ⟨w.heap.size+1+1+1,7,none⟩ (.int .i64 m.s)).setCell ⟨w.heap.size+1+1+1,8,none⟩ (.int .i64 m.mn)).setCell ⟨w.heap.size+1+1+1,9,none⟩ (.int .i64 m.mx))=w2 at *;clear f0 f1 f2 z0 z1 z2 c0 c1 c2 d0 d1 d2 b0 b1 b2 b3 b3' hB hb1;cases ok
     ·have uP:Hid (a.join b=(.zero,false)):=by
       exact Ze6
      have UM:=b2'.cell 0;have UL:=b2'.cell 1;have UK:=b2'.cell 2;have UJ:=b2'.cell 3;have UI:=b2'.cell 4;have UH:=b2'.cell 5;have UG:=b2'.cell 6;have UF:=b2'.cell 7;have UE:=b2'.cell 8;have UD:=b2'.cell 9;have gz0:=b2'.frozen 0;have gz1:=b2'.frozen 1;have gz2:=b2'.frozen 2;have gz3:=b2'.frozen 3;have gz4:=b2'.frozen 4;have gz5:=b2'.frozen 5;have gz6:=b2'.frozen 6;have gz7:=b2'.frozen 7;have gz8:=b2'.frozen 8;have gz9:=b2'.frozen 9;simp only [Ag.zero,Oi.zero,Ag.cs] at UM UL UK UJ UI UH UG UF UE UD;simp at UM UL UK UJ UI UH UG UF UE UD;go_wp2;refine Bc (v:=.tuple #[.agg #[.int .i64 0,.int .i64 0,.int .i64 0,.int .i64 0,.int .i64 0,.int .i64 0,.int .i64 0,.int .i64 0,.int .i64 0,.int .i64 0],.bool false]) (by simp [results,Tryz.results109,go_sem,UM,UL,UK,UJ,UI,UH,UG,UF,UE,UD] ) rfl ?_;rw [uP.Ab];refine ⟨rfl,?_⟩
      iterate 10 (refine Ai.setCell ?_ Za3 _)
      exact hB'
     ·go_wp2;go_roundg (3 - 3);case rel=>exact ⟨3,rfl,Xl,rfl,rfl,hB',b0',b1',b2',tX,by refine ⟨fun h=>?_,fun h=>?_,fun h=>?_⟩<;>first|omega|exact QQ.Ab|exact hF.1 Xl|exact hF.2.1 Xl⟩
      case measure=>omega
  ·obtain rfl:k=3:=by omega
   have uP:Hid (a.join b=(a.upto b 3,true)):=by
    show _=_;rw [HJ.Ab,Al ⟨hF.1 Xl,hF.2.1 Xl,hF.2.2 Xl⟩]
   obtain ⟨m,Hm⟩:∃ m,Hid (a.upto b 3=m):=⟨_,rfl⟩;rw [Hm.Ab] at uP b3;clear HJ hF;have UM:=b2.cell 0;have UL:=b2.cell 1;have UK:=b2.cell 2;have UJ:=b2.cell 3;have UI:=b2.cell 4;have UH:=b2.cell 5;have UG:=b2.cell 6;have UF:=b2.cell 7;have UE:=b2.cell 8;have UD:=b2.cell 9;have gz0:=b2.frozen 0;have gz1:=b2.frozen 1;have gz2:=b2.frozen 2;have gz3:=b2.frozen 3;have gz4:=b2.frozen 4;have gz5:=b2.frozen 5;have gz6:=b2.frozen 6;have gz7:=b2.frozen 7;have gz8:=b2.frozen 8;have gz9:=b2.frozen 9;have hc0:=b3.cell 0;have hc1:=b3.cell 1;have hc2:=b3.cell 2;have hc3:=b3.cell 3;have hc4:=b3.cell 4;have hc5:=b3.cell 5;have hc6:=b3.cell 6;have hc7:=b3.cell 7;have hc8:=b3.cell 8;have hc9:=b3.cell 9;simp only [Ag.zero,Oi.zero,Ag.cs] at UM UL UK UJ UI UH UG UF UE UD hc0 hc1 hc2 hc3 hc4 hc5 hc6 hc7 hc8 hc9;simp at UM UL UK UJ UI UH UG UF UE UD hc0 hc1 hc2 hc3 hc4 hc5 hc6 hc7 hc8 hc9;go_wp2;refine Bc (v:=.tuple #[.agg m.cs,.bool true]) (by simp [results,Tryz.results109,go_sem,Ag.cs,UM,UL,UK,UJ,UI,UH,UG,UF,UE,UD]) rfl ?_;rw [uP.Ab];refine ⟨rfl,?_⟩
   iterate 10 (refine Ai.setCell ?_ Za3 _)
   exact hB
theorem V9 (a b:Ag) (w:World) (h1:a.c=0):
 Calls prog 109 #[.agg a.cs,.agg b.cs] w fun e w'=>e=.returned (.tuple #[.agg b.cs,.bool true])∧Ai w w':=by
 have q1:(a.c==0)=true:=by simp [h1]
 clear h1;unfold Ag.cs;go_enter func109,ntmps109;go_wp2;refine Bc (v:=.tuple #[.agg b.cs,.bool true]) (by simp [results,Tryz.results109,go_sem,Ag.cs]) rfl ⟨rfl,?_⟩;exact (((Ai.refl _).alloc _).alloc _).alloc _
theorem xN (a b:Ag) (w:World) (h1:¬ a.c=0) (h2:b.c=0):
 Calls prog 109 #[.agg a.cs,.agg b.cs] w fun e w'=>e=.returned (.tuple #[.agg a.cs,.bool true])∧Ai w w':=by
 have q1:(a.c==0)=false:=by simp [h1]
 have q2:(b.c==0)=true:=by simp [h2]
 clear h1 h2;unfold Ag.cs;go_enter func109,ntmps109;go_wp2;refine Bc (v:=.tuple #[.agg a.cs,.bool true]) (by simp [results,Tryz.results109,go_sem,Ag.cs]) rfl ⟨rfl,?_⟩;exact (((Ai.refl _).alloc _).alloc _).alloc _
theorem V7 (a b:Ag) (w:World) (ha:a.ok) (hb:b.ok) (h1:¬ a.c=0) (h2:¬ b.c=0) (h3:(Cu a.c b.c).2=false):
 Calls prog 109 #[.agg a.cs,.agg b.cs] w fun e w'=>e=.returned (.tuple #[.agg Ag.zero.cs,.bool false])∧Ai w w':=by
 have q1:(a.c==0)=false:=by simp [h1]
 have q2:(b.c==0)=false:=by simp [h2]
 have Ha:=Aa ha;have Hb:=Aa hb;clear h1 h2 ha hb;unfold Ag.cs;go_enter func109,ntmps109;go_wp2_with fail;refine (Wi _ _ _ Ha.c Hb.c).mono ?_;rintro e w1 ⟨rfl,rfl⟩;go_wp2;refine Bc (v:=.tuple #[.agg Ag.zero.cs,.bool false]) (by simp [results,Tryz.results109,go_sem,Ag.cs,Ag.zero,Oi.zero]) rfl ⟨rfl,?_⟩;exact ((((Ai.refl _).alloc _).alloc _).alloc _).alloc _
theorem Ah6 (a b:Ag) (w:World) (ha:a.ok) (hb:b.ok):
 Calls prog 109 #[.agg a.cs,.agg b.cs] w fun e w'=>e=.returned (.tuple #[.agg (a.join b).1.cs,.bool (a.join b).2])∧Ai w w':=by
 by_cases h1:a.c=0
 ·refine (V9 a b w h1).mono fun _ _ h=>⟨?_,h.2⟩
  rw [Ag.join,Al h1];exact h.1
 ·by_cases h2:b.c=0
  ·refine (xN a b w h1 h2).mono fun _ _ h=>⟨?_,h.2⟩
   rw [Ag.join,Ak h1,Al h2];exact h.1
  ·by_cases h3:(Cu a.c b.c).2=true
   ·exact V8 a b w ha hb h1 h2 h3
   ·refine (V7 a b w ha hb h1 h2 (by simpa using h3)).mono fun _ _ h=>⟨?_,h.2⟩
    rw [Ag.join,Ak h1,Ak h2,Ak (fun k=>h3 k.1)];exact h.1
theorem Al8 (x:Int):AZ (Uf x).1:=by
 unfold Uf;split
 ·assumption
 ·unfold AZ;simp
theorem zO (a b:Int):AZ (Cu a b).1:=Al8 _
theorem RI {x y:Oi} (hx:x.ok) (hy:y.ok):(x.join y).ok:=
 ⟨zO _ _,by have:=hx.mn;have:=hy.mn;unfold AZ at *;simp only [Oi.join];omega,by have:=hx.mx;have:=hy.mx;unfold AZ at *;simp only [Oi.join];omega⟩
theorem OC:Oi.zero.ok:=⟨by unfold AZ Oi.zero;simp,by unfold AZ Oi.zero;simp,by unfold AZ Oi.zero;simp⟩
theorem Al7:Ag.zero.ok:=⟨by unfold AZ Ag.zero;simp,OC,OC,OC⟩
theorem l8 {a b:Ag} (ha:a.ok) (hb:b.ok):(a.join b).1.ok:=by
 unfold Ag.join;split
 ·exact hb
 ·split
  ·exact ha
  ·split
   ·exact ⟨zO _ _,RI ha.p hb.p,RI ha.q hb.q,RI ha.r hb.r⟩
   ·exact Al7
def PL (l:List Ag):List Value:=l.flatMap fun a=>a.cs.toList
theorem Yt (l:List Ag):(PL l).length=l.length * 10:=by
 induction l with
 |nil=>rfl
 |cons a l ih=>simp only [PL,Df,Cn,En] at ih ⊢;rw [ih];simp [Ag.cs];omega
theorem Yh (l:List Ag) (k j:Nat) (a:Ag) (h:l[k]?=some a) (hj:j<10):(PL l)[k * 10+j]?=a.cs[j]?:=by
 induction l generalizing k with
 |nil=>simp at h
 |cons b l ih=>
  have hb:b.cs.toList.length=10:=by simp [Ag.cs]
  cases k with
  |zero=>
   simp at h;subst h;simp only [PL,Df];rw [QH Xl];simp
  |succ k=>
   simp at h;have:=ih k h;simp only [PL,Df] at this ⊢;rw [Rf Xl,hb,←this]
   congr 1
   omega
theorem gK {w:World} {ad:Addr} {u:Value} (h:w.cell? (ad.add 0)=some u):ad=⟨ad.block,ad.off,none⟩:=by
 obtain ⟨b,o,sp⟩:=ad;have h1:=World.cell?_spot h;simp [Addr.add] at h1;subst h1
 rfl
theorem Rd.ag {w:World} {A:Option Addr} {n k:Nat} {l:List Ag} (h:Rd w 10 A n (PL l)) (hk:k<n):
 ∃ b o a,A=some ⟨b,o,none⟩∧l[k]?=some a∧∀ j,j<10→w.cell? ⟨b,o+k * 10+j,none⟩=a.cs[j]?:=by
 obtain ⟨ad,e,_,hc⟩:=h.2 Xl;have hl:l.length=n:=by have:=h.1;rw [Yt] at this;omega
 have key:∀ j,j<10→w.cell? (ad.add (k * 10+j))=l[k].cs[j]?:=by
  intro j hj;have h1:=Yh l k j l[k] (Fp Xl) hj;have h2:(l[k].cs)[j]?=some ((l[k].cs)[j]'(by simp [Ag.cs];omega)):=Zh _;rw [h2] at h1 ⊢;exact hc _ _ h1
 have h0:w.cell? (ad.add 0)=some (.int .i64 l[0].c):=by
  have h1:=Yh l 0 0 l[0] (Fp Xl) Xl;exact hc 0 _ h1
 have hs:=gK h0;refine ⟨ad.block,ad.off,l[k],by rw [e,←hs],Fp Xl,fun j hj=>?_⟩;have h3:=key j hj;rw [hs,Ub,←QZ] at h3;exact h3
def Sn (w:World) (g:Nat) (m:Ag):World:=((((((((((w.setCell ⟨g,0,none⟩ (.int .i64 m.c)).setCell ⟨g,1,none⟩ (.int .i64 m.p.s)).setCell ⟨g,2,none⟩ (.int .i64 m.p.mn)).setCell ⟨g,3,none⟩ (.int .i64 m.p.mx)).setCell ⟨g,4,none⟩ (.int .i64 m.q.s)).setCell ⟨g,5,none⟩ (.int .i64 m.q.mn)).setCell ⟨g,6,none⟩ (.int .i64 m.q.mx)).setCell ⟨g,7,none⟩ (.int .i64 m.r.s)).setCell ⟨g,8,none⟩ (.int .i64 m.r.mn)).setCell ⟨g,9,none⟩ (.int .i64 m.r.mx))
theorem Am6 (cs:Array Value) (hs:cs.size=10) (m:Ag):((((((((((cs.setIfInBounds 0 (.int .i64 m.c)).setIfInBounds 1 (.int .i64 m.p.s)).setIfInBounds 2 (.int .i64 m.p.mn)).setIfInBounds 3 (.int .i64 m.p.mx)).setIfInBounds 4 (.int .i64 m.q.s)).setIfInBounds 5 (.int .i64 m.q.mn)).setIfInBounds 6 (.int .i64 m.q.mx)).setIfInBounds 7 (.int .i64 m.r.s)).setIfInBounds 8 (.int .i64 m.r.mn)).setIfInBounds 9 (.int .i64 m.r.mx))=m.cs:=by
 obtain ⟨l⟩:=cs
 match l,hs with
 |[x0,x1,x2,x3,x4,x5,x6,x7,x8,x9],_=>simp [Ag.cs]
theorem Bh.Sn {w:World} {g:Nat} {t:TypeId} {cs:Array Value} (h:Bh w g t cs) (hs:cs.size=10) (m:Ag):Bh (Sn w g m) g t m.cs:=by
 have h2:=((((((((((h.Iy 0 (.int .i64 m.c)).Iy 1 (.int .i64 m.p.s)).Iy 2 (.int .i64 m.p.mn)).Iy 3 (.int .i64 m.p.mx)).Iy 4 (.int .i64 m.q.s)).Iy 5 (.int .i64 m.q.mn)).Iy 6 (.int .i64 m.q.mx)).Iy 7 (.int .i64 m.r.s)).Iy 8 (.int .i64 m.r.mn)).Iy 9 (.int .i64 m.r.mx));rw [Am6 cs hs m] at h2;exact h2
theorem Ai.Sn {a w:World} {g:Nat} (h:Ai a w) (hg:a.heap.size≤g) (m:Ag):Ai a (Proofs.YtijplolmkcdflaaGreat.Sn w g m):=by
 unfold Proofs.YtijplolmkcdflaaGreat.Sn
 iterate 10 (refine Ai.setCell ?_ hg _)
 exact h
def Ag.all:Ag→List Ag→Ag × Bool
 |a,[]=>(a,true)
 |a,b::l=>if (a.join b).2=true then Ag.all (a.join b).1 l else (.zero,false)
theorem Ai.Qf {a w:World} {g x y z:Nat} (h:Ai a w) (hg:a.heap.size≤g) (u u' u'':Value):Ai a (((w.setCell ⟨g,x,none⟩ u).setCell ⟨g,y,none⟩ u').setCell ⟨g,z,none⟩ u''):=
 ((h.setCell hg _).setCell hg _).setCell hg _
theorem Bh.UO {w:World} {g' g x y z:Nat} {t:TypeId} {cs:Array Value} (h:Bh w g' t cs) (hne:g'≠g) (u u' u'':Value):Bh (((w.setCell ⟨g,x,none⟩ u).setCell ⟨g,y,none⟩ u').setCell ⟨g,z,none⟩ u'') g' t cs:=
 ((h.far (p:=⟨g,x,none⟩) hne _).far (p:=⟨g,y,none⟩) hne _).far (p:=⟨g,z,none⟩) hne _
theorem Bh.Qf {w:World} {g:Nat} {t:TypeId} {cs cs':Array Value} (h:Bh w g t cs) (x y z:Nat) (u u' u'':Value) (e:((cs.setIfInBounds x u).setIfInBounds y u').setIfInBounds z u''=cs'):Bh (((w.setCell ⟨g,x,none⟩ u).setCell ⟨g,y,none⟩ u').setCell ⟨g,z,none⟩ u'') g t cs':=by
 have:=((h.Iy x u).Iy y u').Iy z u'';rw [e] at this;exact this
theorem Rd.Pv {w:World} {A:Option Addr} {n k:Nat} {kd:IntKind} {zs:List Int} (h:Rd w 1 A n (zs.map (Value.int kd))) (hk:k<n):
 ∃ b o z,A=some ⟨b,o,none⟩∧zs[k]?=some z∧w.cell? ⟨b,o+k,none⟩=some (.int kd z):=by
 obtain ⟨ad,z,e,hz,hc⟩:=h.int hk;obtain ⟨ad',z',e',_,hc'⟩:=h.int (k:=0) Xl;rw [e] at e';injection e' with e';subst e';have hs:=gK hc';refine ⟨ad.block,ad.off,z,by rw [e,←hs],hz,?_⟩;rw [hs,Ub] at hc;exact hc
def OD (zs:List Int) (i:Nat):Oi:=match zs[i]? with|some v=>⟨v,v,v⟩|none=>.zero
def Ag.of (zs:List Int):Ag:=⟨1,OD zs 0,OD zs 1,OD zs 2⟩
theorem Qj {zs:List Int} {i:Nat} {v:Int} (h:zs[i]?=some v):OD zs i=⟨v,v,v⟩:=by simp only [OD,h]
theorem Uo {zs:List Int} {i:Nat} (h:zs[i]?=none):OD zs i=.zero:=by simp only [OD,h]
theorem Un {zs:List Int} {i k:Nat}:OD (zs.take k) i=if i<k then OD zs i else .zero:=by
 by_cases h:i<k
 ·rw [Al h];simp only [OD,Jk h]
 ·rw [Ak h];exact Uo (by rw [WE,Ak h])
theorem O4 (i:Nat):OD [] i=.zero:=Uo uH
theorem qM (zs:List Int) (x:Int) (h:zs[0]?=some x):(((Ag.of (zs.take 0)).cs.setIfInBounds 1 (.int .i64 x)).setIfInBounds 2 (.int .i64 x)).setIfInBounds 3 (.int .i64 x)=(Ag.of (zs.take 1)).cs:=by
 rw [Pm];simp [Ag.of,Ag.cs,Un,Qj h,O4]
theorem qL (zs:List Int) (x:Int) (h:zs[1]?=some x):(((Ag.of (zs.take 1)).cs.setIfInBounds 4 (.int .i64 x)).setIfInBounds 5 (.int .i64 x)).setIfInBounds 6 (.int .i64 x)=(Ag.of (zs.take 2)).cs:=by
 simp [Ag.of,Ag.cs,Un,Qj h]
theorem qK (zs:List Int) (x:Int) (h:zs[2]?=some x):(((Ag.of (zs.take 2)).cs.setIfInBounds 7 (.int .i64 x)).setIfInBounds 8 (.int .i64 x)).setIfInBounds 9 (.int .i64 x)=(Ag.of (zs.take 3)).cs:=by
 simp [Ag.of,Ag.cs,Un,Qj h]
theorem zZ (zs:List Int):(Ag.of (zs.take 0)).cs=#[.int .i64 1,.int .i64 0,.int .i64 0,.int .i64 0,.int .i64 0,.int .i64 0,.int .i64 0,.int .i64 0,.int .i64 0,.int .i64 0]:=by
 rw [Pm]
 rfl
theorem Aq3 {zs:List Int} (h:∀ z ∈ zs,AZ z):(Ag.of zs).ok:=by
 have hp:∀ i,(OD zs i).ok:=by
  intro i;cases hz:zs[i]? with
  |none=>rw [Uo hz];exact OC
  |some v=>rw [Qj hz];have:=h v (CU hz);exact ⟨this,this,this⟩
 exact ⟨by unfold AZ Ag.of;simp,hp 0,hp 1,hp 2⟩
theorem As7 (A:Option Addr) (n c:Nat) (zs:List Int) (w:World) (hr:Rd w 1 A n (zs.map (Value.int .i64))) (hn:n≤3):
 Calls prog 100 #[.slice A n c] w fun e w'=>e=.returned (.tuple #[.agg (Ag.of zs).cs,.int .i64 0])∧Ai w w':=by
 have hlen:Hid (zs.length=n):=by have:=hr.len;show _=_;simpa using this
 have dn:decide (3<(n:Int))=false:=by simp;omega
 go_enter func100,ntmps100;go_wp2;rw [←zZ zs];have BB:Ai w ((w.alloc (.cells Ag.zero.cs 95)).alloc (.cells (Ag.of (zs.take 0)).cs 95)):=((Ai.refl w).alloc _).alloc _;have B0:Bh ((w.alloc (.cells Ag.zero.cs 95)).alloc (.cells (Ag.of (zs.take 0)).cs 95)) w.heap.size 95 Ag.zero.cs:=(Bh.new w _ _).alloc _;have B1:Bh ((w.alloc (.cells Ag.zero.cs 95)).alloc (.cells (Ag.of (zs.take 0)).cs 95)) (w.heap.size+1) 95 (Ag.of (zs.take 0)).cs:=by
  have:=Bh.new (w.alloc (.cells Ag.zero.cs 95)) 95 (Ag.of (zs.take 0)).cs;rw [Gf] at this;exact this
 go_loopg [14] n (fun g i wr=>∃ k:Nat,g=n - k∧k≤n∧k≤3∧i=.int .i64 k∧Ai w wr∧Bh wr w.heap.size 95 Ag.zero.cs∧Bh wr (w.heap.size+1) 95 (Ag.of (zs.take k)).cs);case atStart=>exact ⟨0,rfl,Xl,Xl,rfl,BB,B0,B1⟩
 case round=>
  clear B0 B1 BB;obtain ⟨k,BR,hk,hk3,rfl,hB,b0,b1⟩:=hrel;by_cases hlt:k<n
  ·obtain ⟨bb,oo,x,rfl,hx,hcx⟩:=(hr.Av hB).Pv hlt;have Hx:=Aa hx;clear hx;rcases (show k=0∨k=1∨k=2 by omega) with rfl|rfl|rfl
   ·have f0:=b1.cell 1;have f1:=b1.cell 2;have f2:=b1.cell 3;have z0:=b1.frozen 1;have z1:=b1.frozen 2;have z2:=b1.frozen 3;simp [Ag.cs] at f0 f1 f2;try simp only [Kb] at hcx
    rw [show ((0:Nat):Int)=0 from rfl];go_wp2;go_roundg (n - 1);case rel=>exact ⟨1,rfl,Xl,Xl,rfl,Ai.Qf hB Xl _ _ _,Bh.UO b0 Xl _ _ _,Bh.Qf b1 1 2 3 (.int .i64 x) (.int .i64 x) (.int .i64 x) (qM zs x Hx.Ab)⟩
    case measure=>omega
   ·have f0:=b1.cell 4;have f1:=b1.cell 5;have f2:=b1.cell 6;have z0:=b1.frozen 4;have z1:=b1.frozen 5;have z2:=b1.frozen 6;simp [Ag.cs] at f0 f1 f2;try simp only [Kb] at hcx
    rw [show ((1:Nat):Int)=1 from rfl];go_wp2;go_roundg (n - 2);case rel=>exact ⟨2,rfl,Xl,Xl,rfl,Ai.Qf hB Xl _ _ _,Bh.UO b0 Xl _ _ _,Bh.Qf b1 4 5 6 (.int .i64 x) (.int .i64 x) (.int .i64 x) (qL zs x Hx.Ab)⟩
    case measure=>omega
   ·have f0:=b1.cell 7;have f1:=b1.cell 8;have f2:=b1.cell 9;have z0:=b1.frozen 7;have z1:=b1.frozen 8;have z2:=b1.frozen 9;simp [Ag.cs] at f0 f1 f2;try simp only [Kb] at hcx
    rw [show ((2:Nat):Int)=2 from rfl];go_wp2;go_roundg (n - 3);case rel=>exact ⟨3,rfl,Xl,Xl,rfl,Ai.Qf hB Xl _ _ _,Bh.UO b0 Xl _ _ _,Bh.Qf b1 7 8 9 (.int .i64 x) (.int .i64 x) (.int .i64 x) (qK zs x Hx.Ab)⟩
    case measure=>omega
  ·have HE:Hid (zs.take k=zs):=by show _=_;exact EU Za9
   rw [HE.Ab] at b1;obtain ⟨m,Hm⟩:∃ m,Hid (Ag.of zs=m):=⟨_,rfl⟩;rw [Hm.Ab] at b1;clear HE;have x0:=b0.cell 0;have x1:=b0.cell 1;have x2:=b0.cell 2;have x3:=b0.cell 3;have x4:=b0.cell 4;have x5:=b0.cell 5;have x6:=b0.cell 6;have x7:=b0.cell 7;have x8:=b0.cell 8;have x9:=b0.cell 9;have y0:=b0.frozen 0;have y1:=b0.frozen 1;have y2:=b0.frozen 2;have y3:=b0.frozen 3;have y4:=b0.frozen 4;have y5:=b0.frozen 5;have y6:=b0.frozen 6;have y7:=b0.frozen 7;have y8:=b0.frozen 8;have y9:=b0.frozen 9;have d0:=b1.cell 0;have d1:=b1.cell 1;have d2:=b1.cell 2;have d3:=b1.cell 3;have d4:=b1.cell 4;have d5:=b1.cell 5;have d6:=b1.cell 6;have d7:=b1.cell 7;have d8:=b1.cell 8;have d9:=b1.cell 9;simp only [Ag.zero,Oi.zero,Ag.cs] at x0 x1 x2 x3 x4 x5 x6 x7 x8 x9 d0 d1 d2 d3 d4 d5 d6 d7 d8 d9;simp at x0 x1 x2 x3 x4 x5 x6 x7 x8 x9 d0 d1 d2 d3 d4 d5 d6 d7 d8 d9;go_wp2;refine Bc (v:=.tuple #[.agg m.cs,.int .i64 0]) (by simp [results,Tryz.results100,go_sem,Ag.cs,x0,x1,x2,x3,x4,x5,x6,x7,x8,x9]) rfl ?_;rw [Hm.Ab];exact ⟨rfl,hB.Sn (g:=w.heap.size) Xl m⟩
def Ab7:Prop:=∀ (a b:Ag) (w:World),a.ok→b.ok→
 Calls prog 120 #[.agg a.cs,.agg b.cs] w fun e w'=>e=.returned (.tuple #[.agg (a.join b).1.cs,.bool (a.join b).2])∧Ai w w'
theorem Dz:Ep prog 95 10:=⟨⟨_,underlying95,rfl⟩,by kernel_rfl⟩
theorem Iq (m:Ag):m.cs.all (·.oneCell')=true:=by simp [Ag.cs,Value.oneCell']
end Go.Proofs.YtijplolmkcdflaaGreat
namespace Go.Proofs.YtijplolmkcdflaaGreat
open Tryz
open Go.RowKit Go.ChangeShapes Go.WideShapes Go.Deep
theorem yQ:prog.cellsOf 92=3:=by kernel_rfl
end Go.Proofs.YtijplolmkcdflaaGreat
namespace Go.Proofs.YtijplolmkcdflaaGreat
open Tryz
open Go.RowKit
theorem WQ (a b:Int) (w:World) (ha:AZ a) (hb:AZ b):
 Calls prog 116 #[.int .i64 a,.int .i64 b] w fun e w'=>e=.returned (.tuple #[.int .i64 (Cu a b).1,.bool (Cu a b).2])∧w'=w:=
 (Lf a b w ha hb).mono fun _ _ h=>⟨h.1,h.2.symm⟩
theorem Zg2 {p:Prop} (h:p:=by
 have uP:Hid (a.join b=(.zero,false)):=by
  exact Ze6
 clear c0 c1 c2 d0 d1 d2 f0 f1 f2 z0 z1 z2;have UM:=b2.cell 0;have UL:=b2.cell 1;have UK:=b2.cell 2;have UJ:=b2.cell 3;have UI:=b2.cell 4;have UH:=b2.cell 5;have UG:=b2.cell 6;have UF:=b2.cell 7;have UE:=b2.cell 8;have UD:=b2.cell 9;have gz0:=b2.frozen 0;have gz1:=b2.frozen 1;have gz2:=b2.frozen 2;have gz3:=b2.frozen 3;have gz4:=b2.frozen 4;have gz5:=b2.frozen 5;have gz6:=b2.frozen 6;have gz7:=b2.frozen 7;have gz8:=b2.frozen 8;have gz9:=b2.frozen 9;simp only [Ag.zero,Oi.zero,Ag.cs] at UM UL UK UJ UI UH UG UF UE UD;simp at UM UL UK UJ UI UH UG UF UE UD;go_wp2;refine Bc (v:=.tuple #[.agg Ag.zero.cs,.bool false]) (by simp [results,Tryz.results120,go_sem,Ag.zero,Oi.zero,Ag.cs,UM,UL,UK,UJ,UI,UH,UG,UF,UE,UD]) rfl ?_;rw [uP.Ab];exact ⟨rfl,(hB.drewN _).Sn (g:=w.heap.size+1+1) Xl .zero⟩
):p:=h
theorem Zh2 {p:Prop} (h:p:=by refine ⟨fun h=>?_,fun h=>?_,fun h=>?_⟩<;>first|omega|(rw [QQ.Ab];done)|exact hF.1 Xl|exact hF.2.1 Xl):p:=h
theorem wM (a b:Ag) (w:World) (ha:a.ok) (hb:b.ok) (h1:¬ a.c=0) (h2:¬ b.c=0) (h3:(Cu a.c b.c).2=true):
 Calls prog 120 #[.agg a.cs,.agg b.cs] w fun e w'=>e=.returned (.tuple #[.agg (a.join b).1.cs,.bool (a.join b).2])∧Ai w w':=by
 have Ha:=Aa ha;have Hb:=Aa hb;clear ha hb;have q1:(a.c==0)=false:=by simpa using h1
 have q2:(b.c==0)=false:=by simpa using h2
 have HJ:Hid (a.join b=if (Cu a.p.s b.p.s).2=true∧(Cu a.q.s b.q.s).2=true∧(Cu a.r.s b.r.s).2=true then (a.upto b 3,true) else (.zero,false)):=by
  show _=_;unfold Ag.join Ag.upto;rw [Ak h1,Ak h2];simp [h3]
 clear h1 h2;have ea:a.cs=#[.int .i64 a.c,.int .i64 a.p.s,.int .i64 a.p.mn,.int .i64 a.p.mx,.int .i64 a.q.s,.int .i64 a.q.mn,.int .i64 a.q.mx,.int .i64 a.r.s,.int .i64 a.r.mn,.int .i64 a.r.mx]:=rfl;have eb:b.cs=#[.int .i64 b.c,.int .i64 b.p.s,.int .i64 b.p.mn,.int .i64 b.p.mx,.int .i64 b.q.s,.int .i64 b.q.mn,.int .i64 b.q.mx,.int .i64 b.r.s,.int .i64 b.r.mn,.int .i64 b.r.mx]:=rfl;rw [ea,eb];clear ea eb;go_enter func120,ntmps120;go_wp2_with fail;refine (Lf _ _ _ Ha.c Hb.c).mono ?_;rintro e w1 ⟨rfl,rfl⟩;go_wp2_with fail;have B0:Bh ((((w.alloc (.cells a.cs 95)).alloc (.cells b.cs 95)).alloc (.cells Ag.zero.cs 95)).alloc (.cells (a.upto b 0).cs 95)) w.heap.size 95 a.cs:=(((Bh.new w _ _).alloc _).alloc _).alloc _;have B1:Bh ((((w.alloc (.cells a.cs 95)).alloc (.cells b.cs 95)).alloc (.cells Ag.zero.cs 95)).alloc (.cells (a.upto b 0).cs 95)) (w.heap.size+1) 95 b.cs:=by
  exact Zt8
 have B2:Bh ((((w.alloc (.cells a.cs 95)).alloc (.cells b.cs 95)).alloc (.cells Ag.zero.cs 95)).alloc (.cells (a.upto b 0).cs 95)) (w.heap.size+1+1) 95 Ag.zero.cs:=by
  exact Zt9
 have B3:Bh ((((w.alloc (.cells a.cs 95)).alloc (.cells b.cs 95)).alloc (.cells Ag.zero.cs 95)).alloc (.cells (a.upto b 0).cs 95)) (w.heap.size+1+1+1) 95 (a.upto b 0).cs:=by
  exact Zu0
 have BB:Ai w ((((w.alloc (.cells a.cs 95)).alloc (.cells b.cs 95)).alloc (.cells Ag.zero.cs 95)).alloc (.cells (a.upto b 0).cs 95)):=((((Ai.refl w).alloc _).alloc _).alloc _).alloc _;go_loopg [9] 3 (fun g s32 wr=>∃ k:Nat,g=3 - k∧k≤3∧s32=.int .i64 k∧Ai w wr∧Bh wr w.heap.size 95 a.cs∧Bh wr (w.heap.size+1) 95 b.cs∧Bh wr (w.heap.size+1+1) 95 Ag.zero.cs∧Bh wr (w.heap.size+1+1+1) 95 (a.upto b k).cs∧
  Hid ((0<k→(Cu a.p.s b.p.s).2=true)∧(1<k→(Cu a.q.s b.q.s).2=true)∧(2<k→(Cu a.r.s b.r.s).2=true)))
 case atStart=>exact ⟨0,rfl,Xl,rfl,BB,B0,B1,B2,B3,by refine ⟨?_,?_,?_⟩<;>intro h<;>omega⟩
 case round=>
  clear B0 B1 B2 B3 BB;obtain ⟨k,BR,hk,rfl,hB,b0,b1,b2,b3,hF⟩:=hrel;by_cases hlt:k<3
  ·rcases (show k=0∨k=1∨k=2 by omega) with rfl|rfl|rfl
   ·rw [show ((0:Nat):Int)=0 from rfl];have c0:=b0.cell 1;have d0:=b1.cell 1;have f0:=b3.cell 1;have z0:=b3.frozen 1;have c1:=b0.cell 2;have d1:=b1.cell 2;have f1:=b3.cell 2;have z1:=b3.frozen 2;have c2:=b0.cell 3;have d2:=b1.cell 3;have f2:=b3.cell 3;have z2:=b3.frozen 3;simp [Ag.cs] at c0 c1 c2 d0 d1 d2 f0 f1 f2;obtain ⟨⟨sm,ok⟩,QQ⟩:∃ x,Hid (Cu a.p.s b.p.s=x):=⟨_,rfl⟩;have Hu:Hid (((((a.upto b 0).cs.setIfInBounds 1 (.int .i64 sm)).setIfInBounds 2 (.int .i64 (min a.p.mn b.p.mn))).setIfInBounds 3 (.int .i64 (max a.p.mx b.p.mx)))=(a.upto b 1).cs):=by rw [show sm=(Cu a.p.s b.p.s).1 by rw [QQ.Ab]];rfl
    go_wp2_with fail;go_quiet ((go_at_call 116;exact Ty (WQ _ _ _ Ha.p.s Hb.p.s)));rw [QQ.Ab];cases ok
    ·exact Zg2
    ·have Hq:=Aa (And.intro b0 (And.intro b1 (And.intro b2 hB)));clear HJ q1 q2 h3 c0 d0 f0 f1 f2 z0 z1 z2 b0 b1 b2 hB;go_wp2_with fail;obtain ⟨W,hW⟩:∃ W:World,Hid (W=(wr.drewN nq).drew):=⟨_,rfl⟩;replace c1:W.cell? ⟨w.heap.size,2,none⟩=some (.int .i64 a.p.mn):=by rw [hW.Ab];exact c1
     replace c2:W.cell? ⟨w.heap.size,3,none⟩=some (.int .i64 a.p.mx):=by rw [hW.Ab];exact c2
     replace d1:W.cell? ⟨w.heap.size+1,2,none⟩=some (.int .i64 b.p.mn):=by rw [hW.Ab];exact d1
     replace d2:W.cell? ⟨w.heap.size+1,3,none⟩=some (.int .i64 b.p.mx):=by rw [hW.Ab];exact d2
     replace b3:Bh W (w.heap.size+1+1+1) 95 (a.upto b 0).cs:=by rw [hW.Ab];exact b3
     have f0:=b3.cell 1;have f1:=b3.cell 2;have f2:=b3.cell 3;have z0:=b3.frozen 1;have z1:=b3.frozen 2;have z2:=b3.frozen 3;simp [Ag.cs] at f0 f1 f2;refine wp_region_still_tail 27 Za0 Za0 ?_
     change wpStill _ _ ((wr.drewN nq).drew) _ _ _
     rw [←hW.Ab];simp only [Pn,Pm,Rc,Pj]
     iterate 27 still_step
     refine Wv ?_
     change wpList _ _ _ _ _ ((wr.drewN nq).drew)
     rw [←hW.Ab];clear c1 c2 d1 d2;go_wp2;go_roundg (3 - 1);case rel=>
      obtain ⟨b0,b1,b2,hB⟩:=Hq.Ab;replace hB:Ai w W:=by rw [hW.Ab];exact (hB.drewN nq).drew
      replace b0:Bh W w.heap.size 95 a.cs:=by rw [hW.Ab];exact b0
      replace b1:Bh W (w.heap.size+1) 95 b.cs:=by rw [hW.Ab];exact b1
      replace b2:Bh W (w.heap.size+1+1) 95 Ag.zero.cs:=by rw [hW.Ab];exact b2
      refine ⟨1,rfl,Xl,rfl,Ai.Qf hB Xl _ _ _,Bh.UO b0 Xl _ _ _,Bh.UO b1 Xl _ _ _,Bh.UO b2 Xl _ _ _,Bh.Qf b3 1 2 3 (.int .i64 sm) (.int .i64 (min a.p.mn b.p.mn)) (.int .i64 (max a.p.mx b.p.mx)) Hu.Ab,?_⟩;exact Zh2
     case measure=>omega
   ·rw [show ((1:Nat):Int)=1 from rfl];have c0:=b0.cell 4;have d0:=b1.cell 4;have f0:=b3.cell 4;have z0:=b3.frozen 4;have c1:=b0.cell 5;have d1:=b1.cell 5;have f1:=b3.cell 5;have z1:=b3.frozen 5;have c2:=b0.cell 6;have d2:=b1.cell 6;have f2:=b3.cell 6;have z2:=b3.frozen 6;simp [Ag.cs] at c0 c1 c2 d0 d1 d2 f0 f1 f2;obtain ⟨⟨sm,ok⟩,QQ⟩:∃ x,Hid (Cu a.q.s b.q.s=x):=⟨_,rfl⟩;have Hu:Hid (((((a.upto b 1).cs.setIfInBounds 4 (.int .i64 sm)).setIfInBounds 5 (.int .i64 (min a.q.mn b.q.mn))).setIfInBounds 6 (.int .i64 (max a.q.mx b.q.mx)))=(a.upto b 2).cs):=by rw [show sm=(Cu a.q.s b.q.s).1 by rw [QQ.Ab]];rfl
    go_wp2_with fail;go_quiet ((go_at_call 116;exact Ty (WQ _ _ _ Ha.q.s Hb.q.s)));rw [QQ.Ab];cases ok
    ·exact Zg2
    ·have Hq:=Aa (And.intro b0 (And.intro b1 (And.intro b2 hB)));clear HJ q1 q2 h3 c0 d0 f0 f1 f2 z0 z1 z2 b0 b1 b2 hB;go_wp2_with fail;obtain ⟨W,hW⟩:∃ W:World,Hid (W=(wr.drewN nq).drew):=⟨_,rfl⟩;replace c1:W.cell? ⟨w.heap.size,5,none⟩=some (.int .i64 a.q.mn):=by rw [hW.Ab];exact c1
     replace c2:W.cell? ⟨w.heap.size,6,none⟩=some (.int .i64 a.q.mx):=by rw [hW.Ab];exact c2
     replace d1:W.cell? ⟨w.heap.size+1,5,none⟩=some (.int .i64 b.q.mn):=by rw [hW.Ab];exact d1
     replace d2:W.cell? ⟨w.heap.size+1,6,none⟩=some (.int .i64 b.q.mx):=by rw [hW.Ab];exact d2
     replace b3:Bh W (w.heap.size+1+1+1) 95 (a.upto b 1).cs:=by rw [hW.Ab];exact b3
     have f0:=b3.cell 4;have f1:=b3.cell 5;have f2:=b3.cell 6;have z0:=b3.frozen 4;have z1:=b3.frozen 5;have z2:=b3.frozen 6;simp [Ag.cs] at f0 f1 f2;refine wp_region_still_tail 27 Za0 Za0 ?_
     change wpStill _ _ ((wr.drewN nq).drew) _ _ _
     rw [←hW.Ab];simp only [Pn,Pm,Rc,Pj]
     iterate 27 still_step
     refine Wv ?_
     change wpList _ _ _ _ _ ((wr.drewN nq).drew)
     rw [←hW.Ab];clear c1 c2 d1 d2;go_wp2;go_roundg (3 - 2);case rel=>
      obtain ⟨b0,b1,b2,hB⟩:=Hq.Ab;replace hB:Ai w W:=by rw [hW.Ab];exact (hB.drewN nq).drew
      replace b0:Bh W w.heap.size 95 a.cs:=by rw [hW.Ab];exact b0
      replace b1:Bh W (w.heap.size+1) 95 b.cs:=by rw [hW.Ab];exact b1
      replace b2:Bh W (w.heap.size+1+1) 95 Ag.zero.cs:=by rw [hW.Ab];exact b2
      refine ⟨2,rfl,Xl,rfl,Ai.Qf hB Xl _ _ _,Bh.UO b0 Xl _ _ _,Bh.UO b1 Xl _ _ _,Bh.UO b2 Xl _ _ _,Bh.Qf b3 4 5 6 (.int .i64 sm) (.int .i64 (min a.q.mn b.q.mn)) (.int .i64 (max a.q.mx b.q.mx)) Hu.Ab,?_⟩;exact Zh2
     case measure=>omega
   ·rw [show ((2:Nat):Int)=2 from rfl];have c0:=b0.cell 7;have d0:=b1.cell 7;have f0:=b3.cell 7;have z0:=b3.frozen 7;have c1:=b0.cell 8;have d1:=b1.cell 8;have f1:=b3.cell 8;have z1:=b3.frozen 8;have c2:=b0.cell 9;have d2:=b1.cell 9;have f2:=b3.cell 9;have z2:=b3.frozen 9;simp [Ag.cs] at c0 c1 c2 d0 d1 d2 f0 f1 f2;obtain ⟨⟨sm,ok⟩,QQ⟩:∃ x,Hid (Cu a.r.s b.r.s=x):=⟨_,rfl⟩;have Hu:Hid (((((a.upto b 2).cs.setIfInBounds 7 (.int .i64 sm)).setIfInBounds 8 (.int .i64 (min a.r.mn b.r.mn))).setIfInBounds 9 (.int .i64 (max a.r.mx b.r.mx)))=(a.upto b 3).cs):=by rw [show sm=(Cu a.r.s b.r.s).1 by rw [QQ.Ab]];rfl
    go_wp2_with fail;go_quiet ((go_at_call 116;exact Ty (WQ _ _ _ Ha.r.s Hb.r.s)));rw [QQ.Ab];cases ok
    ·exact Zg2
    ·have Hq:=Aa (And.intro b0 (And.intro b1 (And.intro b2 hB)));clear HJ q1 q2 h3 c0 d0 f0 f1 f2 z0 z1 z2 b0 b1 b2 hB;go_wp2_with fail;obtain ⟨W,hW⟩:∃ W:World,Hid (W=(wr.drewN nq).drew):=⟨_,rfl⟩;replace c1:W.cell? ⟨w.heap.size,8,none⟩=some (.int .i64 a.r.mn):=by rw [hW.Ab];exact c1
     replace c2:W.cell? ⟨w.heap.size,9,none⟩=some (.int .i64 a.r.mx):=by rw [hW.Ab];exact c2
     replace d1:W.cell? ⟨w.heap.size+1,8,none⟩=some (.int .i64 b.r.mn):=by rw [hW.Ab];exact d1
     replace d2:W.cell? ⟨w.heap.size+1,9,none⟩=some (.int .i64 b.r.mx):=by rw [hW.Ab];exact d2
     replace b3:Bh W (w.heap.size+1+1+1) 95 (a.upto b 2).cs:=by rw [hW.Ab];exact b3
     have f0:=b3.cell 7;have f1:=b3.cell 8;have f2:=b3.cell 9;have z0:=b3.frozen 7;have z1:=b3.frozen 8;have z2:=b3.frozen 9;simp [Ag.cs] at f0 f1 f2;refine wp_region_still_tail 27 Za0 Za0 ?_
     change wpStill _ _ ((wr.drewN nq).drew) _ _ _
     rw [←hW.Ab];simp only [Pn,Pm,Rc,Pj]
     iterate 27 still_step
     refine Wv ?_
     change wpList _ _ _ _ _ ((wr.drewN nq).drew)
     rw [←hW.Ab];clear c1 c2 d1 d2;go_wp2;go_roundg (3 - 3);case rel=>
      obtain ⟨b0,b1,b2,hB⟩:=Hq.Ab;replace hB:Ai w W:=by rw [hW.Ab];exact (hB.drewN nq).drew
      replace b0:Bh W w.heap.size 95 a.cs:=by rw [hW.Ab];exact b0
      replace b1:Bh W (w.heap.size+1) 95 b.cs:=by rw [hW.Ab];exact b1
      replace b2:Bh W (w.heap.size+1+1) 95 Ag.zero.cs:=by rw [hW.Ab];exact b2
      refine ⟨3,rfl,Xl,rfl,Ai.Qf hB Xl _ _ _,Bh.UO b0 Xl _ _ _,Bh.UO b1 Xl _ _ _,Bh.UO b2 Xl _ _ _,Bh.Qf b3 7 8 9 (.int .i64 sm) (.int .i64 (min a.r.mn b.r.mn)) (.int .i64 (max a.r.mx b.r.mx)) Hu.Ab,?_⟩;exact Zh2
     case measure=>omega
  ·obtain rfl:k=3:=by omega
   have uP:Hid (a.join b=(a.upto b 3,true)):=by
    show _=_;rw [HJ.Ab,Al ⟨hF.1 Xl,hF.2.1 Xl,hF.2.2 Xl⟩]
   obtain ⟨m,Hm⟩:∃ m,Hid (a.upto b 3=m):=⟨_,rfl⟩;rw [Hm.Ab] at uP b3;clear HJ hF;have UM:=b2.cell 0;have UL:=b2.cell 1;have UK:=b2.cell 2;have UJ:=b2.cell 3;have UI:=b2.cell 4;have UH:=b2.cell 5;have UG:=b2.cell 6;have UF:=b2.cell 7;have UE:=b2.cell 8;have UD:=b2.cell 9;have gz0:=b2.frozen 0;have gz1:=b2.frozen 1;have gz2:=b2.frozen 2;have gz3:=b2.frozen 3;have gz4:=b2.frozen 4;have gz5:=b2.frozen 5;have gz6:=b2.frozen 6;have gz7:=b2.frozen 7;have gz8:=b2.frozen 8;have gz9:=b2.frozen 9;have h0:=b3.cell 0;have h1:=b3.cell 1;have h2:=b3.cell 2;have h3:=b3.cell 3;have h4:=b3.cell 4;have h5:=b3.cell 5;have h6:=b3.cell 6;have h7:=b3.cell 7;have h8:=b3.cell 8;have h9:=b3.cell 9;simp only [Ag.zero,Oi.zero,Ag.cs] at UM UL UK UJ UI UH UG UF UE UD h0 h1 h2 h3 h4 h5 h6 h7 h8 h9;simp at UM UL UK UJ UI UH UG UF UE UD h0 h1 h2 h3 h4 h5 h6 h7 h8 h9;go_wp2;refine Bc (v:=.tuple #[.agg m.cs,.bool true]) (by simp [results,Tryz.results120,go_sem,Ag.cs,UM,UL,UK,UJ,UI,UH,UG,UF,UE,UD]) rfl ?_;rw [uP.Ab];exact ⟨rfl,hB.Sn (g:=w.heap.size+1+1) Xl m⟩
theorem wN (a b:Ag) (w:World) (h1:a.c=0):
 Calls prog 120 #[.agg a.cs,.agg b.cs] w fun e w'=>e=.returned (.tuple #[.agg b.cs,.bool true])∧Ai w w':=by
 have q1:(a.c==0)=true:=by simp [h1]
 clear h1;unfold Ag.cs;go_enter func120,ntmps120;go_wp2;refine Bc (v:=.tuple #[.agg b.cs,.bool true]) (by simp [results,Tryz.results120,go_sem,Ag.cs]) rfl ⟨rfl,?_⟩;exact (((Ai.refl _).alloc _).alloc _).alloc _
theorem pF (a b:Ag) (w:World) (h1:¬ a.c=0) (h2:b.c=0):
 Calls prog 120 #[.agg a.cs,.agg b.cs] w fun e w'=>e=.returned (.tuple #[.agg a.cs,.bool true])∧Ai w w':=by
 have q1:(a.c==0)=false:=by simp [h1]
 have q2:(b.c==0)=true:=by simp [h2]
 clear h1 h2;unfold Ag.cs;go_enter func120,ntmps120;go_wp2;refine Bc (v:=.tuple #[.agg a.cs,.bool true]) (by simp [results,Tryz.results120,go_sem,Ag.cs]) rfl ⟨rfl,?_⟩;exact (((Ai.refl _).alloc _).alloc _).alloc _
theorem wL (a b:Ag) (w:World) (ha:a.ok) (hb:b.ok) (h1:¬ a.c=0) (h2:¬ b.c=0) (h3:(Cu a.c b.c).2=false):
 Calls prog 120 #[.agg a.cs,.agg b.cs] w fun e w'=>e=.returned (.tuple #[.agg Ag.zero.cs,.bool false])∧Ai w w':=by
 have q1:(a.c==0)=false:=by simp [h1]
 have q2:(b.c==0)=false:=by simp [h2]
 have Ha:=Aa ha;have Hb:=Aa hb;clear h1 h2 ha hb;unfold Ag.cs;go_enter func120,ntmps120;go_wp2_with fail;refine (Lf _ _ _ Ha.c Hb.c).mono ?_;rintro e w1 ⟨rfl,rfl⟩;go_wp2;refine Bc (v:=.tuple #[.agg Ag.zero.cs,.bool false]) (by simp [results,Tryz.results120,go_sem,Ag.cs,Ag.zero,Oi.zero]) rfl ⟨rfl,?_⟩;exact (((Ai.refl _).alloc _).alloc _).alloc _
theorem N8:Ab7:=by
 intro a b w ha hb;by_cases h1:a.c=0
 ·refine (wN a b w h1).mono fun _ _ h=>⟨?_,h.2⟩
  rw [Ag.join,Al h1];exact h.1
 ·by_cases h2:b.c=0
  ·refine (pF a b w h1 h2).mono fun _ _ h=>⟨?_,h.2⟩
   rw [Ag.join,Ak h1,Al h2];exact h.1
  ·by_cases h3:(Cu a.c b.c).2=true
   ·exact wM a b w ha hb h1 h2 h3
   ·refine (wL a b w ha hb h1 h2 (by simpa using h3)).mono fun _ _ h=>⟨?_,h.2⟩
    rw [Ag.join,Ak h1,Ak h2,Ak (fun k=>h3 k.1)];exact h.1
theorem X4:(prog.info? 92).map (fun i=>(i.zero,i.size,i.bytes))=some (some (.agg #[.int .i64 0,.int .i64 0,.int .i64 0]),3,24):=by kernel_rfl
theorem Sb:prog.eqGuardType prog.depth 95=false:=by kernel_rfl
theorem lK (a b:Ag) (W:World):(binOp .neq 95 (.agg a.cs) (.agg b.cs)).run prog W=.ok (.bool (!decide (a=b))) W:=by
 obtain ⟨i0,hi0,hz0,hz1,hz2⟩:=info_parts X4;unfold Ag.cs;go_simp;rw [run_equalIn_array W 9998 _ _ underlying93 hi0,yQ];simp only [show List.range 3=[0,1,2] from rfl,Op.eqItems];go_simp;clear hi0 hz0 hz1 hz2;obtain ⟨ac,⟨a1,a2,a3⟩,⟨a4,a5,a6⟩,⟨a7,a8,a9⟩⟩:=a;obtain ⟨bc,⟨b1,b2,b3⟩,⟨b4,b5,b6⟩,⟨b7,b8,b9⟩⟩:=b;simp only [Ag.mk.injEq,Oi.mk.injEq];repeat' split
 all_goals simp_all
end Go.Proofs.YtijplolmkcdflaaGreat
namespace Go.Proofs.YtijplolmkcdflaaGreat
open Tryz
open Go.RowKit Go.ChangeShapes Go.WideShapes Go.Deep
structure Br where
 ks:Row Int
 ag:Ag
def Br.cs (f:Br):Array Value:=⟨f.ks.v::f.ag.cs.toList⟩
theorem FL (f:Br):f.cs.size=11:=rfl
theorem Row.Aq0 {α:Type} (x:Row α):x.v.oneCell'=true:=rfl
theorem EA (f:Br):f.cs.all (·.oneCell')=true:=by
 rw [Nb];intro v hv;have hv':v ∈ f.ks.v::f.ag.cs.toList:=by simpa [Br.cs] using hv
 rcases FJ.1 hv' with rfl|h
 ·exact Row.Aq0 _
 ·exact Nb.1 (Iq f.ag) v Zb3
structure Br.ok (w:World) (f:Br):Prop where
 ks:f.ks.ok w
 ag:f.ag.ok
instance At5:AY Br where
 size:=11
 bytes:=104
 cells f:=f.cs.toList
 ok w f:=f.ok w
 len _:=rfl
 pos:=by omega
 mono hb h:=⟨h.ks.mono hb,h.ag⟩
def Br.Ac (f:Br):List Int × Ag:=(f.ks.l,f.ag)
theorem Bz:Ep prog 97 11:=⟨⟨_,underlying97,rfl⟩,by kernel_rfl⟩
theorem Ax1:Cy prog 47 3 1 8:=Cy.mk' (z:=.int .i64 0) underlying47 Za0 rfl Xl
theorem EI:Cy prog 54 97 11 104:=Cy.mk' (z:=.agg (Br.mk ⟨none,0,0,[]⟩ .zero).cs) underlying54 Za0 rfl Xl
def Dn:List Int→List Int→Int
 |[],[]=>0
 |[],_::_=>-1
 |_::_,[]=>1
 |a::x,b::y=>if a<b then -1 else if b<a then 1 else Dn x y
def Fh (x y:List Int):Bool:=Dn x y==-1
theorem Ia (x y:List Int):Dn x y=-1∨Dn x y=0∨Dn x y=1:=by
 induction x generalizing y with
 |nil=>cases y<;>simp [Dn]
 |cons a x ih=>
  cases y with
  |nil=>simp [Dn]
  |cons b y=>
   rw [Dn];split
   ·exact .inl rfl
   ·split
    ·exact .inr (.inr rfl)
    ·exact ih y
theorem Gb (x y:List Int):Dn y x=- Dn x y:=by
 induction x generalizing y with
 |nil=>cases y<;>simp [Dn]
 |cons a x ih=>
  cases y with
  |nil=>simp [Dn]
  |cons b y=>
   simp only [Dn];by_cases h1:a<b
   ·rw [Al h1,Ak Xl,Al h1];rfl
   ·rw [Ak h1];by_cases h2:b<a
    ·simp [h1,h2]
    ·simp only [h1,h2,if_false];exact ih y
theorem Qu {x y:List Int} (h:Dn x y=0):x=y:=by
 induction x generalizing y with
 |nil=>cases y with|nil=>rfl|cons b y=>simp [Dn] at h
 |cons a x ih=>
  cases y with
  |nil=>simp [Dn] at h
  |cons b y=>
   rw [Dn] at h;by_cases h1:a<b
   ·rw [Al h1] at h;cases h
   ·rw [Ak h1] at h;by_cases h2:b<a
    ·rw [Al h2] at h;cases h
    ·rw [Ak h2] at h;have:a=b:=by omega
     subst this;rw [ih h]
theorem Xg (x:List Int):Dn x x=0:=by
 have:=Gb x x;omega
theorem UR {x y z:List Int} (h1:Dn x y=-1) (h2:Dn y z=-1):Dn x z=-1:=by
 induction x generalizing y z with
 |nil=>
  cases z with
  |nil=>cases y with|nil=>exact h1|cons b y=>simp [Dn] at h2
  |cons c z=>rfl
 |cons a x ih=>
  cases y with
  |nil=>simp [Dn] at h1
  |cons b y=>
   cases z with
   |nil=>simp [Dn] at h2
   |cons c z=>
    simp only [Dn] at *;by_cases a1:a<b
    ·by_cases b1:b<c
     ·rw [Al Xl]
     ·rw [Ak b1] at h2;by_cases b2:c<b
      ·rw [Al b2] at h2;cases h2
      ·rw [Al Xl]
    ·rw [Ak a1] at h1;by_cases a2:b<a
     ·rw [Al a2] at h1;cases h1
     ·rw [Ak a2] at h1;have:a=b:=by omega
      subst this;by_cases b1:a<c
      ·rw [Al b1]
      ·rw [Ak b1] at h2 ⊢;by_cases b2:c<a
       ·rw [Al b2] at h2;cases h2
       ·rw [Ak b2] at h2 ⊢;exact ih h1 h2
theorem jJ {x y:List Int} {k:Nat} {a b:Int} (hx:x[k]?=some a) (hy:y[k]?=some b):
 Dn (x.drop k) (y.drop k)=if a<b then -1 else if b<a then 1 else Dn (x.drop (k+1)) (y.drop (k+1)):=by
 obtain ⟨h1,rfl⟩:=CB.1 hx;obtain ⟨h2,rfl⟩:=CB.1 hy;rw [Eg h1,Eg h2,Dn]
theorem dD {x y:List Int} {k:Nat} (hx:k<x.length) (hy:y.length≤k):Dn (x.drop k) (y.drop k)=1:=by
 rw [Eg hx,EN hy,Dn]
theorem tF {x y:List Int} {k:Nat} (hx:x.length≤k) (hy:k<y.length):Dn (x.drop k) (y.drop k)=-1:=by
 rw [Eg hy,EN hx,Dn]
theorem jK {x y:List Int} {k:Nat} (hx:x.length≤k) (hy:y.length≤k):Dn (x.drop k) (y.drop k)=0:=by
 rw [EN hx,EN hy,Dn]
def yL (a b:Int):Int:=if a<b then -1 else if b<a then 1 else 0
theorem dG (a b:Int) (w:World):Calls prog 187 #[.int .i64 a,.int .i64 b] w fun e w'=>e=.returned (.int .i64 (yL a b))∧w=w':=by
 have q:∀ x:Int,(x !=x)=false:=by simp
 by_cases h1:a<b
 ·have HR:Hid (yL a b=-1):=Al h1;go_enter func187,ntmps187;go_wp2;go_ret;rw [HR.Ab];exact ⟨rfl,rfl⟩
 ·by_cases h2:b<a
  ·have HR:Hid (yL a b=1):=(Ak h1).trans (Al h2);go_enter func187,ntmps187;go_wp2;go_ret;rw [HR.Ab];exact ⟨rfl,rfl⟩
  ·have HR:Hid (yL a b=0):=(Ak h1).trans (Ak h2);go_enter func187,ntmps187;go_wp2;go_ret;rw [HR.Ab];exact ⟨rfl,rfl⟩
theorem Zc8 {p:Prop} (h:p:=by have:=Hxl.Ab;omega):p:=h
theorem Zc9 {p:Prop} (h:p:=by have:=Hyl.Ab;omega):p:=h
theorem tC (x y:Row Int) (w:World) (hx:x.ok w) (hy:y.ok w):
 Calls prog 153 #[x.v,y.v] w fun e w'=>e=.returned (.int .i64 (Dn x.l y.l))∧w=w':=by
 have rC:=hx.size;have hyn:=hy.size;have Hxl:=Aa hx.len;have Hyl:=Aa hy.len;have Hx:=Aa hx;have Hy:=Aa hy;clear hx hy;obtain ⟨xA,xn,xc,xl⟩:=x;obtain ⟨yA,yn,yc,yl⟩:=y;simp only [Row.v] at *;go_enter func153,ntmps153;go_wp2;go_loopg [11] xn (fun g i wr=>∃ k:Nat,g=xn - k∧k≤xn∧k≤yn∧i=.int .i64 k∧wr=w∧Hid (Dn xl yl=Dn (xl.drop k) (yl.drop k)));case atStart=>exact ⟨0,rfl,Xl,Xl,rfl,rfl,rfl⟩
 case round=>
  obtain ⟨k,BR,hk,hky,rfl,rfl,hF⟩:=hrel;have Cs:=Aa BR;clear BR;by_cases hlt:k<xn
  ·obtain ⟨xb,xo,a,rfl,ha,hai,hca⟩:=Hx.int hlt;have Ha:=Aa ha;clear ha;by_cases hlty:k<yn
   ·obtain ⟨yb,yo,b,rfl,hb,hbi,hcb⟩:=Hy.int hlty;have Hb:=Aa hb;clear hb;have HD:=Aa (jJ Ha Hb.Ab);by_cases h1:a<b
    ·have HR:Hid (Dn xl yl=-1):=by show _=_;rw [hF.Ab,HD.Ab,Al h1]
     have HI:Hid (yL a b=-1):=Al h1;clear hF HD;go_wp2_with fail;refine (dG _ _ _).mono ?_;rintro e w1 ⟨rfl,rfl⟩;rw [HI.Ab];go_wp2;go_ret;rw [HR.Ab];exact ⟨rfl,rfl⟩
    ·by_cases h2:b<a
     ·have HR:Hid (Dn xl yl=1):=by show _=_;rw [hF.Ab,HD.Ab,Ak h1,Al h2]
      have HI:Hid (yL a b=1):=(Ak h1).trans (Al h2);clear hF HD;go_wp2_with fail;refine (dG _ _ _).mono ?_;rintro e w1 ⟨rfl,rfl⟩;rw [HI.Ab];go_wp2;go_ret;rw [HR.Ab];exact ⟨rfl,rfl⟩
     ·have HR:Hid (Dn xl yl=Dn (xl.drop (k+1)) (yl.drop (k+1))):=by show _=_;rw [hF.Ab,HD.Ab,Ak h1,Ak h2]
      have HI:Hid (yL a b=0):=(Ak h1).trans (Ak h2);clear hF HD;go_wp2_with fail;refine (dG _ _ _).mono ?_;rintro e w1 ⟨rfl,rfl⟩;rw [HI.Ab];go_wp2;go_roundg (xn - (k+1));case rel=>exact ⟨k+1,rfl,Xl,Xl,by go_num,rfl,HR⟩
      case measure=>rw [Cs.Ab];omega
   ·have HR:Hid (Dn xl yl=1):=by show _=_;rw [hF.Ab,dD Zc8 Zc9]
    clear hF;go_wp2;go_ret;rw [HR.Ab];exact ⟨rfl,rfl⟩
  ·by_cases hlty:k<yn
   ·have HR:Hid (Dn xl yl=-1):=by show _=_;rw [hF.Ab,tF Zc8 Zc9]
    clear hF;go_wp2;go_ret;rw [HR.Ab];exact ⟨rfl,rfl⟩
   ·have HR:Hid (Dn xl yl=0):=by show _=_;rw [hF.Ab,jK Zc8 Zc9]
    clear hF;go_wp2;go_ret;rw [HR.Ab];exact ⟨rfl,rfl⟩
end Go.Proofs.YtijplolmkcdflaaGreat
namespace Go.Proofs.YtijplolmkcdflaaGreat
open Tryz
open Go.RowKit
@[local go_sem] theorem Ll (f:Br):f.cs[0]?=some f.ks.v:=rfl
theorem Qq (f g:Br) (w:World) (hf:f.ok w) (hg:g.ok w):
 Calls prog 108 #[.agg f.cs,.agg g.cs] w fun e w'=>e=.returned (.int .i64 (Dn f.ks.l g.ks.l))∧Ai w w':=by
 have Hf:=Aa hf;have Hg:=Aa hg;clear hf hg;go_enter func108,ntmps108;go_wp2_with fail;have hB:Ai w ((w.alloc (.cells f.cs 97)).alloc (.cells g.cs 97)):=((Ai.refl w).alloc _).alloc _;refine (tC _ _ _ (Hf.ks.mono hB) (Hg.ks.mono hB)).mono ?_;rintro e w1 ⟨rfl,rfl⟩;go_wp2;go_ret;exact ⟨rfl,hB⟩
theorem VK {x y:List Int} {r:Int} (h:Dn x y=r):Fh x y=(r==-1):=by unfold Fh;rw [h]
theorem aV (f g:Br) (w:World) (hf:f.ok w) (hg:g.ok w):
 Calls prog 39 #[.agg f.cs,.agg g.cs] w fun e w'=>e=.returned (.bool (Fh f.ks.l g.ks.l))∧Ai w w':=by
 have rC:=hf.ks.size;have hyn:=hg.ks.size;have Hxl:=Aa hf.ks.len;have Hyl:=Aa hg.ks.len;have Hx:=Aa hf.ks;have Hy:=Aa hg.ks;clear hf hg;have b1:Bh ((w.alloc (.cells f.cs 97)).alloc (.cells g.cs 97)) w.heap.size 97 f.cs:=(Bh.new w _ _).alloc _;have b2:Bh ((w.alloc (.cells f.cs 97)).alloc (.cells g.cs 97)) (w.heap.size+1) 97 g.cs:=by
  have:=Bh.new (w.alloc (.cells f.cs 97)) 97 g.cs;rw [Gf] at this;exact this
 have hB0:Ai w ((w.alloc (.cells f.cs 97)).alloc (.cells g.cs 97)):=((Ai.refl w).alloc _).alloc _;have C1:=b1.cell 0;have C2:=b2.cell 0;clear b1 b2;obtain ⟨⟨xA,xn,xc,xl⟩,fa⟩:=f;obtain ⟨⟨yA,yn,yc,yl⟩,ga⟩:=g;simp only [Ll,Row.v] at *;go_enter func39,ntmps39;go_wp2;generalize ((w.alloc (.cells (Br.mk ⟨xA,xn,xc,xl⟩ fa).cs 97)).alloc (.cells (Br.mk ⟨yA,yn,yc,yl⟩ ga).cs 97))=W at *;go_loopg [5] xn (fun g i wr=>∃ k m:Nat,g=xn - k∧k≤xn∧k≤yn∧i=.int .i64 k∧wr=W.drewN m∧Hid (Dn xl yl=Dn (xl.drop k) (yl.drop k)));case atStart=>exact ⟨0,0,rfl,Xl,Xl,rfl,rfl,rfl⟩
 case round=>
  obtain ⟨k,m,BR,hk,hky,rfl,rfl,hF⟩:=hrel;have Cs:=Aa BR;clear BR;by_cases hlt:k<xn
  ·obtain ⟨xb,xo,a,rfl,ha,hai,hca⟩:=(Hx.mono hB0).int hlt;have Ha:=Aa ha;clear ha;have dx:decide ((k:Int)<(xn:Int))=true:=by simp;omega
   have dx':decide (k<xn)=true:=by simp;omega
   by_cases hlty:k<yn
   ·obtain ⟨yb,yo,b,rfl,hb,hbi,hcb⟩:=(Hy.mono hB0).int hlty;have Hb:=Aa hb;clear hb;have dy:decide ((k:Int)<(yn:Int))=true:=by simp;omega
    have dy':decide (k<yn)=true:=by simp;omega
    have HD:=Aa (jJ Ha Hb.Ab);by_cases h1:a<b
    ·have HR:Hid (Fh xl yl=true):=by show _=_;rw [VK (hF.trans (HD.trans (Al h1)))];rfl
     have q:(a !=b)=true:=by rw [bne_iff_ne];omega
     have q2:decide (a<b)=true:=by simp;omega
     clear hF HD;go_wp2_with fail;go_quiet (fail);go_wp2_with fail;go_quiet (fail);go_wp2;go_ret;rw [HR.Ab];exact ⟨rfl,((hB0.drewN _).drewN _).drewN _⟩
    ·by_cases h2:b<a
     ·have HR:Hid (Fh xl yl=false):=by show _=_;rw [VK (hF.trans (HD.trans ((Ak h1).trans (Al h2))))];rfl
      have q:(a !=b)=true:=by rw [bne_iff_ne];omega
      have q2:decide (a<b)=false:=by simp;omega
      clear hF HD;go_wp2_with fail;go_quiet (fail);go_wp2_with fail;go_quiet (fail);go_wp2;go_ret;rw [HR.Ab];exact ⟨rfl,((hB0.drewN _).drewN _).drewN _⟩
     ·have HR:Hid (Dn xl yl=Dn (xl.drop (k+1)) (yl.drop (k+1))):=by show _=_;rw [hF.Ab,HD.Ab,Ak h1,Ak h2]
      have q:(a !=b)=false:=by rw [bne_eq_false_iff_eq];omega
      clear hF HD;go_wp2_with fail;go_quiet (fail);go_wp2;go_roundg (xn - (k+1));case rel=>exact ⟨k+1,_,rfl,Xl,Xl,by go_num,rfl,HR⟩
      case measure=>rw [Cs.Ab];omega
   ·have HR:Hid (Fh xl yl=false):=by show _=_;rw [VK (hF.trans (dD Zc8 Zc9))];rfl
    have dy:decide ((k:Int)<(yn:Int))=false:=by simp;omega
    have dy':decide (k<yn)=false:=by simp;omega
    have dz:decide (xn<yn)=false:=by simp;omega
    clear hF;go_wp2;go_ret;rw [HR.Ab];exact ⟨rfl,hB0.drewN _⟩
  ·have dx:decide ((k:Int)<(xn:Int))=false:=by simp;omega
   have dx':decide (k<xn)=false:=by simp;omega
   by_cases hlty:k<yn
   ·have HR:Hid (Fh xl yl=true):=by show _=_;rw [VK (hF.trans (tF Zc8 Zc9))];rfl
    have dz:decide (xn<yn)=true:=by simp;omega
    clear hF;go_wp2;go_ret;rw [HR.Ab];exact ⟨rfl,hB0.drewN _⟩
   ·have HR:Hid (Fh xl yl=false):=by show _=_;rw [VK (hF.trans (jK Zc8 Zc9))];rfl
    have dz:decide (xn<yn)=false:=by simp;omega
    clear hF;go_wp2;go_ret;rw [HR.Ab];exact ⟨rfl,hB0.drewN _⟩
theorem lH {w:World} {base:Nat} {e:TypeId} {size n:Nat} {v:Value} {xs:List Value} (h:w.ownsRow base e size v n xs):∀ A c,v=.slice A n c→c≤maxLen:=by
 intro A c hv;rcases h.2 with ⟨rfl,_⟩|⟨g,cap,cur,rfl,_,_,_,hc,_⟩
 ·injection hv with _ _ h3;rw [←h3];exact Bj _
 ·injection hv with _ _ h3;rw [←h3];exact hc
structure Ap8 (w w':World) (zs:List Int) (x:Row Int):Prop where
 l:x.l=zs
 ok:x.ok w'
 new:0<x.n→∀ ad,x.A=some ad→w.heap.size≤ad.block
def Al3 (w w':World) (zs:List Int) (e:Ending):Prop:=∃ x:Row Int,e=.returned x.v∧Ap8 w w' zs x
theorem fG (x:Row Int) (w:World) (hx:x.ok w):
 Calls prog 69 #[x.v] w fun e w'=>Al3 w w' x.l e∧Ai w w':=by
 obtain ⟨A,n,c,l⟩:=x;have Hx:=Aa hx;have hr:Rd w 1 A n (l.map (Value.int .i64)):=hx.ints;have hlen:Hid (l.length=n):=hx.len;have hc:Hid (n≤c∧c≤maxLen):=⟨hx.le,hx.cap⟩;have hn:n * 8≤140737488351232:=hx.reach;clear hx;simp only [Row.v] at *;cases A with
 |none=>
  obtain rfl:n=0:=by
   rcases Vk n with h|h
   ·exact h
   ·obtain ⟨ad,e,_⟩:=hr.2 h;cases e
  have hl:l=[]:=LD hlen.Ab;subst hl;have he:=fun (c:Nat) (w:World)=>Xv (P:=prog) w 47 3 none 0 c 0 0 underlying47
  go_enter func69,ntmps69;go_wp2;go_ret;exact ⟨⟨⟨none,0,0,[]⟩,rfl,⟨rfl,⟨Rd.nil,uH,Ci _,Bj _,Bj _⟩,fun h=>absurd h uH⟩⟩,Ai.refl _⟩
 |some ad=>
  have he:=fun (n c:Nat) (w:World)=>Xv (P:=prog) w 47 3 (some ad) n c 0 0 underlying47
  have hbs:∀ w:World,(Instr.buildSlice 47 0 #[]).run prog w=.ok (.slice (some ⟨w.heap.size,0,none⟩) 0 0) (w.alloc (.cells #[] 3)):=fun _=>by kernel_rfl
  have hown:(w.alloc (.cells #[] 3)).ownsRow w.heap.size 3 1 (.slice (some ⟨w.heap.size,0,none⟩) 0 0) 0 []:=⟨rfl,.inr ⟨w.heap.size,0,#[],rfl,Ci _,PW w _,Ci _,Bj _,rfl,rfl⟩⟩;go_enter func69,ntmps69;go_wp2_with ((with_reducible refine OP 7 ?_);refine CL rfl (.tmp 5) (.tmp 6) _ rfl Ax1 w ((Ai.refl w).alloc _) _ 0 [] rfl hown (some ad) n c (l.map (Value.int .i64)) rfl (hr.Av ((Ai.refl w).alloc _)) Za2 Za4 Xl ?_;intro v2 w2 hown2 hB2 hg2 hat2);go_ret;simp only [FI,FC] at hown2;refine ⟨?_,hB2⟩;have hcap:=lH hown2;obtain ⟨A2,c2,rfl,hc2⟩:=Ao hown2;refine ⟨⟨A2,n,c2,l⟩,rfl,⟨rfl,⟨?_,Hx.all,hc2,hcap _ _ rfl,Hx.reach⟩,fun _ a ha=>?_⟩⟩
  ·rw [Gz];exact Rd.BC hown2
  ·subst ha;exact Jh hown2 rfl
attribute [local go_sem] Ll
theorem Xk (k:Row Int) (a:Ag) (w:World):(Instr.build 97 #[(0,k.v),(1,.agg a.cs)]).run prog w=.ok (.agg (Br.mk k a).cs) w:=by kernel_rfl
def Row.nil {α:Type}:Row α:=⟨none,0,0,[]⟩
theorem yU (w:World):(Instr.build 97 #[]).run prog w=.ok (.agg (Br.mk .nil .zero).cs) w:=by kernel_rfl
def uV (v:Value) (f:Br):Prop:=0<f.ks.n→∀ ad,f.ks.A=some ad→v.ownBlock≠some ad.block
structure Kw (w0 w:World) (v:Value) (fs:List Br):Prop where
 Av:Ai w0 w
 own:w.ownsRow w0.heap.size 97 11 v fs.length (fs.flatMap AY.cells)
 ok:∀ f ∈ fs,f.ok w
 away:∀ f ∈ fs,uV v f
 new:∀ f ∈ fs,0<f.ks.n→∀ ad,f.ks.A=some ad→w0.heap.size≤ad.block
def cons (l:List Br):List (List Int × Ag):=l.map Br.Ac
theorem Kw.keep {w0 w w':World} {v:Value} {fs:List Br} (h:Kw w0 w v fs) (hb:Ai w w'):Kw w0 w' v fs:=
 ⟨h.Av.trans hb,Ig h.own hb,fun f hf=>⟨(h.ok f hf).ks.mono hb,(h.ok f hf).ag⟩,h.away,h.new⟩
theorem Row.ok.grown {w w':World} {x:Row Int} {row:Option Nat} (h:x.ok w) (hg:w.grownBy w' row) (ha:0<x.n→∀ ad,x.A=some ad→row≠some ad.block):x.ok w':=by
 refine ⟨⟨h.rd.1,fun hn=>?_⟩,h.all,h.le,h.cap,h.reach⟩;obtain ⟨ad,e,hb,hc⟩:=h.rd.2 hn;refine ⟨ad,e,KI hb hg.size,fun j u hu=>?_⟩;rw [←hc j u hu];refine Vl ?_;rw [IV];exact hg.block _ hb (fun e'=>ha hn ad e e'.symm)
theorem Kw.app {w0 w w':World} {v v':Value} {fs:List Br} {f:Br} (h:Kw w0 w v fs) (hf:f.ok w) (hA:uV v f) (hB:Ai w0 w') (hfn:0<f.ks.n→∀ ad,f.ks.A=some ad→w0.heap.size≤ad.block) (ho:w'.ownsRow w0.heap.size 97 11 v' (fs.length+1) (fs.flatMap AY.cells++f.cs.toList)) (hg:w.grownBy w' v.ownBlock)
 (hv:v'.ownBlock=v.ownBlock∨v'.ownBlock=some w.heap.size):Kw w0 w' v' (fs++[f]):=by
 have hall:∀ g ∈ fs++[f],g.ok w∧uV v g∧(0<g.ks.n→∀ ad,g.ks.A=some ad→w0.heap.size≤ad.block):=fun g hg'=>by
  rcases Eb.1 hg' with h1|h1
  ·exact ⟨h.ok g h1,h.away g h1,h.new g h1⟩
  ·rw [Ee] at h1;subst h1;exact ⟨hf,hA,hfn⟩
 refine ⟨hB,by simpa [AY.cells] using ho,fun g hg'=>?_,fun g hg' hn ad e=>?_,fun g hg'=>(hall g hg').2.2⟩
 ·obtain ⟨h1,h2,_⟩:=hall g hg';exact ⟨h1.ks.grown hg h2,h1.ag⟩
 ·obtain ⟨h1,h2,_⟩:=hall g hg';rcases hv with hv|hv
  ·rw [hv];exact h2 hn ad e
  ·rw [hv];obtain ⟨ad',e',hb,_⟩:=h1.ks.rd.2 hn;rw [e] at e';injection e' with e';subst e';intro h3;injection h3 with h3;omega
theorem Zv1 {p:Prop} (h:p:=by exact ⟨q.cell 0,q.cell 1,q.cell 2,q.cell 3,q.cell 4,q.cell 5,q.cell 6,q.cell 7,q.cell 8,q.cell 9,q.cell 10⟩):p:=h
theorem Zc2 {p:Prop} (h:p:=by simpa using hu):p:=h
theorem KV (x:Row Br) (w:World) (hx:x.ok w) (hn:x.n≤1000000):
 Calls prog 41 #[x.v] w fun e w'=>∃ v fs,e=.returned v∧Kw w w' v fs∧cons fs=cons x.l:=by
 obtain ⟨A,n,c,l⟩:=x;have Hx:=Aa hx;have hlen:Hid (l.length=n):=hx.len;clear hx;simp only [Row.v] at *;have u35:=underlying95;have i35:∀ a:Ag,(prog.info? 95).map (·.size)=some a.cs.toList.length:=fun a=>by kernel_rfl
 go_enter func41,ntmps41;go_wp2;go_loopg [3,8] n (fun g s i wr=>∃ (k:Nat) (fs:List Br),g=n - k∧k≤n∧i=.int .i64 k∧Kw w wr s fs∧fs.length=k∧Hid (cons fs=cons (l.take k)));case atStart=>exact ⟨0,[],rfl,Xl,rfl,⟨Ai.refl _,⟨rfl,.inl ⟨rfl,rfl⟩⟩,uH,uH,uH⟩,rfl,rfl⟩
 case round=>
  obtain ⟨k,fs,BR,hk,rfl,hG,hfl,hF⟩:=hrel;have Cs:=Aa BR;have Hfl:=Aa hfl;clear BR hfl;by_cases hlt:k<n
  ·obtain ⟨b,o,f,rfl,hb,hf,hrg⟩:=NP (Hx.rd.Av hG.Av) hlt;have Hf:=Aa hf;have hfo:f.ok wr:=AY.mono hG.Av (Hx.all f (CU hf));have nM:=Aa hfo;clear hf hfo;go_wp2_with (first
    |((with_reducible refine OP 11 ?_);refine Af rfl Bz (.tmp 10) rfl b (o+k * 11) rfl f.cs rfl hrg ?_)
    |((with_reducible refine OS 5 ?_);refine DX Bz f.cs (EA _) ?_))
   have bk:=Bh.new wr 97 f.cs;have hne:u3.ownBlock≠some wr.heap.size:=fun e=>absurd (lG hG.own e) (Nat.lt_irrefl _)
   have hG1:=hG.keep ((Ai.refl wr).alloc (.cells f.cs 97));have Hfo1:Hid (f.ok (wr.alloc (.cells f.cs 97))):=⟨nM.ks.mono ((Ai.refl wr).alloc _),nM.ag⟩;clear hG nM;generalize wr.alloc (.cells f.cs 97)=W at *;generalize wr.heap.size=g at *;have hS:∀ w',Ai W w'→w'.cell? ⟨g,0,none⟩=some f.ks.v∧w'.cell? ⟨g,1,none⟩=some (.int .i64 f.ag.c)∧w'.cell? ⟨g,2,none⟩=some (.int .i64 f.ag.p.s)∧w'.cell? ⟨g,3,none⟩=some (.int .i64 f.ag.p.mn)∧w'.cell? ⟨g,4,none⟩=some (.int .i64 f.ag.p.mx)∧w'.cell? ⟨g,5,none⟩=some (.int .i64 f.ag.q.s)∧w'.cell? ⟨g,6,none⟩=some (.int .i64 f.ag.q.mn)∧w'.cell? ⟨g,7,none⟩=some (.int .i64 f.ag.q.mx)∧w'.cell? ⟨g,8,none⟩=some (.int .i64 f.ag.r.s)∧w'.cell? ⟨g,9,none⟩=some (.int .i64 f.ag.r.mn)∧w'.cell? ⟨g,10,none⟩=some (.int .i64 f.ag.r.mx):=fun w' hb'=>by
    have q:=bk.Av hb';exact Zv1
   have hT:∀ w1 w',Ai W w1→w1.grownBy w' u3.ownBlock→w'.cell? ⟨g,0,none⟩=some f.ks.v∧w'.cell? ⟨g,1,none⟩=some (.int .i64 f.ag.c)∧w'.cell? ⟨g,2,none⟩=some (.int .i64 f.ag.p.s)∧w'.cell? ⟨g,3,none⟩=some (.int .i64 f.ag.p.mn)∧w'.cell? ⟨g,4,none⟩=some (.int .i64 f.ag.p.mx)∧w'.cell? ⟨g,5,none⟩=some (.int .i64 f.ag.q.s)∧w'.cell? ⟨g,6,none⟩=some (.int .i64 f.ag.q.mn)∧w'.cell? ⟨g,7,none⟩=some (.int .i64 f.ag.q.mx)∧w'.cell? ⟨g,8,none⟩=some (.int .i64 f.ag.r.s)∧w'.cell? ⟨g,9,none⟩=some (.int .i64 f.ag.r.mn)∧w'.cell? ⟨g,10,none⟩=some (.int .i64 f.ag.r.mx):=fun w1 w' hb' hg'=>by
    have q:=(bk.Av hb').grown hg' (fun e=>hne e.symm);exact Zv1
   have HS:=Aa hS;have HT:=Aa hT;clear hS hT hrg bk i35;have hB1:=hG1.Av;have hfs:fs.length≤1000000:=by rw [Hfl.Ab];omega
   go_region_held3 (fun w'=>w'.cell? ⟨g,0,none⟩=some f.ks.v∧w'.cell? ⟨g,1,none⟩=some (.int .i64 f.ag.c)∧w'.cell? ⟨g,2,none⟩=some (.int .i64 f.ag.p.s)∧w'.cell? ⟨g,3,none⟩=some (.int .i64 f.ag.p.mn)∧w'.cell? ⟨g,4,none⟩=some (.int .i64 f.ag.p.mx)∧w'.cell? ⟨g,5,none⟩=some (.int .i64 f.ag.q.s)∧w'.cell? ⟨g,6,none⟩=some (.int .i64 f.ag.q.mn)∧w'.cell? ⟨g,7,none⟩=some (.int .i64 f.ag.q.mx)∧w'.cell? ⟨g,8,none⟩=some (.int .i64 f.ag.r.s)∧w'.cell? ⟨g,9,none⟩=some (.int .i64 f.ag.r.mn)∧w'.cell? ⟨g,10,none⟩=some (.int .i64 f.ag.r.mx)) (first|exact HS _ (Ai.refl W).drew|exact HS _ ((Ai.refl W).drew.trans hb2)|exact HS _ (((Ai.refl W).drew.trans hb2).alloc _)|exact HT _ _ (((Ai.refl W).drew.trans hb2).alloc _) hg3|go_keep) (first|(go_at_call 69;refine (fG f.ks _ (Hfo1.ks.mono (Ai.refl W).drew)).mono ?_;rintro e w2 ⟨⟨⟨xA,xn,xc,xl⟩,rfl,hx2⟩,hb2⟩;simp only [Row.v])|(refine kL (by rfl) (.tmp 12) (.tmp 19) _ (by rfl) EI w ((hB1.trans ((Ai.refl W).drew.trans hb2)).alloc _) u3 fs.length (fs.flatMap AY.cells) (by rfl) ((Ig hG1.own ((Ai.refl W).drew.trans hb2)).alloc _) _ 1 1 (Br.mk ⟨xA,xn,xc,xl⟩ f.ag).cs.toList (by rfl) (Ik _ _ _ 1 11 rfl) (fun u hu=>(Nb.1 (EA (Br.mk ⟨xA,xn,xc,xl⟩ f.ag))) u Zc2) Za4 Xl ?_;intro v3 w3 hown3 hB3 hg3 hat3));obtain ⟨hxl,hxo,rC⟩:=hx2;have hBW:Ai W w2:=(Ai.refl W).drew.trans hb2;have hAw:uV u3 (Br.mk ⟨xA,xn,xc,xl⟩ f.ag):=fun h0 ad e e2=>by
    have h1:=rC h0 ad e;have h2:=lG hG1.own e2;simp at h1;omega
   have hG3:=((hG1.keep hBW).keep ((Ai.refl w2).alloc (.cells (Br.mk ⟨xA,xn,xc,xl⟩ f.ag).cs 97))).app (f:=⟨⟨xA,xn,xc,xl⟩,f.ag⟩) ⟨hxo.mono ((Ai.refl w2).alloc _),Hfo1.ag⟩ hAw hB3 (fun h0 ad e=>by have h1:=rC h0 ad e;have h2:=hG1.Av.size;simp at h1;omega) hown3 hg3 hat3;have HR:Hid (cons (fs++[⟨⟨xA,xn,xc,xl⟩,f.ag⟩])=cons (l.take (k+1))):=by
    show _=_;rw [Ra,Hf.Ab];have:=hF.Ab;simp only at hxl;subst hxl;simp only [cons,Cf,Em,EX,Br.Ac,Option.toList] at this ⊢;rw [this]
   have HG3:=Aa hG3;clear hG3 hG1 hown3 hg3 hat3 hb2 hB3 hF;go_wp2;go_roundg (n - (k+1));case rel=>exact ⟨k+1,_,rfl,Xl,by go_num,HG3.Ab,by rw [Cn,Hfl.Ab];rfl,HR⟩
   case measure=>rw [Cs.Ab];omega
  ·have HR:Hid (cons fs=cons l):=by show _=_;rw [hF.Ab,EU Za9]
   clear hF;have HG:=Aa hG;clear hG;go_wp2;go_ret;exact ⟨_,fs,rfl,HG.Ab,HR.Ab⟩
end Go.Proofs.YtijplolmkcdflaaGreat
namespace Go.Proofs.YtijplolmkcdflaaGreat
open Tryz
open Go.RowKit
attribute [local go_sem] Ll
theorem Row.ok.Z7 {w:World} {x:Row Br} (h:x.ok w) {k:Nat} (hk:k<x.n):
 ∃ b o f,x.A=some ⟨b,o,none⟩∧b<w.heap.size∧x.l[k]?=some f∧f.ok w∧w.cell? ⟨b,o+k * 11,none⟩=some f.ks.v∧w.rangeAt b (o+k * 11) f.cs.toList∧w.rangeAt b (o+k * 11+1) f.ag.cs.toList:=by
 obtain ⟨b,o,f,e,hb,hf,hc⟩:=iB h.rd hk;refine ⟨b,o,f,e,hb,hf,h.all f (CU hf),hc 0 _ rfl,fun j v hv=>hc j v hv,fun j v hv=>?_⟩;rw [QZ,Oo 1 j];exact hc (j+1) v hv
end Go.Proofs.YtijplolmkcdflaaGreat
namespace Go.Proofs.YtijplolmkcdflaaGreat
open Tryz
open Go.RowKit
attribute [local go_sem] Ll
def QK (a b:List Br):Bool:=decide (cons a=cons b)
theorem AR (l:List Br):(cons l).length=l.length:=by unfold cons;rw [CQ]
theorem Jd {l:List Br} {k:Nat} {f:Br} (h:l[k]?=some f):(cons l)[k]?=some f.Ac:=by unfold cons;rw [Ed,h];rfl
theorem ZI {a b:List Br} {k:Nat} {f g:Br} (hf:a[k]?=some f) (hg:b[k]?=some g) (h:f.Ac≠g.Ac):QK a b=false:=by
 unfold QK;rw [decide_eq_false_iff_not];intro e;have h1:=Jd hf;rw [e,Jd hg] at h1;injection h1 with h1;exact h h1.symm
theorem jI {l:List Br} {k:Nat} {f:Br} (h:l[k]?=some f):cons (l.take (k+1))=cons (l.take k)++[f.Ac]:=by
 rw [Ra,h];simp [cons]
theorem Aa3 {f g:Br} (h:¬ f.ag=g.ag):f.Ac≠g.Ac:=fun e=>h (CW Prod.snd e)
theorem XY {f g:Br} (h:Fh f.ks.l g.ks.l=true):f.Ac≠g.Ac:=fun e=>by
 have e1:f.ks.l=g.ks.l:=CW Prod.fst e;rw [e1] at h;unfold Fh at h;rw [Xg] at h;cases h
theorem Au0 {f g:Br} (h:f.ag=g.ag) (h1:Fh f.ks.l g.ks.l=false) (h2:Fh g.ks.l f.ks.l=false):f.Ac=g.Ac:=by
 have:=Ia f.ks.l g.ks.l;have hs:=Gb f.ks.l g.ks.l;unfold Fh at h1 h2;simp at h1 h2;have h0:Dn f.ks.l g.ks.l=0:=by omega
 unfold Br.Ac;rw [Qu h0,h]
theorem NW {f g:Br} {w:World} {r:Bool} (h:Fh f.ks.l g.ks.l=r) (hf:f.ok w) (hg:g.ok w):
 Calls prog 39 #[.agg f.cs,.agg g.cs] w fun e w'=>e=.returned (.bool r)∧Ai w w':=by
 have:=aV f g w hf hg;rw [h] at this;exact this
theorem Br.ok.over {f:Br} {w:World} (h:f.ok w) (u:Over w):f.ok u.wd:=⟨h.ks.mono u.Av,h.ag⟩
theorem Ae0 (x y:Row Br) (w:World) (hx:x.ok w) (hy:y.ok w) (hn:x.n≤1000000) (hn2:y.n≤1000000):
 Calls prog 17 #[x.v,y.v] w fun e w'=>e=.returned (.bool (QK x.l y.l))∧Ai w w':=by
 have hlx:Hid (x.l.length=x.n):=hx.len;have hly:Hid (y.l.length=y.n):=hy.len;have Hx:=Aa hx;have Hy:=Aa hy;clear hx hy;obtain ⟨xA,n,xc,xl⟩:=x;obtain ⟨yA,m,yc,yl⟩:=y;simp only [Row.v] at *;by_cases hnm:n=m
 ·subst hnm;go_enter func17,ntmps17;go_wp2;go_loopg [13] n (fun g i wr=>∃ k:Nat,g=n - k∧k≤n∧i=.int .i64 k∧Ai w wr∧Hid (cons (xl.take k)=cons (yl.take k)));case atStart=>exact ⟨0,rfl,Xl,rfl,Ai.refl _,by show _=_;simp⟩
  case round=>
   obtain ⟨k,BR,hk,rfl,hB,hF⟩:=hrel;have Cs:=Aa BR;clear BR;by_cases hlt:k<n
   ·obtain ⟨b,o,f,rfl,hb,hf,hfo,_,hrf,hra⟩:=(Hx.mono hB).Z7 hlt;obtain ⟨d,p,g,rfl,hd,hg,hgo,_,hrg,hrh⟩:=(Hy.mono hB).Z7 hlt;have nM:=Aa hfo;have Hgo:=Aa hgo;have Hf:=Aa hf;have Hg:=Aa hg;clear hf hg hfo hgo;by_cases hag:f.ag=g.ag
    ·have HN:Hid (∀ w,(binOp .neq 95 (.agg f.ag.cs) (.agg g.ag.cs)).run prog w=.ok (.bool false) w):=fun w=>by rw [lK];simp [hag]
     have Hag:=Aa hag;clear hag;cases hL:Fh f.ks.l g.ks.l with
     |true=>
      have HR:Hid (QK xl yl=false):=ZI Hf Hg (XY hL);have HL:=Aa hL;clear hL hF;go_wp2_with fail;refine Am ?_;repeat (first
       |((with_reducible show wpQuiet _ _ _ _ (⟨some 20,_,_,_,_,_⟩::_) _);refine Ah rfl Dz (.tmp 19) rfl b (o+k * 11+1) rfl f.ag.cs rfl hb hra ?_;simp only [Act.put,LP])
       |((with_reducible show wpQuiet _ _ _ _ (⟨some 25,_,_,_,_,_⟩::_) _);refine Ah rfl Dz (.tmp 24) rfl d (p+k * 11+1) rfl g.ag.cs rfl hd hrh ?_;simp only [Act.put,LP])
       |((with_reducible show wpQuiet _ _ _ _ (⟨some 26,_,_,_,_,_⟩::_) _);refine IX rfl .neq 95 95 (.tmp 20) (.tmp 25) rfl rfl rfl Sb HN.Ab ?_;simp only [Act.put,LP])
       |((with_reducible show wpQuiet _ _ _ _ (⟨some 31,_,_,_,_,_⟩::_) _);refine Ah rfl Bz (.tmp 30) rfl b (o+k * 11) rfl f.cs rfl hb hrf ?_;simp only [Act.put,LP])
       |((with_reducible show wpQuiet _ _ _ _ (⟨some 35,_,_,_,_,_⟩::_) _);refine Ah rfl Bz (.tmp 34) rfl d (p+k * 11) rfl g.cs rfl hd hrg ?_;simp only [Act.put,LP])
       |((with_reducible show wpQuiet _ _ _ _ (⟨some 42,_,_,_,_,_⟩::_) _);refine Ah rfl Bz (.tmp 41) rfl d (p+k * 11) rfl g.cs rfl hd hrg ?_;simp only [Act.put,LP])
       |((with_reducible show wpQuiet _ _ _ _ (⟨some 46,_,_,_,_,_⟩::_) _);refine Ah rfl Bz (.tmp 45) rfl b (o+k * 11) rfl f.cs rfl hb hrf ?_;simp only [Act.put,LP])
       |go_big_quiet_step (((go_at_call 39;exact AB (NW HL (nM.over _) (Hgo.over _))))))
      refine CS ?_;rintro _ ⟨u,rfl⟩;go_wp2;go_ret;rw [HR.Ab];exact ⟨rfl,hB.trans u.Av⟩
     |false=>
      have HL:=Aa hL;clear hL;cases hM:Fh g.ks.l f.ks.l with
      |true=>
       have HR:Hid (QK xl yl=false):=ZI Hf Hg (XY hM).symm;have HM:=Aa hM;clear hM hF;go_wp2_with fail;refine Am ?_;repeat (first
        |((with_reducible show wpQuiet _ _ _ _ (⟨some 20,_,_,_,_,_⟩::_) _);refine Ah rfl Dz (.tmp 19) rfl b (o+k * 11+1) rfl f.ag.cs rfl hb hra ?_;simp only [Act.put,LP])
        |((with_reducible show wpQuiet _ _ _ _ (⟨some 25,_,_,_,_,_⟩::_) _);refine Ah rfl Dz (.tmp 24) rfl d (p+k * 11+1) rfl g.ag.cs rfl hd hrh ?_;simp only [Act.put,LP])
        |((with_reducible show wpQuiet _ _ _ _ (⟨some 26,_,_,_,_,_⟩::_) _);refine IX rfl .neq 95 95 (.tmp 20) (.tmp 25) rfl rfl rfl Sb HN.Ab ?_;simp only [Act.put,LP])
        |((with_reducible show wpQuiet _ _ _ _ (⟨some 31,_,_,_,_,_⟩::_) _);refine Ah rfl Bz (.tmp 30) rfl b (o+k * 11) rfl f.cs rfl hb hrf ?_;simp only [Act.put,LP])
        |((with_reducible show wpQuiet _ _ _ _ (⟨some 35,_,_,_,_,_⟩::_) _);refine Ah rfl Bz (.tmp 34) rfl d (p+k * 11) rfl g.cs rfl hd hrg ?_;simp only [Act.put,LP])
        |((with_reducible show wpQuiet _ _ _ _ (⟨some 42,_,_,_,_,_⟩::_) _);refine Ah rfl Bz (.tmp 41) rfl d (p+k * 11) rfl g.cs rfl hd hrg ?_;simp only [Act.put,LP])
        |((with_reducible show wpQuiet _ _ _ _ (⟨some 46,_,_,_,_,_⟩::_) _);refine Ah rfl Bz (.tmp 45) rfl b (o+k * 11) rfl f.cs rfl hb hrf ?_;simp only [Act.put,LP])
        |go_big_quiet_step ((first|(go_at_call 39;exact AB (NW HL (nM.over _) (Hgo.over _)))|(go_at_call 39;exact AB (NW HM (Hgo.over _) (nM.over _))))))
       refine CS ?_;rintro _ ⟨u,rfl⟩;go_wp2;go_ret;rw [HR.Ab];exact ⟨rfl,hB.trans u.Av⟩
      |false=>
       have HR:Hid (cons (xl.take (k+1))=cons (yl.take (k+1))):=by show _=_;rw [jI Hf.Ab,jI Hg.Ab,hF.Ab,Au0 Hag HL hM]
       have HM:=Aa hM;clear hM hF;go_wp2_with fail;refine Am ?_;repeat (first
        |((with_reducible show wpQuiet _ _ _ _ (⟨some 20,_,_,_,_,_⟩::_) _);refine Ah rfl Dz (.tmp 19) rfl b (o+k * 11+1) rfl f.ag.cs rfl hb hra ?_;simp only [Act.put,LP])
        |((with_reducible show wpQuiet _ _ _ _ (⟨some 25,_,_,_,_,_⟩::_) _);refine Ah rfl Dz (.tmp 24) rfl d (p+k * 11+1) rfl g.ag.cs rfl hd hrh ?_;simp only [Act.put,LP])
        |((with_reducible show wpQuiet _ _ _ _ (⟨some 26,_,_,_,_,_⟩::_) _);refine IX rfl .neq 95 95 (.tmp 20) (.tmp 25) rfl rfl rfl Sb HN.Ab ?_;simp only [Act.put,LP])
        |((with_reducible show wpQuiet _ _ _ _ (⟨some 31,_,_,_,_,_⟩::_) _);refine Ah rfl Bz (.tmp 30) rfl b (o+k * 11) rfl f.cs rfl hb hrf ?_;simp only [Act.put,LP])
        |((with_reducible show wpQuiet _ _ _ _ (⟨some 35,_,_,_,_,_⟩::_) _);refine Ah rfl Bz (.tmp 34) rfl d (p+k * 11) rfl g.cs rfl hd hrg ?_;simp only [Act.put,LP])
        |((with_reducible show wpQuiet _ _ _ _ (⟨some 42,_,_,_,_,_⟩::_) _);refine Ah rfl Bz (.tmp 41) rfl d (p+k * 11) rfl g.cs rfl hd hrg ?_;simp only [Act.put,LP])
        |((with_reducible show wpQuiet _ _ _ _ (⟨some 46,_,_,_,_,_⟩::_) _);refine Ah rfl Bz (.tmp 45) rfl b (o+k * 11) rfl f.cs rfl hb hrf ?_;simp only [Act.put,LP])
        |go_big_quiet_step ((first|(go_at_call 39;exact AB (NW HL (nM.over _) (Hgo.over _)))|(go_at_call 39;exact AB (NW HM (Hgo.over _) (nM.over _))))))
       refine CS ?_;rintro _ ⟨u,rfl⟩;go_wp2;go_roundg (n - (k+1));case rel=>exact ⟨k+1,rfl,Xl,by go_num,hB.trans u.Av,HR⟩
       case measure=>rw [Cs.Ab];omega
    ·have HN:Hid (∀ w,(binOp .neq 95 (.agg f.ag.cs) (.agg g.ag.cs)).run prog w=.ok (.bool true) w):=fun w=>by rw [lK];simp [hag]
     have HR:Hid (QK xl yl=false):=ZI Hf Hg (Aa3 hag);clear hag hF;go_wp2_with fail;refine Am ?_;repeat (first
      |((with_reducible show wpQuiet _ _ _ _ (⟨some 20,_,_,_,_,_⟩::_) _);refine Ah rfl Dz (.tmp 19) rfl b (o+k * 11+1) rfl f.ag.cs rfl hb hra ?_;simp only [Act.put,LP])
      |((with_reducible show wpQuiet _ _ _ _ (⟨some 25,_,_,_,_,_⟩::_) _);refine Ah rfl Dz (.tmp 24) rfl d (p+k * 11+1) rfl g.ag.cs rfl hd hrh ?_;simp only [Act.put,LP])
      |((with_reducible show wpQuiet _ _ _ _ (⟨some 26,_,_,_,_,_⟩::_) _);refine IX rfl .neq 95 95 (.tmp 20) (.tmp 25) rfl rfl rfl Sb HN.Ab ?_;simp only [Act.put,LP])
      |go_big_quiet_step (fail))
     refine CS ?_;rintro _ ⟨u,rfl⟩;go_wp2;go_ret;rw [HR.Ab];exact ⟨rfl,hB.trans u.Av⟩
   ·have HR:Hid (QK xl yl=true):=by
     show _=_;have h1:xl.length=n:=hlx.Ab;have h2:yl.length=n:=hly.Ab;have h3:=hF.Ab;rw [EU Xl,EU Xl] at h3;unfold QK;simp [h3]
    clear hF;go_wp2;go_ret;rw [HR.Ab];exact ⟨rfl,hB⟩
 ·have HR:Hid (QK xl yl=false):=by
   show _=_;unfold QK;rw [decide_eq_false_iff_not];intro e;have h1:xl.length=n:=hlx.Ab;have h2:yl.length=m:=hly.Ab;have h3:=CW List.length e;rw [AR,AR] at h3;omega
  have q:((n:Int) !=(m:Int))=true:=by rw [bne_iff_ne];omega
  have q2:(n !=m)=true:=by rw [bne_iff_ne];exact hnm
  clear hnm;go_enter func17,ntmps17;go_wp2;go_ret;rw [HR.Ab];exact ⟨rfl,Ai.refl _⟩
end Go.Proofs.YtijplolmkcdflaaGreat
namespace Go.Proofs.YtijplolmkcdflaaGreat
open Tryz
open Go.RowKit
attribute [local go_sem] Ll
theorem VU {f g:Br} {w:World} {r:Int} (h:Dn f.ks.l g.ks.l=r) (hf:f.ok w) (hg:g.ok w):
 Calls prog 108 #[.agg f.cs,.agg g.cs] w fun e w'=>e=.returned (.int .i64 r)∧Ai w w':=by
 have:=Qq f g w hf hg;rw [h] at this;exact this
end Go.Proofs.YtijplolmkcdflaaGreat
namespace Go.Proofs.YtijplolmkcdflaaGreat
open Tryz
open Go.RowKit
structure KY where
 ks:Row (List UInt8)
 ag:Ag
def KY.cs (g:KY):Array Value:=⟨g.ks.v::g.ag.cs.toList⟩
structure KY.rd (w:World) (g:KY):Prop where
 ks:g.ks.rd w
 ag:g.ag.ok
theorem p8 (f:KY):f.cs.all (·.oneCell')=true:=by
 rw [Nb];intro v hv;have hv':v ∈ f.ks.v::f.ag.cs.toList:=by simpa [KY.cs] using hv
 rcases FJ.1 hv' with rfl|h
 ·exact Row.Aq0 _
 ·exact Nb.1 (Iq f.ag) v Zb3
instance At4:AY KY where
 size:=11
 bytes:=104
 cells f:=f.cs.toList
 ok w f:=f.rd w
 len _:=rfl
 pos:=by omega
 mono hb h:=⟨h.ks.mono hb,h.ag⟩
def KY.Ac (g:KY):List (List UInt8) × Ag:=(g.ks.l,g.ag)
theorem Ae6:Ep prog 136 11:=⟨⟨_,underlying136,rfl⟩,by kernel_rfl⟩
theorem Row.rd.Ar2 {w:World} {x:Row KY} (h:x.rd w) {k:Nat} (hk:k<x.n):∃ b o t,x.A=some ⟨b,o,none⟩∧b<w.heap.size∧x.l[k]?=some t∧t.rd w∧w.cell? ⟨b,o+k * 11,none⟩=some (.slice t.ks.A t.ks.n t.ks.c)∧w.rangeAt b (o+k * 11+1) t.ag.cs.toList:=by
 obtain ⟨b,o,t,e,hb,ht,hc⟩:=NP h.r hk;refine ⟨b,o,t,e,hb,ht,h.all t (CU ht),hc 0 _ rfl,fun j v hv=>?_⟩;have:=hc (j+1) v hv;rw [show o+k * AY.size KY+(j+1)=o+k * 11+1+j by show o+k * 11+(j+1)=_;omega] at this;exact this
theorem Zv8 {p:Prop} (h:p:=by
 go_roundg (n - (k+1));case rel=>exact ⟨k+1,rfl,Xl,by go_num,H⟩
 case measure=>rw [Cs.Ab];omega
):p:=h
theorem kW (a b:Row KY) (w:World) (ha:a.rd w) (hb:b.rd w) (he:a.l.map KY.Ac=b.l.map KY.Ac):
 Calls prog 38 #[.slice a.A a.n a.c,.slice b.A b.n b.c] w fun e w'=>e=.returned (.bool true)∧Ai w w':=by
 have HA:=Aa (fun w' (h:Ai w w')=>ha.mono h);have HB:=Aa (fun w' (h:Ai w w')=>hb.mono h);have hla:a.l.length=a.n:=ha.len;have hlb:b.l.length=b.n:=hb.len;have n63:=ha.n63;have hnn:a.n=b.n:=by have h:=CW List.length he;rw [CQ,CQ] at h;omega
 have HE:=Aa he;have H:=Aa (SL.start No w);obtain ⟨A,n,c,ps⟩:=a;obtain ⟨B,m,d,qs⟩:=b;simp only at *;subst hnn;have hq1:((n:Int) !=n)=false:=by simp
 clear ha hb he hla hlb;go_enter func38,ntmps38;go_upto_region 4 with fail;clear hq1;go_loopg [14] n (fun gg s14 wr=>∃ (k:Nat),gg=n - k∧k≤n∧s14=.int .i64 k∧Hid (SL No w wr []));case atStart=>exact ⟨0,rfl,Xl,rfl,H⟩
 case round=>
  clear H;obtain ⟨k,BR,hk,rfl,H⟩:=hrel;obtain ⟨W0,hW0⟩:∃ W0,W0=wr:=⟨_,rfl⟩;subst hW0;have Cs:=Aa BR;clear BR;by_cases hlt:k<n
  ·obtain ⟨b1,o1,p,hA,hb1,hpk,hpr,hrg1,har1⟩:=(HA _ H.to).Ar2 (k:=k) hlt;simp only at hA;obtain ⟨b2,o2,q,hB,hb2,hqk,hqr,hrg2,har2⟩:=(HB _ H.to).Ar2 (k:=k) hlt;simp only at hB;have hc:p.Ac=q.Ac:=by
    have h1:(ps.map KY.Ac)[k]?=some p.Ac:=by rw [Ed,hpk];rfl
    have h2:(qs.map KY.Ac)[k]?=some q.Ac:=by rw [Ed,hqk];rfl
    rw [HE.Ab,h2] at h1;injection h1 with h1;exact h1.symm
   have hck:p.ks.l=q.ks.l:=CW Prod.fst hc;have hca:p.ag=q.ag:=CW Prod.snd hc;have HN:Hid (∀ w,(binOp .neq 95 (.agg p.ag.cs) (.agg q.ag.cs)).run prog w=.ok (.bool false) w):=fun w=>by rw [lK];simp [hca]
   have g1:p.ks.l.length=p.ks.n:=hpr.ks.len;have g2:q.ks.l.length=q.ks.n:=hqr.ks.len;have p63:=hpr.ks.n63;have HX:=Aa (fun w' (h:Ai W0 w')=>hpr.ks.mono h);have HY:=Aa (fun w' (h:Ai W0 w')=>hqr.ks.mono h);have MW:=Aa (fun w' (h:Ai W0 w')=>(h.cell (p:=⟨b1,o1+k * 11,none⟩) hb1).trans hrg1);have QV:=Aa (fun w' (h:Ai W0 w')=>(h.cell (p:=⟨b2,o2+k * 11,none⟩) hb2).trans hrg2);have HR1:=Aa har1;have HR2:=Aa har2;have HAA:=Aa hA;have HBB:=Aa hB;have i0:(0:Int)≤k:=by omega
   have i1:(k:Int)<n:=by omega
   have HB0:Hid (Ai W0 W0):=Ai.refl _;rw [hA,hB];clear hpk hqk hpr hqr hrg1 hrg2 har1 har2 hc hca hA hB;obtain ⟨⟨A3,n3,c3,xs⟩,pag⟩:=p;obtain ⟨⟨A4,n4,c4,ys⟩,qag⟩:=q;simp only at *;subst hck;obtain rfl:n3=n4:=by omega
   clear g1 g2;have z1:((n3:Int) !=n3)=false:=by simp
   have r1:=MW W0 (Ai.refl _);have r2:=QV W0 (Ai.refl _);go_upto_region 6 with fail;have f_r1:=fun u:Over W0=>Over.cell r1 u
   have f_r2:=fun u:Over W0=>Over.cell r2 u
   refine Am ?_;(try simp only [Act.put,LP]);repeat (first
    |((with_reducible show wpQuiet _ _ _ _ (⟨some 21,_,_,_,_,_⟩::_) _);refine Ah (by first|rfl|go_simp) Dz (.tmp 20) rfl b1 (o1+k * 11+1) rfl pag.cs rfl hb1 HR1.Ab ?_;simp only [Act.put,LP])
    |((with_reducible show wpQuiet _ _ _ _ (⟨some 26,_,_,_,_,_⟩::_) _);refine Ah (by first|rfl|go_simp) Dz (.tmp 25) rfl b2 (o2+k * 11+1) rfl qag.cs rfl hb2 HR2.Ab ?_;simp only [Act.put,LP])
    |((with_reducible show wpQuiet _ _ _ _ (⟨some 27,_,_,_,_,_⟩::_) _);refine IX rfl .neq 95 95 (.tmp 21) (.tmp 26) rfl rfl rfl Sb HN.Ab ?_;simp only [Act.put,LP])
    |go_big_quiet_step (fail))
   refine CS ?_;rintro w5 ⟨⟨_,Gd⟩,rfl⟩;(try dsimp only);replace H:=Aa (H.Av Gd);clear f_r1 f_r2 r1 r2;replace HB0:=Aa (HB0.trans Gd);clear Gd;have r1:=MW w5 HB0.Ab;go_upto_region 9 with fail;clear z1 r1 HR1 HR2 HN;go_loopg [49] n3 (fun gg s49 wx=>∃ (j:Nat),gg=n3 - j∧j≤n3∧s49=.int .i64 j∧Hid (Ai W0 wx)∧Hid (SL No w wx []));case atStart=>exact ⟨0,rfl,Xl,rfl,HB0,H⟩
   case round=>
    clear H HB0;obtain ⟨j,hgj,hj,rfl,HB0,H⟩:=hrel;have Lt:=Aa hgj;clear hgj;by_cases hjlt:j<n3
    ·obtain ⟨b4,o4,t,hA4,htk,htl,hr4⟩:=(HX _ HB0.Ab).GR (k:=j) hjlt;obtain ⟨b5,o5,t2,hA5,bD,_,Tj⟩:=(HY _ HB0.Ab).GR (k:=j) hjlt;simp only at hA4 hA5 htk bD;rw [htk] at bD;injection bD with bD;subst bD;have j0:(0:Int)≤j:=by omega
     have j1:(j:Int)<n3:=by omega
     have r1:=MW _ HB0.Ab;have r2:=QV _ HB0.Ab;rw [hA4] at r1;rw [hA5] at r2;clear htk hA4 hA5;go_upto_region 11 with fail;have f_r1:=fun u:Over wr=>Over.cell r1 u
     have f_r2:=fun u:Over wr=>Over.cell r2 u
     have Aj4:=fun u:Over wr=>Over.cell hr4 u
     have Aj3:=fun u:Over wr=>Over.cell Tj u
     refine Am ?_;(try simp only [Act.put,LP]);repeat (go_big_quiet_step (fail))
     refine CS ?_;rintro w5 ⟨⟨_,Gd⟩,rfl⟩;(try dsimp only);replace H:=Aa (H.Av Gd);clear f_r1 f_r2 Aj4 Aj3 r1 r2 hr4 Tj;replace HB0:=Aa (HB0.trans Gd);clear Gd;go_wp2_with fail;go_roundg (n3 - (j+1));case rel=>exact ⟨j+1,rfl,Xl,by go_num,HB0,H⟩
     case measure=>rw [Lt.Ab];omega
    ·go_wp2_with fail;rw [←HAA.Ab,←HBB.Ab];exact Zv8
  ·go_wp2;go_ret;exact ⟨rfl,H.to⟩
structure Es where
 er:Int
 gs:Row KY
 ns:Row Int
abbrev Es.cs (a:Es):Array Value:=#[.int .i64 a.er,.slice a.gs.A a.gs.n a.gs.c,.slice a.ns.A a.ns.n a.ns.c]
structure Es.rd (w:World) (a:Es):Prop where
 gs:a.gs.rd w
 ns:a.ns.rd w
theorem Es.rd.mono {w w':World} {a:Es} (h:a.rd w) (hb:Ai w w'):a.rd w':=⟨h.gs.mono hb,h.ns.mono hb⟩
structure nS where
 er:Int
 gs:List (List (List UInt8) × Ag)
 ns:List Int
def Es.Ac (a:Es):nS:=⟨a.er,a.gs.l.map KY.Ac,a.ns.l⟩
theorem oU (a b:Es) (w:World) (ha:a.rd w) (hb:b.rd w) (he:a.Ac=b.Ac):
 Calls prog 16 #[.agg a.cs,.agg b.cs] w fun e w'=>e=.returned (.bool true)∧Ai w w':=by
 have HAN:=Aa (fun w' (h:Ai w w')=>kW a.gs b.gs w' (ha.gs.mono h) (hb.gs.mono h) (CW nS.gs he));have HX:=Aa (fun w' (h:Ai w w')=>ha.ns.mono h);have HY:=Aa (fun w' (h:Ai w w')=>hb.ns.mono h);have hla:a.ns.l.length=a.ns.n:=ha.ns.len;have hlb:b.ns.l.length=b.ns.n:=hb.ns.len;have n63:=ha.ns.n63;have hE:a.er=b.er:=CW nS.er he;have hN:a.ns.l=b.ns.l:=CW nS.ns he;have hnn:a.ns.n=b.ns.n:=by rw [←hla,←hlb,hN]
 have H:=Aa (((SL.start No w).alloc a.cs 49).alloc b.cs 49);(try simp only [LS] at H);obtain ⟨er,⟨A1,n1,c1,gs1⟩,⟨A,n,c,ps⟩⟩:=a;obtain ⟨er2,⟨B1,m1,d1,gs2⟩,⟨B,m,d,qs⟩⟩:=b;simp only [Es.cs] at *;subst hnn hE hN;have hq1:((n:Int) !=n)=false:=by simp
 have hq2:(er !=er)=false:=by simp
 clear ha hb he hla hlb;go_enter func16,ntmps16;go_upto_region 1 with fail;generalize w.heap.size+1=y at *;generalize w.heap.size=x at *;generalize World.alloc (World.alloc _ _) _=w0 at *;have p0:w0.cell? ⟨x,0,none⟩=some (.int .i64 er):=(H.blk 0 rfl).cell 0;have p1:w0.cell? ⟨x,1,none⟩=some (.slice A1 n1 c1):=(H.blk 0 rfl).cell 1;have p2:w0.cell? ⟨x,2,none⟩=some (.slice A n c):=(H.blk 0 rfl).cell 2;have e0:w0.cell? ⟨y,0,none⟩=some (.int .i64 er):=(H.blk 1 rfl).cell 0;have e1:w0.cell? ⟨y,1,none⟩=some (.slice B1 m1 d1):=(H.blk 1 rfl).cell 1;have e2:w0.cell? ⟨y,2,none⟩=some (.slice B n d):=(H.blk 1 rfl).cell 2;go_wp2_with fail;refine (HAN _ H.to).mono ?_;rintro e w1 ⟨rfl,hb1⟩;replace H:=Aa (H.Av hb1);clear hb1 HAN p0 p1 p2 e0 e1 e2;have p2:w1.cell? ⟨x,2,none⟩=some (.slice A n c):=(H.blk 0 rfl).cell 2;go_upto_region 4 with fail;clear p2 hq1 hq2;go_loopg [31] n (fun gg s31 wr=>∃ (k:Nat),gg=n - k∧k≤n∧s31=.int .i64 k∧Hid (SL No w wr [Aw x 49 #[.int .i64 er,.slice A1 n1 c1,.slice A n c],Aw y 49 #[.int .i64 er,.slice B1 m1 d1,.slice B n d]]));case atStart=>exact ⟨0,rfl,Xl,rfl,H⟩
 case round=>
  clear H;obtain ⟨k,BR,hk,rfl,H⟩:=hrel;have Cs:=Aa BR;clear BR;by_cases hlt:k<n
  ·obtain ⟨b4,o4,t,hA4,htk,ht64,hr4⟩:=(HX _ H.to).Pv (k:=k) hlt;obtain ⟨b5,o5,t2,hA5,bD,_,Tj⟩:=(HY _ H.to).Pv (k:=k) hlt;simp only at hA4 hA5 htk bD;rw [htk] at bD;injection bD with bD;subst bD;have i0:(0:Int)≤k:=by omega
   have i1:(k:Int)<n:=by omega
   have p2:wr.cell? ⟨x,2,none⟩=some (.slice A n c):=(H.blk 0 rfl).cell 2;have e2:wr.cell? ⟨y,2,none⟩=some (.slice B n d):=(H.blk 1 rfl).cell 2;have z1:(t !=t)=false:=by simp
   rw [hA4] at p2;rw [hA5] at e2;clear htk hA4 hA5;go_upto_region 6 with fail;have f_p2:=fun u:Over wr=>Over.cell p2 u
   have f_e2:=fun u:Over wr=>Over.cell e2 u
   have Aj4:=fun u:Over wr=>Over.cell hr4 u
   have Aj3:=fun u:Over wr=>Over.cell Tj u
   refine Am ?_;(try simp only [Act.put,LP]);repeat (go_big_quiet_step (fail))
   refine CS ?_;rintro w5 ⟨⟨_,Gd⟩,rfl⟩;(try dsimp only);replace H:=Aa (H.Av Gd);clear f_p2 f_e2 Aj4 Aj3 p2 e2 hr4 Tj;clear Gd;go_wp2_with fail;exact Zv8
  ·go_wp2;go_ret;exact ⟨rfl,H.to⟩
section
variable {P : Program} {w : World}
theorem BP {ops:Array Oper} {o:Oper} {a:Act} {K:Act→World→Prop} {Q:Exit→Act→World→Prop} {X:Prop} (hgd:o.guard=none) {t e:TypeId} {size bytes:Nat} (E:Cy P t e size bytes) (x:Operand) (ho:o.op=.buildSlice t 1 #[(0,x)])
 (v:Value) (hx:a.eval x=v) (cs:Array Value) (hc:v.cells=cs) (hv:cs.size=size) (hs:size≤1000)
 (h:K (a.put o.dst (.slice (some ⟨w.heap.size,0,none⟩) 1 1)) (w.alloc (.cells cs e))):
 if Region.wanted o (yielded ops a.tmps)=true then Oper.wp P o a w K Q else X:=by
 subst hc;have hw:Region.wanted o (yielded ops a.tmps)=true:=by simp [Region.wanted,hgd]
 rw [Al hw];unfold Oper.wp execOp;have hr:=MQ E v hv hs w;simp only [ho,QD,Em,EX,hx,KH,hr,LC,LB];exact h
end
structure uZ (w:World) (b y:Nat) (s l nm:List UInt8) (v:Value) (ts:List (List UInt8)) (u:Value) (ups:List Int) (wr:World):Prop where
 g:w.grownBy wr (some b)
 r:Ir wr b s l
 Z:Bh wr w.heap.size 75 #[.string ⟨#[]⟩,.slice none 0 0,.slice none 0 0]
 Y:Bh wr y 75 #[.string ⟨nm.toArray⟩,v,u]
 ts:wr.ownsRow (w.heap.size+1) 9 1 v ts.length (ts.map tx)
 up:wr.ownsRow (w.heap.size+1) 3 1 u ups.length (ups.map (Value.int .i64))
theorem Aq5:(3:TypeId)≠9:=by decide
theorem Ag7:(3:TypeId)≠75:=by decide
theorem Aq4:(9:TypeId)≠75:=by decide
theorem SN {w w':World} {base:Nat} {e:TypeId} {size n g:Nat} {v:Value} {xs:List Value} (h:w.ownsRow base e size v n xs) (hg:w.grownBy w' (some g)) (hne:v.ownBlock≠some g):w'.ownsRow base e size v n xs:=
 h.kept hg (by
  rcases ho:v.ownBlock with _|k
  ·exact .inl rfl
  ·exact .inr (by rw [←ho];exact hne))
section
variable {w w1 w2 : World} {b y : Nat} {s l l' nm : List UInt8} {v u u' : Value} {ts : List (List UInt8)} {ups : List Int}
theorem Za8 {p:Prop} (h:p:=by intro e;injection e with e;omega):p:=h
theorem uZ.read (h:uZ w b y s l nm v ts u ups w1) (hb:b<w.heap.size) (hg:w1.grownBy w2 (some b)) (hr:Ir w2 b s l') (hy:w.heap.size<y:=by assumption):uZ w b y s l' nm v ts u ups w2:=
 ⟨h.g.trans hg,hr,h.Z.grown hg Za8,h.Y.grown hg Za8,h.ts.kept hg (FZ h.ts Xl),h.up.kept hg (FZ h.up Xl)⟩
theorem uZ.more (h:uZ w b y s l nm v ts u ups w1) (hb:Ai w1 w2):uZ w b y s l nm v ts u ups w2:=
 ⟨h.g.trans (EL hb _),h.r.Av hb,h.Z.Av hb,h.Y.Av hb,Ig h.ts hb,Ig h.up hb⟩
theorem uZ.app {x:Int} (h:uZ w b y s l nm v ts u ups w1) (ho:w2.ownsRow (w.heap.size+1) 3 1 u' (ups.length+1) (ups.map (Value.int .i64)++[.int .i64 x])) (hg:w1.grownBy w2 u.ownBlock) (hb:b<w.heap.size:=by assumption):
 w.grownBy w2 (some b)∧Ir w2 b s l∧Bh w2 w.heap.size 75 #[.string ⟨#[]⟩,.slice none 0 0,.slice none 0 0]∧Bh w2 y 75 #[.string ⟨nm.toArray⟩,v,u]∧w2.ownsRow (w.heap.size+1) 9 1 v ts.length (ts.map tx)∧w2.ownsRow (w.heap.size+1) 3 1 u' (ups++[x]).length ((ups++[x]).map (Value.int .i64)):=by
 have hu:=h.up;refine ⟨h.g.andThen hg (fun j e=>.inl (by have:=Jh hu e;omega)),h.r.grown hg (fun e=>by have:=Jh hu e.symm;omega),h.Z.grown hg (fun e=>by have:=Jh hu e.symm;omega),h.Y.grown hg (fun e=>IL hu h.Y Ag7 e.symm),iN h.ts hg (Ye h.ts hu (fun e=>Aq5 e.symm)),by simpa using ho⟩
theorem uZ.stored (hg:w.grownBy w1 (some b)) (hr:Ir w1 b s l) (hz:Bh w1 w.heap.size 75 #[.string ⟨#[]⟩,.slice none 0 0,.slice none 0 0]) (hY:Bh w1 y 75 #[.string ⟨nm.toArray⟩,v,u]) (ht:w1.ownsRow (w.heap.size+1) 9 1 v ts.length (ts.map tx)) (ho:w1.ownsRow (w.heap.size+1) 3 1 u' ups.length (ups.map (Value.int .i64))) (hyb:y≠b) (hyw:w.heap.size≤y) (hy:w.heap.size<y):uZ w b y s l nm v ts u' ups (w1.setCell ⟨y,2,none⟩ u'):=by
 have g:=grownBy_setCell w1 y 2 u';refine ⟨hg.andThen g (fun k e=>by injection e with e;exact .inl Xl),hr.grown g Za8,hz.grown g Za8,?_,?_,?_⟩
 ·have:=hY.Iy 2 u';simpa using this
 ·exact SN ht g (IL ht hY Aq4)
 ·exact SN ho g (IL ho hY Ag7)
end
def Ls (ds:List Int) (o:PR (List Int)):PR (List Int):=match o with|.error e=>.error e|.ok (xs,r)=>.ok (ds++xs,r)
theorem dR (o:PR (List Int)):Ls [] o=o:=by rcases o with e|⟨xs,r⟩<;>rfl
theorem Yg {ds:List Int} {most:Int} {n x:Nat} {l r:List UInt8} (h:DD most l=.ok (x,r)):Ls ds (LF most (n+1) l)=Ls (ds++[(x:Int)]) (LF most n r):=by
 simp only [LF,h];rcases LF most n r with e|⟨xs,r2⟩
 ·rfl
 ·simp [Ls]
theorem dS {ds:List Int} {most k:Int} {n:Nat} {l:List UInt8} (h:DD most l=.error k):Ls ds (LF most (n+1) l)=.error k:=by
 simp only [LF,h]
 rfl
def RH (above:Int) (nm:List UInt8) (ts:List (List UInt8)) (o:PR (List Int)):PR TC:=match o with|.error k=>.error k|.ok (up,r)=>JV above ⟨nm,ts,up⟩ r
theorem Su {most:Int} {l r:List UInt8} {ts:List (List UInt8)} (h:tread most l=.ok (ts,r)):(ts.length:Int)≤most:=by
 unfold tread at h;split at h
 ·cases h
 ·rename_i n r1 hp;have h1:=(Xz (p:=none) h (.inr ⟨rfl,rfl⟩)).2.1;have h2:=(ES hp).2.1;omega
theorem pV {above:Int} {l r r2 nm:List UInt8} {ts:List (List UInt8)} (h1:Dp 12 l=.ok (nm,r)) (h2:tread 200 r=.ok (ts,r2)):ED above l=RH above nm ts (QT above ts.length r2):=by
 unfold ED;rw [h1];simp only;rw [h2];simp only;unfold RH;cases QT above ts.length r2<;>rfl
structure EH (base:Nat) (T:Bt) (w:World):Prop where
 ts:w.ownsRow base 9 1 (.slice T.ts.A T.ts.n T.ts.c) T.ts.n (T.ts.l.map tx)
 up:w.ownsRow base 3 1 (.slice T.up.A T.up.n T.up.c) T.up.n (T.up.l.map (Value.int .i64))
 nm:T.nm.length≤12
 tl:∀ t ∈ T.ts.l,t.length≤16
 ul:∀ z ∈ T.up.l,AZ z
 tn:T.ts.n≤200
 un:T.up.n≤200
theorem EH.rd {base:Nat} {T:Bt} {w:World} (h:EH base T w):T.rd w:=
 ⟨by have:=h.nm;omega,⟨by have:=Rd.BC h.ts;rw [IQ];exact this,fun t ht=>by have:=h.tl t ht;show t.length≤_;omega,by have:=h.tn;omega⟩,⟨by have:=Rd.BC h.up;rw [Gz];exact this,fun z hz=>h.ul z hz,by have:=h.un;omega⟩⟩
theorem EH.kept {base:Nat} {T:Bt} {w w':World} {g:Nat} (h:EH base T w) (hg:w.grownBy w' (some g)) (hb:g<base):EH base T w':=
 ⟨h.ts.kept hg (FZ h.ts hb),h.up.kept hg (FZ h.up hb),h.nm,h.tl,h.ul,h.tn,h.un⟩
theorem EH.Av {base:Nat} {T:Bt} {w w':World} (h:EH base T w) (hb:Ai w w'):EH base T w':=⟨Ig h.ts hb,Ig h.up hb,h.nm,h.tl,h.ul,h.tn,h.un⟩
def Au2 (b:Nat) (s:List UInt8) (o:PR TC) (w:World) (e:Ending) (w':World):Prop:=
 match o with
 |.error k=>Xm b s k w e w'
 |.ok (t,l)=>∃ T:Bt,e=.returned (.agg T.cs)∧T.Ac=t∧w.grownBy w' (some b)∧Ir w' b s l∧EH (w.heap.size+1) T w'
theorem Zi6 {p:Prop} (h:p:=by
 refine Aj Ad trivial fun hHeld=>?_;clear Ad KK;refine EY (rs:=[7]) Za0 uH ?_;refine AllReadyH.cons Lj (fun KK Ad=>?_) AllReadyH.nil;refine AX rfl (.tmp 20) (.tmp 25) _ rfl LM (w.heap.size+1) Za3 u ups.length (ups.map (Value.int .i64)) rfl H4.up _ 1 1 [.int .i64 (x:Nat)] rfl R4 Za2 Zd6 Zd7 ?_;intro u5 w5 hown5 hg5 Y2;obtain ⟨g5,r5,z5,y5,t5,o5⟩:=H4.app hown5 hg5;have c5:=y5.cell 2;have f5:=y5.frozen 2;simp only [LG] at c5;obtain ⟨A5,q5,rfl,_⟩:=Ao o5;have H5:=Aa (uZ.stored (hy:=hyz) g5 r5 z5 y5 t5 o5 hyb hyw);rw [Cn,List.length_singleton] at H5;clear g5 r5 z5 y5 t5 o5 hown5 Y2 hg5;refine Aj Ad trivial fun hHeld=>?_;clear Ad KK;refine EY (rs:=[8]) Za0 uH ?_;refine AllReadyH.cons Mk (fun KK Ad=>?_) AllReadyH.nil;go_simp;refine Aj Ad trivial fun hHeld=>?_;clear Ad KK;refine EY (rs:=[9]) Za0 uH ?_;refine AllReadyH.cons MH (fun KK Ad=>?_) AllReadyH.nil;go_simp;clear c5 f5;refine Aj Ad trivial fun hHeld=>?_;clear Ad KK;refine BZ ?_;clear hHeld;go_wp2_with fail;go_roundg (n - (k+1));case rel=>exact ⟨k+1,_,ups++[(x:Int)],r,rfl,Xl,by go_num,by show _=_;have:=hdk.Ab;simp [this],HX2,H5,HN⟩
 case measure=>rw [Cs.Ab];omega
):p:=h
theorem Zj2 {p:Prop} (h:p:=by
 obtain ⟨T,hT⟩:∃ T:Bt,T=⟨nm,⟨A,n,c,ts⟩,⟨A2,ups.length,c2,ups⟩⟩:=⟨_,rfl⟩;have HO:Hid (EH (w.heap.size+1) T wr):=by subst hT;exact ⟨by have:=H.ts;rw [←Vh.Ab] at this;exact this,H.up,by show nm.length≤12;omega,htl.Ab,HXX.Ab,rG,lT⟩
 have Tk:T.Ac=⟨nm,ts,ups⟩:=by subst hT;rfl
 have hTs:T.cs=#[.string ⟨nm.toArray⟩,.slice A n c,.slice A2 ups.length c2]:=by subst hT;rfl
 rw [←Tk] at HN;have HTC:=Aa Tk;have HTS:=Aa hTs;have bY:=H.Ab.Y;rw [←hTs] at bY;clear hT Tk hTs;go_wp2_with ((with_reducible refine OP 29 ?_);refine CY rfl Du (.tmp 5) rfl w2.heap.size rfl bY rfl ?_);refine (HC T _ HO.rd (by have:=HO.un;omega)).mono ?_;rintro e w6 ⟨rfl,hb6⟩;have H6:=Aa (H.more hb6);have HO6:=Aa (HO.Av hb6);have bY6:=bY.Av hb6;have hEr:=Kh T.Ac above;clear hb6 H HO bY;by_cases hE0:Bo T.Ac above=0
 ·have JS:Hid (ED above l=.ok (T.Ac,lr)):=by show _=_;rw [HN.Ab];unfold JV;rw [Al hE0]
  rw [hE0];clear hE0 hEr HN;go_wp2_with fail;refine (Mq b s lr 0 _ H6.r).mono ?_;rintro e w7 ⟨rfl,rfl⟩;have bZ:=H6.Ab.Z;go_wp2_with (first|((with_reducible refine OP 37 ?_);refine CY rfl Du (.tmp 5) rfl w2.heap.size rfl bY6 rfl ?_)|((with_reducible refine OS 4 ?_);refine Ae rfl Du (.tmp 4) (.tmp 37) rfl w.heap.size rfl bZ rfl T.cs rfl rfl (Lb T) ?_;intro w8 bC bI));refine Bc (AO rfl Du rfl bC rfl) rfl ?_;rw [JS.Ab];exact ⟨T,rfl,rfl,H6.g.andThen bI (fun k e=>by injection e with e;exact .inl Xl),H6.r.grown bI Za8,HO6.kept bI Xl⟩
 ·have JS:Hid (ED above l=.error (Bo T.Ac above)):=by show _=_;rw [HN.Ab];unfold JV;rw [Ak hE0]
  have hw:Gr (Bo T.Ac above)=Bo T.Ac above:=by unfold Gr;rw [Ak hE0]
  have dE:(Bo T.Ac above==0)=false:=by simpa using hE0
  have HW:=Aa hw;clear hE0 hw HN;go_wp2_with fail;refine (JB b s lr (Bo T.Ac above) _ H6.r).mono ?_;rintro e w7 ⟨rfl,rfl⟩;go_wp2_with fail;refine ⟨rfl,?_⟩;rw [JS.Ab,HW.Ab];exact ⟨rfl,H6.g,_,H6.r⟩
):p:=h
theorem Zm6 {p:Prop} (h:p:=by
 refine EY (rs:=[6]) Za0 uH ?_;refine AllReadyH.cons MI (fun KK Ad=>?_) AllReadyH.nil;have H4:=Aa (H3.more ((Ai.refl _).alloc (.cells #[.int .i64 (x:Nat)] 3)));have R4:=Aa (Ik w3 3 #[.int .i64 (x:Nat)] 1 1 rfl);have hz4:w.heap.size+1≤w3.heap.size:=by have:=H3.Ab.Z.lt;omega
 refine BP rfl LM (.tmp 24) rfl (.int .i64 (x:Nat)) rfl #[.int .i64 (x:Nat)] rfl rfl Xl ?_;exact Zi6
):p:=h
theorem Zu1 {p:Prop} (h:p:=by go_simp;refine (HA _ H1.r).mono ?_;rintro e' w3 ⟨rfl,hg3,hr3⟩;refine ⟨rfl,?_⟩;rw [HN.Ab];exact ⟨rfl,H1.g.trans hg3,hr3⟩):p:=h
theorem vM (b:Nat) (s l:List UInt8) (above:Int) (w:World) (hR:Ir w b s l) (ha:AZ above):
 Calls prog 170 #[.pointer (some ⟨b,0,none⟩),.int .i64 above] w (Au2 b s (ED above l) w):=by
 have hb:=hR.lt;have hl0:=hR.len;obtain ⟨a0,a1⟩:=ha;have HC:=Aa (fun (T:Bt) w (h:T.rd w) (hn:T.up.n≤100000)=>Rs T above w h hn ⟨a0,a1⟩);have HZ:=Aa (Bh.new w 75 #[.string ⟨#[]⟩,.slice none 0 0,.slice none 0 0]);have HT:=Aa (NL b s l 12 (w.alloc (.cells #[.string ⟨#[]⟩,.slice none 0 0,.slice none 0 0] 75)) (hR.Av ((Ai.refl w).alloc _)) Xl Xl);have HG:Hid (w.grownBy (w.alloc (.cells #[.string ⟨#[]⟩,.slice none 0 0,.slice none 0 0] 75)) (some b)):=EL ((Ai.refl w).alloc _) _;clear hR;go_enter func170,ntmps170;go_wp2_with fail;cases hp:Dp 12 l with
 |error k=>
  have HE:Hid (ED above l=.error k):=by show _=_;unfold ED;rw [hp]
  rw [hp] at HT;refine HT.mono ?_;rintro e w1 ⟨rfl,hg,hr⟩;clear hp;go_wp2_with fail;refine ⟨rfl,?_⟩;rw [HE.Ab];exact ⟨rfl,HG.trans hg,hr⟩
 |ok q=>
  obtain ⟨nm,r1⟩:=q;have Hp:=Aa hp;obtain ⟨hnm,_⟩:=Mj hp;rw [hp] at HT;refine HT.mono ?_;rintro e w1 ⟨rfl,hg,hr⟩;have G1:=Aa (HG.trans hg);have Z1:=Aa (HZ.grown hg Za8);have HD:=Aa (gD b s r1 200 w1 hr Xl Xl Xl);have hz1:w.heap.size<w1.heap.size:=Z1.lt;clear hp hg hr HG HZ HT;go_wp2_with fail;cases hd:tread 200 r1 with
  |error k=>
   have HE:Hid (ED above l=.error k):=by show _=_;unfold ED;rw [Hp.Ab];simp only;rw [hd]
   rw [hd] at HD;refine HD.mono ?_;rintro e w2 ⟨rfl,hg,hr⟩;clear hd;go_wp2_with fail;refine ⟨rfl,?_⟩;rw [HE.Ab];exact ⟨rfl,G1.trans hg,hr⟩
  |ok q=>
   obtain ⟨ts,r2⟩:=q;have HE:=Aa (pV (above:=above) Hp hd);have hrow:=(LV hd).1;have htl:Hid (∀ t ∈ ts,t.length≤16):=fun t ht=>II hrow ht
   rw [hd] at HD;refine HD.mono ?_;rintro e w2 ⟨v,rfl,hx⟩;obtain ⟨A,c,rfl,_⟩:=Ao hx.own;have rG:ts.length≤200:=by have:=Su hd;omega
   have H2:Hid (uZ w b w2.heap.size s r2 nm (.slice A ts.length c) ts (.slice none 0 0) [] (w2.alloc (.cells #[.string ⟨nm.toArray⟩,.slice A ts.length c,.slice none 0 0] 75))):=
    ⟨(G1.trans hx.g).trans (EL ((Ai.refl _).alloc _) _),hx.r.Av ((Ai.refl _).alloc _),(Z1.grown hx.g Za8).alloc _,Bh.new w2 _ _,Ig (Kn hx.own Xl) ((Ai.refl _).alloc _),⟨rfl,.inl ⟨rfl,rfl⟩⟩⟩
   have hyz:w.heap.size<w2.heap.size:=by have:=hx.g.size;omega
   have hyb:w2.heap.size≠b:=by omega
   have hyw:w.heap.size≤w2.heap.size:=by omega
   clear hd hx HD G1 Z1 hrow Hp;by_cases h0:0<above
   ·have HE2:Hid (ED above l=RH above nm ts (Ls [] (LF (above - 1) (ts.length - 0) r2))):=by show _=_;rw [HE.Ab,dR];unfold QT;rw [Al h0];rfl
    have wa:IntKind.i64.wrap (above - 1)=above - 1:=IB _ Xl;obtain ⟨n,hn⟩:∃ n,n=ts.length:=⟨_,rfl⟩;have Vh:=Aa hn;rw [←hn] at HE2 H2 rG;rw [←hn];clear hn HE;go_wp2_with (((with_reducible refine OS 5 ?_);refine DX Du #[.string ⟨nm.toArray⟩,.slice A n c,.slice none 0 0] Za2 ?_));go_loopg [17] n (fun gg i wr=>∃ (k:Nat) (u:Value) (ups:List Int) (lr:List UInt8),gg=n - k∧k≤n∧i=.int .i64 k∧Hid (ups.length=k)∧Hid (∀ z ∈ ups,AZ z)∧Hid (uZ w b w2.heap.size s lr nm (.slice A n c) ts u ups wr)∧Hid (ED above l=RH above nm ts (Ls ups (LF (above - 1) (n - k) lr))));case atStart=>exact ⟨0,_,[],r2,rfl,Xl,rfl,rfl,(fun z hz=>by cases hz),H2,HE2⟩
    case round=>
     clear H2 HE2;obtain ⟨k,u,ups,lr,BR,hk,rfl,hdk,HX,H,hE⟩:=hrel;have Cs:=Aa BR;clear BR;by_cases hlt:k<n
     ·have HA:=Aa (fun w (h:Ir w b s lr)=>IM b s lr (above - 1) w h Xl Xl);cases hp:DD (above - 1) lr with
      |error e=>
       have HN:Hid (ED above l=.error e):=by show _=_;rw [hE.Ab,show n - k=(n - (k+1))+1 by omega,dS hp];rfl
       rw [hp] at HA;clear hp hE;go_wp2_with fail;refine Eo (S:=fun _=>True) Za0 trivial fun hHeld=>?_;have H1:=Aa (H.more (Ai.refl wr).drew);generalize wr.drew=w2d at *;refine Bd Ml ?_;refine Bd MN ?_;refine Bd Ky ?_;refine Bd LJ ?_;refine EY (rs:=[1,5]) Za0 uH ?_;refine AllReadyH.cons KF (fun KK Ad=>?_) (AllReadyH.cons KW (fun KK Ad=>?_) AllReadyH.nil)
       ·have c0:=H1.Ab.Y.Ap 2;go_simp;clear c0;refine Aj Ad trivial fun hHeld=>?_;clear Ad KK;refine EY (rs:=[5]) Za0 uH ?_;refine AllReadyH.cons KW (fun KK Ad=>?_) AllReadyH.nil;exact Zu1
       ·exact Zu1
      |ok q=>
       obtain ⟨x,r⟩:=q;have HN:Hid (ED above l=RH above nm ts (Ls (ups++[(x:Int)]) (LF (above - 1) (n - (k+1)) r))):=by show _=_;rw [hE.Ab,show n - k=(n - (k+1))+1 by omega,Yg hp]
       have HX2:Hid (∀ z ∈ ups++[(x:Int)],AZ z):=by
        intro z hz;rcases Eb.1 hz with hz|hz
        ·exact HX z hz
        ·have:=ES hp;simp at hz;subst hz;unfold AZ;omega
       rw [hp] at HA;clear hp hE;go_wp2_with fail;refine Eo (S:=fun _=>True) Za0 trivial fun hHeld=>?_;have H1:=Aa (H.more (Ai.refl wr).drew);generalize wr.drew=w2d at *;refine Bd Ml ?_;refine Bd MN ?_;refine Bd Ky ?_;refine Bd LJ ?_;refine EY (rs:=[1,5]) Za0 uH ?_;refine AllReadyH.cons KF (fun KK Ad=>?_) (AllReadyH.cons KW (fun KK Ad=>?_) AllReadyH.nil)
       ·have c0:=H1.Ab.Y.Ap 2;go_simp;clear c0;refine Aj Ad trivial fun hHeld=>?_;clear Ad KK;refine EY (rs:=[5]) Za0 uH ?_;refine AllReadyH.cons KW (fun KK Ad=>?_) AllReadyH.nil;go_simp;refine (HA _ H1.r).mono ?_;rintro e' w3 ⟨rfl,hg3,hr3⟩;have H3:=Aa (H1.read hb hg3 hr3);refine Aj Ad trivial fun hHeld=>?_;clear Ad KK;clear hg3 hr3;exact Zm6
       ·go_simp;refine (HA _ H1.r).mono ?_;rintro e' w3 ⟨rfl,hg3,hr3⟩;have H3:=Aa (H1.read hb hg3 hr3);refine Aj Ad trivial fun hHeld=>?_;clear Ad KK;clear hg3 hr3;refine EY (rs:=[1,6]) Za0 uH ?_;refine AllReadyH.cons KF (fun KK Ad=>?_) (AllReadyH.cons MI (fun KK Ad=>?_) AllReadyH.nil)
        ·have c0:=H3.Ab.Y.Ap 2;go_simp;clear c0;refine Aj Ad trivial fun hHeld=>?_;clear Ad KK;exact Zm6
        ·have H4:=Aa (H3.more ((Ai.refl _).alloc (.cells #[.int .i64 (x:Nat)] 3)));have R4:=Aa (Ik w3 3 #[.int .i64 (x:Nat)] 1 1 rfl);have hz4:w.heap.size+1≤w3.heap.size:=by have:=H3.Ab.Z.lt;omega
         refine BP rfl LM (.tmp 24) rfl (.int .i64 (x:Nat)) rfl #[.int .i64 (x:Nat)] rfl rfl Xl ?_;refine Aj Ad trivial fun hHeld=>?_;clear Ad KK;refine EY (rs:=[1]) Za0 uH ?_;refine AllReadyH.cons KF (fun KK Ad=>?_) AllReadyH.nil;have c0:=H4.Ab.Y.Ap 2;go_simp;clear c0;exact Zi6
     ·have HN:Hid (ED above l=JV above ⟨nm,ts,ups⟩ lr):=by show _=_;rw [hE.Ab,show n - k=0 by omega];simp [LF,Ls,RH]
      clear hE;obtain ⟨A2,c2,rfl,_⟩:=Ao H.up;have lT:ups.length≤200:=by have:=hdk.Ab;omega
      have HXX:=Aa HX.Ab;exact Zj2
   ·have HN:Hid (ED above l=JV above ⟨nm,ts,[]⟩ r2):=by show _=_;rw [HE.Ab];unfold QT;rw [Ak h0];rfl
    have d0:decide ((0:Int)<above)=false:=by simp;omega
    obtain ⟨n,hn⟩:∃ n,n=ts.length:=⟨_,rfl⟩;have Vh:=Aa hn;rw [←hn] at H2 rG;rw [←hn];clear hn HE;go_upto_region 7 with (((with_reducible refine OS 5 ?_);refine DX Du #[.string ⟨nm.toArray⟩,.slice A n c,.slice none 0 0] Za2 ?_));obtain ⟨lr,hlr⟩:∃ lr,lr=r2:=⟨_,rfl⟩;rw [←hlr] at H2 HN;clear hlr;have H:=H2;obtain ⟨ups,hups⟩:∃ ups:List Int,ups=[]:=⟨_,rfl⟩;have lT:ups.length≤200:=by rw [hups];simp
    have HXX:Hid (∀ z ∈ ups,AZ z):=by rw [hups];exact fun z hz=>by cases hz
    obtain ⟨A2,hA2⟩:∃ A2:Option Addr,A2=none:=⟨_,rfl⟩;obtain ⟨c2,hc2⟩:∃ c2:Nat,c2=0:=⟨_,rfl⟩;have e0:(Value.slice none 0 0)=.slice A2 ups.length c2:=by rw [hups,hA2,hc2];rfl
    rw [←hups] at HN;have H3:Hid (uZ w b w2.heap.size s lr nm (.slice A n c) ts (.slice A2 ups.length c2) ups (w2.alloc (.cells #[.string ⟨nm.toArray⟩,.slice A n c,.slice none 0 0] 75))):=by rw [←e0];rw [←hups] at H;exact H
    clear H H2;have H:=H3;generalize w2.alloc (.cells #[.string ⟨nm.toArray⟩,.slice A n c,.slice none 0 0] 75)=wr at *;exact Zj2
theorem O3 {above k:Int} {l:List UInt8} (h:ED above l=.error k):k≠0:=by
 unfold ED at h;split at h
 ·rename_i h1;injection h with h;subst h;unfold Dp at h1;split at h1
  ·rename_i h2;injection h1 with h1;subst h1;have:=EE h2;omega
  ·have:=(aF h1).1;omega
 ·split at h
  ·rename_i h1;injection h with h;subst h;have:=Sv h1;omega
  ·split at h
   ·rename_i h1;injection h with h;subst h;unfold QT at h1;split at h1
    ·have:=P6 h1;omega
    ·cases h1
   ·unfold JV at h;split at h
    ·cases h
    ·rename_i h1;injection h with h;subst h;exact h1
abbrev Bt.nil:Bt:=⟨[],⟨none,0,0,[]⟩,⟨none,0,0,[]⟩⟩
abbrev TC.nil:TC:=⟨[],[],[]⟩
def JX (up:List Int) (i:Int):Int:=if i<0 then -1 else (up[i.toNat]?).getD (-1)
theorem Ag3 (t:Bt) (i:Int) (w:World) (ht:t.rd w) (hi:AZ i):
 Calls prog 148 #[.agg t.cs,.int .i64 i] w fun e w'=>e=.returned (.int .i64 (JX t.up.l i))∧Ai w w':=by
 have hW:=(Ai.refl w).alloc (.cells t.cs 75);have h1:=ht.mono hW;obtain ⟨hnm,hts,hup⟩:=ht;have htl:Hid (t.ts.l.length=t.ts.n):=hts.len;have lT:Hid (t.up.l.length=t.up.n):=hup.len;have hn63:=hts.n63;have hu63:=hup.n63;obtain ⟨nm,⟨A,n,c,ts⟩,⟨A2,n2,c2,up⟩⟩:=t;simp only [Bt.cs,Bt.Ac] at *;have HR:=Aa h1.ts.texts;have HX:=Aa h1.ts.nU;have HU:=Aa h1.up.ints;have HUI:=Aa h1.up.all;have HW:=Aa hW;clear hW h1 hts hup;obtain ⟨i0,i1⟩:=hi;by_cases h0:i<0
 ·have HR:Hid (JX up i=-1):=by show _=_;unfold JX;rw [Al h0]
  have d0:decide (i<0)=true:=by simp;omega
  go_enter func148,ntmps148;go_wp2;go_ret;rw [HR.Ab];exact ⟨rfl,HW.Ab⟩
 ·obtain ⟨k,rfl⟩:∃ k:Nat,i=k:=⟨i.toNat,Xl⟩;have d0:decide ((k:Int)<0)=false:=by simp
  by_cases hk:k<n2
  ·obtain ⟨ad,z,rfl,hz,hc⟩:=Rd.rA HU hk;have HR:Hid (JX up k=z):=by show _=_;unfold JX;rw [Ak Xl,Db,hz];rfl
   have d1:decide ((n2:Int)≤(k:Int))=false:=by simp;omega
   have d2:decide (n2≤k)=false:=by simp;omega
   have i2:(0:Int)≤k:=by omega
   have i3:(k:Int)<n2:=by omega
   clear hz;go_enter func148,ntmps148;go_wp2;go_ret;rw [HR.Ab];exact ⟨rfl,HW.Ab⟩
  ·have HR:Hid (JX up k=-1):=by show _=_;unfold JX;rw [Ak Xl,Db,Jj Zf6];rfl
   have d1:decide ((n2:Int)≤(k:Int))=true:=by simp;omega
   have d2:decide (n2≤k)=true:=by simp;omega
   go_enter func148,ntmps148;go_wp2;go_ret;rw [HR.Ab];exact ⟨rfl,HW.Ab⟩
structure fM (w:World) (s:List UInt8) (t k:Int) (nm:List UInt8) (v:Value) (ts:List (List UInt8)) (u:Value) (ups:List Int) (wr:World):Prop where
 Av:Ai w wr
 A:Bh wr w.heap.size 141 (DY s t k)
 R:Bh wr (w.heap.size+1) 141 (DY [] 0 0)
 Z:Bh wr (w.heap.size+1+1) 75 #[.string ⟨#[]⟩,.slice none 0 0,.slice none 0 0]
 G:Bh wr (w.heap.size+1+1+1) 75 #[.string ⟨nm.toArray⟩,v,u]
 ts:wr.ownsRow (w.heap.size+1+1+1+1) 9 1 v ts.length (ts.map tx)
 up:wr.ownsRow (w.heap.size+1+1+1+1) 3 1 u ups.length (ups.map (Value.int .i64))
section
variable {w w1 w2 : World} {s nm nm' : List UInt8} {t k t' k' : Int} {v v' u u' : Value} {ts ts' : List (List UInt8)} {ups : List Int}
theorem fM.more (h:fM w s t k nm v ts u ups w1) (hb:Ai w1 w2):fM w s t k nm v ts u ups w2:=⟨h.Av.trans hb,h.A.Av hb,h.R.Av hb,h.Z.Av hb,h.G.Av hb,Ig h.ts hb,Ig h.up hb⟩
theorem fM.Ug (h:fM w s t k nm v ts u ups w1) (hg:w1.grownBy w2 (some w.heap.size)) (hA:Bh w2 w.heap.size 141 (DY s t' k')):fM w s t' k' nm v ts u ups w2:=
 ⟨h.Av.DN hg (Ci _),hA,h.R.grown hg Za8,h.Z.grown hg Za8,h.G.grown hg Za8,h.ts.kept hg (FZ h.ts Xl),h.up.kept hg (FZ h.up Xl)⟩
theorem fM.far (h:fM w s t k nm v ts u ups w1) {g:Nat} (hg:w1.grownBy w2 (some g)) (h1:w.heap.size+1+1+1<g) (h2:v.ownBlock≠some g) (h3:u.ownBlock≠some g):fM w s t k nm v ts u ups w2:=
 ⟨h.Av.DN hg Xl,h.A.grown hg Za8,h.R.grown hg Za8,h.Z.grown hg Za8,h.G.grown hg Za8,SN h.ts hg h2,SN h.up hg h3⟩
theorem fM.setG (h:fM w s t k nm v ts u ups w1) (i:Nat) (x:Value) (hG:(#[.string ⟨nm.toArray⟩,v,u]:Array Value).setIfInBounds i x=#[.string ⟨nm'.toArray⟩,v',u']) (h1:w1.ownsRow (w.heap.size+1+1+1+1) 9 1 v' ts'.length (ts'.map tx)) {ups':List Int} (h2:w1.ownsRow (w.heap.size+1+1+1+1) 3 1 u' ups'.length (ups'.map (Value.int .i64))):fM w s t k nm' v' ts' u' ups' (w1.setCell ⟨w.heap.size+1+1+1,i,none⟩ x):=by
 have g:=grownBy_setCell w1 (w.heap.size+1+1+1) i x;refine ⟨h.Av.DN g Xl,h.A.grown g Za8,h.R.grown g Za8,h.Z.grown g Za8,?_,h1.kept g (FZ h1 Xl),h2.kept g (FZ h2 Xl)⟩;have:=h.G.Iy i x;rwa [hG] at this
theorem fM.app {x:Int} (h:fM w s t k nm v ts u ups w1) (ho:w2.ownsRow (w.heap.size+1+1+1+1) 3 1 u' (ups.length+1) (ups.map (Value.int .i64)++[.int .i64 x])) (hg:w1.grownBy w2 u.ownBlock):
 fM w s t k nm v ts u' (ups++[x]) (w2.setCell ⟨w.heap.size+1+1+1,2,none⟩ u')∧Bh w2 (w.heap.size+1+1+1) 75 #[.string ⟨nm.toArray⟩,v,u]:=by
 have hu:=h.up;have b:Ai w w2:=h.Av.grown hg (fun j e=>by have:=Jh hu e;omega);have bG:=h.G.grown hg (fun e=>by have:=Jh hu e.symm;omega);have g:=grownBy_setCell w2 (w.heap.size+1+1+1) 2 u';have hts:w2.ownsRow (w.heap.size+1+1+1+1) 9 1 v ts.length (ts.map tx):=iN h.ts hg (Ye h.ts hu (fun e=>Aq5 e.symm));refine ⟨⟨b.DN g Xl,?_,?_,?_,?_,hts.kept g (FZ hts Xl),?_⟩,bG⟩
 ·exact (h.A.grown hg (fun e=>by have:=Jh hu e.symm;omega)).grown g Za8
 ·exact (h.R.grown hg (fun e=>by have:=Jh hu e.symm;omega)).grown g Za8
 ·exact (h.Z.grown hg (fun e=>by have:=Jh hu e.symm;omega)).grown g Za8
 ·have:=bG.Iy 2 u';simpa using this
 ·have h2:w2.ownsRow (w.heap.size+1+1+1+1) 3 1 u' (ups++[x]).length ((ups++[x]).map (Value.int .i64)):=by simpa using ho
  exact h2.kept g (FZ h2 Xl)
end
theorem Za1 {p:Prop} (h:p:=by decide):p:=h
theorem EH.Ug {base:Nat} {T:Bt} {w:World} (h:EH base T w) {g o:Nat} {x:Value} {cs:Array Value} (hA:Bh w g 141 cs):EH base T (w.setCell ⟨g,o,none⟩ x):=
 ⟨SN h.ts (grownBy_setCell w g o x) (IL h.ts hA Za1),SN h.up (grownBy_setCell w g o x) (IL h.up hA Za1),h.nm,h.tl,h.ul,h.tn,h.un⟩
theorem qE {w w':World} {d0 d1 base:Nat} {e:TypeId} {size n:Nat} {v:Value} {xs:List Value} (h:w.ownsRow base e size v n xs) (hb:Tt d0 d1 w w') (h0:v.ownBlock≠some d0) (h1:v.ownBlock≠some d1):w'.ownsRow base e size v n xs:=by
 refine ⟨h.1,?_⟩;rcases h.2 with h2|⟨g,cap,cur,x1,x2,x3,x4⟩
 ·exact .inl h2
 ·have hlt:g<w.heap.size:=by
   rcases MX g w.heap.size with h|h
   ·exact h
   ·rw [Vm h] at x3;cases x3
  have hob:v.ownBlock=some g:=by rw [x1];rfl
  exact .inr ⟨g,cap,cur,x1,x2,(hb.block g hlt (fun e=>h0 (by rw [hob,e])) (fun e=>h1 (by rw [hob,e]))).trans x3,x4⟩
theorem EH.Tm {base d0 d1:Nat} {T:Bt} {w w':World} (h:EH base T w) (hb:Tt d0 d1 w w') {c0 c1:Array Value} (h0:Bh w d0 141 c0) (h1:Bh w d1 75 c1):EH base T w':=
 ⟨qE h.ts hb (IL h.ts h0 Za1) (IL h.ts h1 Aq4),qE h.up hb (IL h.up h0 Za1) (IL h.up h1 Ag7),h.nm,h.tl,h.ul,h.tn,h.un⟩
def Wj (above:Int) (s l0 nm:List UInt8) (ts:List (List UInt8)) (n:Nat) (ups:List Int) (m:Nat) (t kk:Int):Prop:=
 (kk≠0∧ED above l0=.error kk)∨(kk=0∧nm.length≤12∧(∀ x ∈ ts,x.length≤16)∧(∀ z ∈ ups,AZ z)∧n≤200∧ts.length=n∧True∧∃ tn:Nat,t=tn∧tn≤s.length∧ED above l0=RH above nm ts (Ls ups (QT above m (s.drop tn))))
theorem Wj.bad {above:Int} {s l0 nm:List UInt8} {ts:List (List UInt8)} {n m:Nat} {ups:List Int} {t kk:Int} (h:Wj above s l0 nm ts n ups m t kk) (hk:kk≠0):ED above l0=.error kk:=by
 rcases h with ⟨_,h⟩|⟨h,_⟩
 ·exact h
 ·exact absurd h hk
theorem Wj.good {above:Int} {s l0 nm:List UInt8} {ts:List (List UInt8)} {n m:Nat} {ups:List Int} {t kk:Int} (h:Wj above s l0 nm ts n ups m t kk) (hk:kk=0):nm.length≤12∧(∀ x ∈ ts,x.length≤16)∧(∀ z ∈ ups,AZ z)∧n≤200∧ts.length=n∧True∧∃ tn:Nat,t=tn∧tn≤s.length∧ED above l0=RH above nm ts (Ls ups (QT above m (s.drop tn))):=by
 rcases h with ⟨h,_⟩|⟨_,h⟩
 ·exact absurd hk h
 ·exact h
theorem ZX {above:Int} {nm:List UInt8} {ts:List (List UInt8)} {ups:List Int} {m:Nat} {l:List UInt8} (h:¬ 0<above∨m=0):RH above nm ts (Ls ups (QT above m l))=JV above ⟨nm,ts,ups⟩ l:=by
 have e:QT above m l=.ok ([],l):=by
  unfold QT;rcases h with h|h
  ·rw [Ak h]
  ·subst h;split<;>rfl
 rw [e];simp [Ls,RH]
def Au5 (s:List UInt8) (o:PR TC) (w:World) (e:Ending) (w':World):Prop:=
 ∃ (t k:Int) (T:Bt),e=.returned (.tuple #[Iz s t k,.agg T.cs])∧Ai w w'∧Hid (El s o t k T.Ac)∧(k=0→EH w.heap.size T w')
theorem oN (above:Int) (s l0:List UInt8) (t1 k1:Int) (nm:List UInt8) (hS:El s (Dp 12 l0) t1 k1 nm) (hs:s.length≤140737488351232) (w:World):
 Calls prog 118 #[Iz s t1 k1,.int .i64 200] w fun e w'=>∃ (t k:Int) (A:Option Addr) (n c:Nat) (ts:List (List UInt8)),e=.returned (.tuple #[Iz s t k,.slice A n c])∧Ai w w'∧Hid (ts.length=n)∧w'.ownsRow w.heap.size 9 1 (.slice A n c) ts.length (ts.map tx)∧Hid (Wj above s l0 nm ts n [] (if 0<above then n else 0) t k):=by
 rcases hS with ⟨hk,ho⟩|⟨rfl,tn,rfl,htn,ho⟩
 ·refine (ZK s t1 k1 200 hk w).mono ?_;rintro e w' ⟨rfl,hb⟩;exact ⟨t1,k1,none,0,0,[],rfl,hb,rfl,⟨rfl,.inl ⟨rfl,rfl⟩⟩,.inl ⟨hk,by unfold ED;rw [ho]⟩⟩
 ·refine (Vu s tn 200 w hs htn Xl Xl Xl).mono ?_;rintro e w' ⟨hb,t,A,c,ds,rfl,hown,hds⟩;cases hd:tread 200 (s.drop tn) with
  |error k=>
   have:=Sv hd;refine ⟨t,k,A,ds.length,c,ds,rfl,hb,rfl,hown,.inl ⟨Xl,?_⟩⟩;unfold ED;rw [ho];simp only;rw [hd]
  |ok q=>
   obtain ⟨ts,l⟩:=q;obtain ⟨rfl,t2,rfl,ht2,rfl⟩:=hds _ _ hd;refine ⟨t2,0,A,ds.length,c,ds,rfl,hb,rfl,hown,.inr ⟨rfl,?_,?_,?_,?_,rfl,trivial,t2,rfl,ht2,?_⟩⟩
   ·have:=(Mj ho).1;omega
   ·exact fun x hx=>II (LV hd).1 hx
   ·intro z hz;cases hz
   ·have:=Su hd;omega
   ·rw [pV ho hd,dR];by_cases h0:0<above
    ·rw [Al h0]
    ·rw [Ak h0];unfold QT;rw [Ak h0,Ak h0]
theorem Wj.step {above:Int} {s l0 nm:List UInt8} {ts:List (List UInt8)} {n k tn:Nat} {ups:List Int} {t kk:Int} {x:Nat} (h1:nm.length≤12) (h2:∀ x ∈ ts,x.length≤16) (h3:∀ z ∈ ups,AZ z) (h4:n≤200) (h5:ts.length=n) (h0:0<above) (ha:above≤9223372036854775807) (hk:k<n)
 (hE:ED above l0=RH above nm ts (Ls ups (QT above (n - k) (s.drop tn)))) (hS:El s (DD (above - 1) (s.drop tn)) t kk x):Wj above s l0 nm ts n (ups++[(x:Int)]) (if 0<above then n - (k+1) else 0) t kk:=by
 unfold QT at hE;rw [Al h0,show n - k=(n - (k+1))+1 by omega] at hE;rcases hS with ⟨x1,x2⟩|⟨x1,t2,x3,x4,x2⟩
 ·rw [dS x2] at hE;exact .inl ⟨x1,hE⟩
 ·rw [Yg x2] at hE;refine .inr ⟨x1,h1,h2,?_,h4,h5,trivial,t2,x3,x4,?_⟩
  ·intro z hz;rcases Eb.1 hz with hz|hz
   ·exact h3 z hz
   ·have:=ES x2;simp at hz;subst hz;unfold AZ;omega
  ·rw [Al h0,hE];unfold QT;rw [Al h0]
theorem Za7 {p:Prop} (h:p:=by exact fun _ _ _ h=>h):p:=h
theorem Zl0 {p:Prop} (h:p:=by
 have hb:=hI.bad hk0;have hk2:(kk==0)=false:=by simpa using hk0
 have Oe:Hid (El s (ED above l0) t kk T.Ac):=.inl ⟨hk0,hb⟩;have H9:=H;have bG9:=bG;have HK0:=Aa hk0;clear hk0 hb hI Tk HOW bG H;go_upto_region 12 with fail;clear a0 a1 a2 hk2;have hR:=H9.Ab.R.lt;refine Cv Za0 ⟨by kernel_rfl,by kernel_rfl,by kernel_rfl,by kernel_rfl,by kernel_rfl,by kernel_rfl,by kernel_rfl,by kernel_rfl⟩ Ar Du (.tmp 2) (.tmp 6) (.tmp 4) (.tmp 5) (.tmp 59) (.tmp 60) rfl rfl rfl rfl rfl rfl rfl rfl rfl rfl w.heap.size (w.heap.size+1+1+1) (w.heap.size+1) (w.heap.size+1+1) H9.Ab.A bG9 H9.Ab.R H9.Ab.Z rfl rfl rfl rfl (AU _ _ _) (Lb T) Xl Xl Xl Xl Xl rfl rfl rfl rfl rfl rfl Za7 Za7 ?_;intro gB Oj Og Gn;go_wp2_with fail;refine Bc (Ba rfl Ar Du rfl rfl Oj Og rfl rfl) rfl ?_;exact ⟨t,kk,T,rfl,Gn.Av H9.Av Xl Xl,Oe,fun h=>absurd h HK0.Ab⟩
):p:=h
theorem Zi2 {p:Prop} (h:p:=by
 obtain ⟨A2,c2,rfl,_⟩:=Ao H.up;obtain ⟨T,hT⟩:∃ T:Bt,T=⟨nm,⟨A,n,c,ts⟩,⟨A2,ups.length,c2,ups⟩⟩:=⟨_,rfl⟩;have Tk:T.Ac=⟨nm,ts,ups⟩:=by subst hT;rfl
 have hTs:T.cs=#[.string ⟨nm.toArray⟩,.slice A n c,.slice A2 ups.length c2]:=by subst hT;rfl
 have HOW:Hid (kk=0→EH w.heap.size T wr):=by intro h0;obtain ⟨x1,x2,x3,x4,x5,x6,_⟩:=(hI.good h0);subst hT;exact ⟨by have:=H.ts;rw [Vh.Ab] at this;exact Kn this Xl,Kn H.up Xl,x1,x2,x3,x4,by show ups.length≤200;have:=hdk.Ab;omega⟩
 have bG:=H.Ab.G;rw [←hTs] at bG;have HTC:=Aa Tk;clear hT hTs;by_cases hk0:kk=0
 ·subst hk0;obtain ⟨_,_,_,_,_,_,tn,rfl,htn,hE⟩:=hI.good rfl;have hEq:ED above l0=JV above T.Ac (s.drop tn):=by rw [hE,Tk];exact ZX hdone
  have HE:=Aa hEq;have HO:=Aa (HOW rfl);clear hE hEq hI HOW Tk;go_wp2_with ((with_reducible refine OP 55 ?_);refine CY rfl Du (.tmp 6) rfl (w.heap.size+1+1+1) rfl bG rfl ?_);refine (Rp T above _ HO.rd ha).mono ?_;rintro e w6 ⟨rfl,hb6⟩;have H6:=Aa (H.more hb6);have O6:=Aa (HO.Av hb6);have bG6:=Aa (bG.Av hb6);have hEr:=Kh T.Ac above;obtain ⟨e0,e1,e2,f0,f1,f2⟩:=H6.Ab.A.three;clear hb6 H HO bG a0 a1 a2;generalize hEE:Bo T.Ac above=E at *;have F6:=Aa hEE;clear hEE;go_upto_region 12 with fail;have H9:Hid (fM w s tn E nm (.slice A n c) ts (.slice A2 ups.length c2) ups (w6.setCell ⟨w.heap.size,2,none⟩ (.int .i64 E))):=H6.Ug (grownBy_setCell _ _ _ _) (by have:=H6.Ab.A.Iy 2 (.int .i64 E);simpa using this);have bG9:=bG6.grown (grownBy_setCell w6 w.heap.size 2 (.int .i64 E)) Za8;have O9:Hid (E=0→EH w.heap.size T (w6.setCell ⟨w.heap.size,2,none⟩ (.int .i64 E))):=fun _=>O6.Ug H6.Ab.A
  have Oe:Hid (El s (ED above l0) tn E T.Ac):=by
   show El _ _ _ _ _;rw [HE.Ab];unfold JV;rw [F6.Ab];by_cases h0:E=0
   ·rw [Al h0];exact .inr ⟨h0,tn,rfl,htn,rfl⟩
   ·rw [Ak h0];exact .inl ⟨h0,rfl⟩
  generalize w6.setCell ⟨w.heap.size,2,none⟩ (.int .i64 E)=w9 at *;clear H6 O6 bG6 e0 e1 e2 f0 f1 f2 HE F6;have hR:=H9.Ab.R.lt;refine Cv Za0 ⟨by kernel_rfl,by kernel_rfl,by kernel_rfl,by kernel_rfl,by kernel_rfl,by kernel_rfl,by kernel_rfl,by kernel_rfl⟩ Ar Du (.tmp 2) (.tmp 6) (.tmp 4) (.tmp 5) (.tmp 59) (.tmp 60) rfl rfl rfl rfl rfl rfl rfl rfl rfl rfl w.heap.size (w.heap.size+1+1+1) (w.heap.size+1) (w.heap.size+1+1) H9.Ab.A bG9 H9.Ab.R H9.Ab.Z rfl rfl rfl rfl (AU _ _ _) (Lb T) Xl Xl Xl Xl Xl rfl rfl rfl rfl rfl rfl Za7 Za7 ?_;intro gB Oj Og Gn;go_wp2_with fail;refine Bc (Ba rfl Ar Du rfl rfl Oj Og rfl rfl) rfl ?_;exact ⟨tn,E,T,rfl,Gn.Av H9.Av Xl Xl,Oe,fun h=>(O9 h).Tm Gn H9.Ab.R H9.Ab.Z⟩
 ·exact Zl0
):p:=h
theorem oM (s:List UInt8) (t0:Nat) (above:Int) (w:World) (hs:s.length≤140737488351232) (ht0:t0≤s.length) (ha:AZ above):
 Calls prog 156 #[Iz s t0 0,.int .i64 above] w (Au5 s (ED above (s.drop t0)) w):=by
 obtain ⟨l0,hl0⟩:∃ l0,l0=s.drop t0:=⟨_,rfl⟩;have HT:=Aa (fun w=>WL s t0 12 hs ht0 Xl Xl w);rw [←hl0] at HT;rw [←hl0];clear hl0;have a0':=ha.1;have a1':=ha.2;have H0:Hid (fM w s t0 0 [] (.slice none 0 0) [] (.slice none 0 0) [] ((((w.alloc (.cells (DY s t0 0) 141)).alloc (.cells #[.string ⟨#[]⟩,.int .i64 0,.int .i64 0] 141)).alloc (.cells #[.string ⟨#[]⟩,.slice none 0 0,.slice none 0 0] 75)).alloc (.cells #[.string ⟨#[]⟩,.slice none 0 0,.slice none 0 0] 75))):=by
  refine ⟨((((Ai.refl w).alloc _).alloc _).alloc _).alloc _,(((Bh.new w _ _).alloc _).alloc _).alloc _,?_,?_,?_,⟨rfl,.inl ⟨rfl,rfl⟩⟩,⟨rfl,.inl ⟨rfl,rfl⟩⟩⟩
  ·have:=((Bh.new (w.alloc (.cells (DY s t0 0) 141)) 141 #[.string ⟨#[]⟩,.int .i64 0,.int .i64 0]).alloc (.cells #[.string ⟨#[]⟩,.slice none 0 0,.slice none 0 0] 75)).alloc (.cells #[.string ⟨#[]⟩,.slice none 0 0,.slice none 0 0] 75);simpa only [Gf] using this
  ·have:=(Bh.new ((w.alloc (.cells (DY s t0 0) 141)).alloc (.cells #[.string ⟨#[]⟩,.int .i64 0,.int .i64 0] 141)) 75 #[.string ⟨#[]⟩,.slice none 0 0,.slice none 0 0]).alloc (.cells #[.string ⟨#[]⟩,.slice none 0 0,.slice none 0 0] 75);simpa only [Gf] using this
  ·have:=Bh.new (((w.alloc (.cells (DY s t0 0) 141)).alloc (.cells #[.string ⟨#[]⟩,.int .i64 0,.int .i64 0] 141)).alloc (.cells #[.string ⟨#[]⟩,.slice none 0 0,.slice none 0 0] 75)) 75 #[.string ⟨#[]⟩,.slice none 0 0,.slice none 0 0];simpa only [Gf] using this
 go_enter func156,ntmps156;go_wp2_with fail;refine (HT _).mono ?_;rintro e w1 hP;obtain ⟨t1,k1,nm,rfl,hb1,hS⟩:=hP.res ([]:List UInt8) rfl (by intro k h;have:=NQ h;omega);have H1:=Aa (H0.more hb1);have Qz:=H1.Ab.A;clear hP hb1 H0 HT;go_upto_region 3 with ((with_reducible refine OS 2 ?_);refine Ae rfl Ar (.tmp 2) (.tmp 13) rfl w.heap.size rfl Qz rfl (DY s t1 k1) rfl rfl (AU _ _ _) ?_;intro w2 MO hg2;have H2:=Aa (H1.Ug hg2 MO);obtain ⟨g0,g1,g2,f0,f1,f2⟩:=H2.Ab.G.three;clear Qz MO hg2 H1);have H3:Hid (fM w s t1 k1 nm (.slice none 0 0) [] (.slice none 0 0) [] (w2.setCell ⟨w.heap.size+1+1+1,0,none⟩ (.string ⟨nm.toArray⟩))):=H2.setG 0 _ uH H2.ts H2.up;generalize w2.setCell ⟨w.heap.size+1+1+1,0,none⟩ (.string ⟨nm.toArray⟩)=w3 at *;obtain ⟨a0,a1,a2,_,_,_⟩:=H3.Ab.A.three;clear H2 g0 g1 g2 f0 f1 f2;go_wp2_with fail;refine (oN above s l0 t1 k1 nm hS hs _).mono ?_;rintro e w4 ⟨t,kk,A,n,c,ts,rfl,hb4,Vh,hown,HI⟩;have H4:=Aa (H3.more hb4);have OW4:=Aa (Kn (base':=w.heap.size+1+1+1+1) hown (by have:=H3.Ab.G.lt;omega));have bA4:=H4.Ab.A;clear a0 a1 a2 hb4 H3 hS hown;go_upto_region 4 with ((with_reducible refine OS 2 ?_);refine Ae rfl Ar (.tmp 2) (.tmp 19) rfl w.heap.size rfl bA4 rfl (DY s t kk) rfl rfl (AU _ _ _) ?_;intro w5 bA5 hg5;have H5:=Aa (H4.Ug hg5 bA5);have OW5:=Aa (OW4.kept hg5 (FZ OW4 Xl));obtain ⟨g0,g1,g2,f0,f1,f2⟩:=H5.Ab.G.three;clear bA4 bA5 hg5 H4 OW4);have H6:Hid (fM w s t kk nm (.slice A n c) ts (.slice none 0 0) [] (w5.setCell ⟨w.heap.size+1+1+1,1,none⟩ (.slice A n c))):=H5.setG 1 _ uH OW5 H5.up;generalize w5.setCell ⟨w.heap.size+1+1+1,1,none⟩ (.slice A n c)=w6 at *;clear H5 g0 g1 g2 f0 f1 f2 OW5;go_wp2_with fail
 go_loopg [7] n (fun gg i wr=>∃ (k:Nat) (u:Value) (ups:List Int) (t kk:Int),gg=n - k∧k≤n∧k≤200∧i=.int .i64 k∧Hid (ups.length=k)∧Hid (fM w s t kk nm (.slice A n c) ts u ups wr)∧Hid (Wj above s l0 nm ts n ups (if 0<above then n - k else 0) t kk));case atStart=>exact ⟨0,_,[],t,kk,rfl,Xl,Xl,rfl,rfl,H6,HI⟩
 case round=>
  clear H6 HI;obtain ⟨k,u,ups,t,kk,BR,hk,hk2,rfl,hdk,H,hI⟩:=hrel;have Cs:=Aa BR;clear BR;obtain ⟨a0,a1,a2,_,_,_⟩:=H.Ab.A.three;obtain ⟨g0,g1,g2,f0,f1,f2⟩:=H.Ab.G.three;by_cases h0:0<above
  ·have d0:decide ((0:Int)<above)=true:=by simp;omega
   by_cases hlt:k<n
   ·by_cases hkk:kk=0
    ·subst hkk;obtain ⟨x1,x2,x3,x4,x5,_,tn,rfl,htn,hE⟩:=hI.good rfl;rw [Al h0] at hE;have Kv:=Aa (fun t kk x hS=>Wj.step (t:=t) (kk:=kk) (x:=x) x1 x2 x3 x4 x5 h0 a1' hlt hE hS);have wa:IntKind.i64.wrap (above - 1)=above - 1:=IB _ Xl;have rG:n≤200:=x4;clear x1 x2 x3 x4 x5 hE hI g0;go_wp2_with fail;refine (Ry s tn (above - 1) hs htn Xl Xl _).mono ?_;rintro e w7 hP;obtain ⟨t',k',x,rfl,Pz,hS⟩:=hP.res (0:Nat) rfl (by intro k h;have:=EE h;omega);have HInv:=Aa (Kv _ _ _ hS.Ab);have H7:=Aa (H.more Pz);have q8:=Bh.new w7 141 (DY s t' k');have H8:=Aa (H7.more ((Ai.refl _).alloc (.cells (DY s t' k') 141)));have hz7:=H7.Ab.G.lt;clear hP Pz hS Kv a0 a1 a2 g1 g2 f0 f1 f2 H wa H7;go_wp2_with (first|((with_reducible refine OS 8 ?_);refine DX Ar (DY s t' k') (AU _ _ _) ?_)|((with_reducible refine OP 45 ?_);refine CY rfl Ar (.tmp 8) rfl w7.heap.size rfl q8 rfl ?_)|((with_reducible refine OS 2 ?_);refine Ae rfl Ar (.tmp 2) (.tmp 45) rfl w.heap.size rfl H8.Ab.A rfl (DY s t' k') rfl rfl (AU _ _ _) ?_;intro w9 bA9 fD;have H9:=Aa (H8.Ug fD bA9);obtain ⟨g0,g1,g2,_,_,_⟩:=H9.Ab.G.three;have hz9:=H9.Ab.G.lt;clear bA9 fD q8 H8)|((with_reducible refine OP 50 ?_);refine Az rfl (.tmp 47) (.tmp 49) _ rfl LM (w.heap.size+1+1+1+1) Za3 u ups.length _ rfl (H9.more ((Ai.refl _).alloc _)).up _ 1 1 [.int .i64 (x:Nat)] rfl (Ik _ _ _ 1 1 rfl) Za2 Zd6 Zd7 ?_;intro u10 gB xP hg10 Av9;obtain ⟨H10',bG10⟩:=(H9.more ((Ai.refl _).alloc _)).app xP hg10;have H10:=Aa H10';obtain ⟨y0,y1,y2,z0,z1,z2⟩:=bG10.three;obtain ⟨A10,c10,rfl,_⟩:=Ao xP;clear H10' bG10 g0 g1 g2 hg10 Av9 xP));go_roundg (n - (k+1));case rel=>exact ⟨k+1,_,ups++[(x:Int)],t',k',rfl,Xl,Xl,by go_num,by show _=_;have:=hdk.Ab;simp [this],H10,HInv⟩
     case measure=>rw [Cs.Ab];omega
    ·have hkk':=Aa hkk;obtain ⟨A2,c2,rfl,_⟩:=Ao H.up;obtain ⟨T,hT⟩:∃ T:Bt,T=⟨nm,⟨A,n,c,ts⟩,⟨A2,ups.length,c2,ups⟩⟩:=⟨_,rfl⟩;have Tk:T.Ac=⟨nm,ts,ups⟩:=by subst hT;rfl
     have hTs:T.cs=#[.string ⟨nm.toArray⟩,.slice A n c,.slice A2 ups.length c2]:=by subst hT;rfl
     have HOW:Hid (kk=0→EH w.heap.size T wr):=by intro h0;obtain ⟨x1,x2,x3,x4,x5,x6,_⟩:=(hI.good h0);subst hT;exact ⟨by have:=H.ts;rw [Vh.Ab] at this;exact Kn this Xl,Kn H.up Xl,x1,x2,x3,x4,by show ups.length≤200;have:=hdk.Ab;omega⟩
     have bG:=H.Ab.G;rw [←hTs] at bG;have HTC:=Aa Tk;clear hT hTs;by_cases hk0:kk=0
     ·exact absurd hk0 hkk
     ·exact Zl0
   ·have dl:decide ((k:Int)<n)=false:=by simp;omega
    have dl2:decide (k<n)=false:=by simp;omega
    have hdone:¬ 0<above∨(if 0<above then n - k else 0)=0:=.inr (by rw [Al h0];omega);exact Zi2
  ·have d0:decide ((0:Int)<above)=false:=by simp;omega
   have hdone:¬ 0<above∨(if 0<above then n - k else 0)=0:=.inl h0;exact Zi2
structure DC where
 nm:List UInt8
 Bi:List TC
deriving DecidableEq
def Cq:List TC→Int
 |[]=>0
 |t::_=>t.ts.length
def Ff:List (List UInt8)→List TC→Int
 |_,[]=>0
 |seen,t::r=>if Bo t (Cq r)≠0 then Bo t (Cq r) else if t.nm ∈ seen then 11 else Ff (seen++[t.nm]) r
def BD (d:DC):Int:=if DJ d.nm then (if d.Bi.length<1∨4<d.Bi.length then 5 else Ff [] d.Bi) else 2
def DK (d:DC):List UInt8:=Dc d.nm++Cx d.Bi.length++d.Bi.reverse.flatMap Cz
def Jl:Nat→List TC→List UInt8→PR (List TC)
 |0,acc,l=>.ok (acc,l)
 |n+1,acc,l=>
  match ED (Cq acc) l with
  |.error k=>.error k
  |.ok (t,r)=>Jl n (t::acc) r
def RL (d:DC) (r:List UInt8):PR DC:=if BD d=0 then .ok (d,r) else .error (BD d)
def FY (l:List UInt8):PR DC:=
 match Dp 12 l with
 |.error k=>.error k
 |.ok (nm,r)=>
  match DD 4 r with
  |.error k=>.error k
  |.ok (n,r)=>
   match Jl n [] r with
   |.error k=>.error k
   |.ok (Bi,r)=>RL ⟨nm,Bi⟩ r
def Iu:List TC→Prop
 |[]=>True
 |t::r=>Bo t (Cq r)=0∧Iu r
def mZ:List TC→List TC→Prop
 |_,[]=>True
 |acc,t::rs=>Bo t (Cq acc)=0∧mZ (t::acc) rs
theorem Wh {ms acc:List TC} (h:Iu (ms++acc)):Iu acc:=by
 induction ms with
 |nil=>exact h
 |cons t ms ih=>exact ih h.2
theorem S9 {rs:List TC}:∀ {acc:List TC},Iu (rs.reverse++acc)→mZ acc rs:=by
 induction rs with
 |nil=>intro acc h;trivial
 |cons t rs ih=>
  intro acc h;rw [List.reverse_cons,Ef] at h;exact ⟨(Wh h).1,ih h⟩
theorem Gq {Bi:List TC}:∀ {seen:List (List UInt8)},Ff seen Bi=0→Iu Bi:=by
 induction Bi with
 |nil=>intro seen h;trivial
 |cons t r ih=>
  intro seen h;rw [Ff] at h;split at h
  ·rename_i h1;exact absurd h h1
  ·rename_i h1;split at h
   ·cases h
   ·exact ⟨Xl,ih h⟩
theorem ER {d:DC} (h:BD d=0):DJ d.nm=true∧1≤d.Bi.length∧d.Bi.length≤4∧Ff [] d.Bi=0:=by
 unfold BD at h;split at h
 ·rename_i h1;split at h
  ·cases h
  ·rename_i h2;exact ⟨h1,Xl,Xl,h⟩
 ·cases h
theorem zF {Bi:List TC} (h:Iu Bi):Cq Bi≤9223372036854775807:=by
 cases Bi with
 |nil=>show (0:Int)≤_;omega
 |cons t r=>
  have:=(EK h.1).2.2.1;show ((t.ts.length:Nat):Int)≤_;omega
theorem P8 {rs:List TC}:∀ {acc:List TC} (r:List UInt8),mZ acc rs→Iu acc→Jl rs.length acc (rs.flatMap Cz++r)=.ok (rs.reverse++acc,r):=by
 induction rs with
 |nil=>intro acc r h ha;rfl
 |cons t rs ih=>
  intro acc r h ha;rw [En,Jl,Df,Ef,O1 (zF ha) h.1];simp only;rw [ih r h.2 ⟨h.1,ha⟩];simp
theorem Af6 {d:DC} (h:BD d=0) (r:List UInt8):FY (DK d++r)=.ok (d,r):=by
 obtain ⟨h1,h2,h3,h4⟩:=ER h;have hl:=Ev h1;have e:DK d++r=Dc d.nm++(Cx d.Bi.length++(d.Bi.reverse.flatMap Cz++r)):=by unfold DK;simp only [Ef]
 unfold FY;rw [e,kX Xl Xl];simp only;rw [RG Xl Xl];simp only;have hd:mZ [] d.Bi.reverse:=S9 (by simpa using Gq h4);have:=P8 r hd trivial;rw [List.length_reverse,List.reverse_reverse,EO] at this;rw [this];simp only;unfold RL;rw [Al h]
theorem wY {n:Nat}:∀ {acc Bi:List TC} {l r:List UInt8},Jl n acc l=.ok (Bi,r)→∃ ms:List TC,Bi=ms++acc∧ms.length=n∧l=ms.reverse.flatMap Cz++r:=by
 induction n with
 |zero=>
  intro acc Bi l r h;injection h with h;injection h with h1 h2;subst h1;subst h2;exact ⟨[],rfl,rfl,rfl⟩
 |succ n ih=>
  intro acc Bi l r h;rw [Jl] at h;split at h
  ·cases h
  ·rename_i t r1 h1;obtain ⟨ms,e1,e2,e3⟩:=ih h;refine ⟨ms++[t],?_,by simp [e2],?_⟩
   ·rw [e1];simp
   ·rw [(wU h1).2,e3];simp
theorem Q3 {l r:List UInt8} {d:DC} (h:FY l=.ok (d,r)):BD d=0∧l=DK d++r:=by
 unfold FY at h;split at h
 ·cases h
 ·rename_i nm r1 h1;split at h
  ·cases h
  ·rename_i n r2 h2;split at h
   ·cases h
   ·rename_i Bi r3 h3;unfold RL at h;split at h
    ·rename_i h4;injection h with h;injection h with h5 h6;subst h5;subst h6;refine ⟨h4,?_⟩;obtain ⟨ms,e1,e2,e3⟩:=wY h3;rw [EO] at e1;subst e1;unfold DK;rw [KN h1,Fy h2,e3,e2];simp only [Ef]
    ·cases h
theorem fF (Bi:List TC):∀ seen,Ff seen Bi=0∨Ff seen Bi=2∨Ff seen Bi=4∨Ff seen Bi=5∨Ff seen Bi=11∨Ff seen Bi=14:=by
 induction Bi with
 |nil=>intro seen;exact .inl rfl
 |cons t r ih=>
  intro seen;rw [Ff];have:=Kh t (Cq r);split
  ·omega
  ·split
   ·omega
   ·exact ih _
theorem mF (d:DC):BD d=0∨BD d=2∨BD d=4∨BD d=5∨BD d=11∨BD d=14:=by
 unfold BD;have:=fF d.Bi [];split
 ·split
  ·omega
  ·exact this
 ·omega
abbrev Dm.Ac (d:Dm):DC:=⟨d.nm,d.tr.l.map Bt.Ac⟩
theorem Zr5 {p:Prop} (h:p:=by show _=_;obtain ⟨hk',he⟩:=CB.1 ht;rw [Eg (by simpa using hk')];simp only [List.getElem_map,Cq];have:=htr.ts.len;simp only at hk' he;rw [he];show ((t.ts.l.length:Nat):Int)=_;rw [this]):p:=h
theorem Zb1 {p:Prop} (h:p:=by have:=hlen.Ab;simp;omega):p:=h
theorem dA (d:Dm) (k:Nat) (w:World) (hd:d.rd w) (hk:k<d.tr.n) (hn:d.tr.n≤1000000):
 Calls prog 174 #[.agg d.cs,.int .i64 k] w fun e w'=>e=.returned (.int .i64 (Cq ((d.tr.l.map Bt.Ac).drop (k+1))))∧Ai w w':=by
 have hW:=(Ai.refl w).alloc (.cells d.cs 73);have h1:=hd.mono hW;have hlen:Hid (d.tr.l.length=d.tr.n):=hd.tr.len;obtain ⟨nm,⟨A,n,c,Bi⟩⟩:=d;simp only [Dm.cs] at *;have HD:=Aa h1.tr;have HW:=Aa hW;have wk:IntKind.i64.wrap ((k:Int)+1)=(k:Int)+1:=IB _ Xl;clear hW h1 hd;by_cases hlt:k+1<n
 ·obtain ⟨b,o,t,hA,hb,ht,htr,hrg⟩:=HD.JO (k:=k+1) hlt;simp only at hA;subst hA;have hc:=hrg 1 _ rfl;have HR:Hid (Cq ((Bi.map Bt.Ac).drop (k+1))=(t.ts.n:Int)):=by
   exact Zr5
  have i1:((k:Int)+1).toNat=k+1:=by omega
  have i2:(0:Int)≤(k:Int)+1:=by omega
  have i3:(k:Int)+1<n:=by omega
  have d1:decide (((k:Int)+1<(n:Int)))=true:=by simp;omega
  clear ht hrg;go_enter func174,ntmps174;go_wp2;go_ret;rw [HR.Ab];exact ⟨rfl,HW.Ab⟩
 ·have HR:Hid (Cq ((Bi.map Bt.Ac).drop (k+1))=0):=by
   show _=_;rw [EN Zb1]
   rfl
  have d1:decide (((k:Int)+1<(n:Int)))=false:=by simp;omega
  have hnn:(n:Int)≤(k:Int)+1:=by omega
  go_enter func174,ntmps174;go_wp2;go_ret;rw [HR.Ab];exact ⟨rfl,HW.Ab⟩
theorem pO (d:Dm) (k:Nat) (w:World) (hd:d.rd w) (hk:k<d.tr.n) (hn:d.tr.n≤1000000):
 Calls prog 84 #[.agg d.cs,.int .i64 k] w fun e w'=>e=.returned (.int .i64 (Cq ((d.tr.l.map Bt.Ac).drop (k+1))))∧Ai w w':=by
 have hW:=(Ai.refl w).alloc (.cells d.cs 73);have h1:=hd.mono hW;have hlen:Hid (d.tr.l.length=d.tr.n):=hd.tr.len;obtain ⟨nm,⟨A,n,c,Bi⟩⟩:=d;simp only [Dm.cs] at *;have HD:=Aa h1.tr;have HW:=Aa hW;have wk:IntKind.i64.wrap ((k:Int)+1)=(k:Int)+1:=IB _ Xl;clear hW h1 hd;by_cases hlt:k+1<n
 ·obtain ⟨b,o,t,hA,hb,ht,htr,hrg⟩:=HD.JO (k:=k+1) hlt;simp only at hA;subst hA;have hc:=hrg 1 _ rfl;have HR:Hid (Cq ((Bi.map Bt.Ac).drop (k+1))=(t.ts.n:Int)):=by
   exact Zr5
  have i1:((k:Int)+1).toNat=k+1:=by omega
  have i2:(0:Int)≤(k:Int)+1:=by omega
  have i3:(k:Int)+1<n:=by omega
  have d1:decide (((n:Int)≤(k:Int)+1))=false:=by simp;omega
  clear ht hrg;go_enter func84,ntmps84;go_wp2;go_ret;rw [HR.Ab];exact ⟨rfl,HW.Ab⟩
 ·have HR:Hid (Cq ((Bi.map Bt.Ac).drop (k+1))=0):=by
   show _=_;rw [EN Zb1]
   rfl
  have d1:decide (((n:Int)≤(k:Int)+1))=true:=by simp;omega
  have hnn:(n:Int)≤(k:Int)+1:=by omega
  go_enter func84,ntmps84;go_wp2;go_ret;rw [HR.Ab];exact ⟨rfl,HW.Ab⟩
def JP (xs:List (List UInt8)):List Lit:=xs.map Lit.string
theorem iQ (xs:List (List UInt8)):∀ x ∈ JP xs,WideAt.IsKeyLit x:=by
 intro x hx;obtain ⟨y,_,rfl⟩:=Kc.1 hx
 trivial
theorem OO (xs:List (List UInt8)) (x:List UInt8):(Maps.setOf Nl (JP xs)).atKey (.string x) (.lit (.int .i64 0))=.lit (.int .i64 (if x ∈ xs then 1 else 0)):=by
 have key:∀ ys:List (List UInt8),(Maps.setOf Nl (JP ys.reverse)).atKey (.string x) (.lit (.int .i64 0))=.lit (.int .i64 (if x ∈ ys then 1 else 0)):=by
  intro ys;induction ys with
  |nil=>rfl
  |cons y ys ih=>
   have e:JP (y::ys).reverse=JP ys.reverse++[.string y]:=by unfold JP;simp
   rw [e,Maps.setOf_snoc];by_cases h:x=y
   ·subst h;rw [Maps.atKey_put_same (Maps.tidy_setOf _ _ (iQ _)).isMap (show WideAt.IsKeyLit (.string x) from trivial)];simp
   ·rw [Maps.atKey_put_other (by intro e;injection e with e;exact h e),ih];simp [h]
 have:=key xs.reverse;simpa using this
theorem Sz (xs:List (List UInt8)) (x:List UInt8) (v c:Int) (h:((Maps.setOf Nl (JP xs)).put (.string x) (.lit (.int .i64 v))).atKey (.string x) (.lit (.int .i64 0))=.lit (.int .i64 c)):c=v:=by
 rw [Maps.atKey_put_same (Maps.tidy_setOf _ _ (iQ _)).isMap (show WideAt.IsKeyLit (.string x) from trivial)] at h;injection h with h;injection h with _ h;exact h.symm
theorem VX {Bi:List TC} {k:Nat} {t:TC} {seen:List (List UInt8)} (h:Bi[k]?=some t):Ff seen (Bi.drop k)=if Bo t (Cq (Bi.drop (k+1)))≠0 then Bo t (Cq (Bi.drop (k+1))) else if t.nm ∈ seen then 11 else Ff (seen++[t.nm]) (Bi.drop (k+1)):=by
 obtain ⟨hk,rfl⟩:=CB.1 h;rw [Eg hk,Ff]
theorem Mm (w:World):(zeroValue 3).run prog w=.ok (.int .i64 0) w:=by kernel_rfl
theorem Zv9 {p:Prop} (h:p:=by have h2:v.ts.l.length=v.ts.n:=Row.rd.len (Bt.rd.ts h1);have h3:=(Bt.rd.ts h1).n63;simp only [Cq];omega):p:=h
theorem Sc (d:Dm) (w:World) (hd:d.rd w) (hn:d.tr.n≤1000000) (hu:∀ t ∈ d.tr.l,t.up.n≤100000):
 Calls prog 134 #[.agg d.cs] w fun e w'=>e=.returned (.int .i64 (BD d.Ac))∧Ai w w':=by
 have uS:=Aa (fun k (hk:k<d.tr.n) w' (hb:Ai w w')=>dA d k w' (hd.mono hb) hk hn);have hW:=(Ai.refl w).alloc (.cells d.cs 73);have hlen:Hid (d.tr.l.length=d.tr.n):=hd.tr.len;have hnm:=hd.nm;have HD:=Aa hd.tr;have HU:=Aa hu;have hmm:=@run_makeMap prog;obtain ⟨nm,⟨A,n,c,Bi⟩⟩:=d;simp only [Dm.cs,Dm.Ac] at *;have HW:=Aa hW;clear hW hd hu;cases hN:DJ nm with
 |false=>
  have HE:Hid (BD ⟨nm,Bi.map Bt.Ac⟩=2):=by show _=_;unfold BD;simp [hN]
  go_enter func134,ntmps134;go_wp2_with fail;refine (Mx nm _ Xl).mono ?_;rintro e w1 ⟨rfl,rfl⟩;rw [hN,show PD false=2 from rfl];go_wp2;go_ret;rw [HE.Ab];exact ⟨rfl,HW.Ab⟩
 |true=>
  by_cases hl:1≤n∧n≤4
  ·obtain ⟨hl1,hl2⟩:=hl;have d1:decide ((n:Int)<1)=false:=by simp;omega
   have d2:decide ((4:Int)<n)=false:=by simp;omega
   have Ng:Hid (BD ⟨nm,Bi.map Bt.Ac⟩=Ff ((Bi.map Bt.nm).take 0) ((Bi.map Bt.Ac).drop 0)):=by
    show _=_;unfold BD;simp only [hN,Gu,CQ];rw [Ak Za9]
    rfl
   have q0:=Bh.new w 73 #[.string ⟨nm.toArray⟩,.slice A n c];go_enter func134,ntmps134;go_wp2_with fail;refine (Mx nm _ Xl).mono ?_;rintro e w1 ⟨rfl,rfl⟩;rw [hN,show PD true=0 from rfl];go_wp2_with fail;have M0:Hid (((w.alloc (.cells #[.string ⟨nm.toArray⟩,.slice A n c] 73)).alloc (.map #[] 0)).ownsMap prog 9 (plainElem (H:=Unit) prog 3) (w.heap.size+1) 0 (Maps.setOf Nl (JP ((Bi.map Bt.nm).take 0)))):=by
    have:=World.ownsMap_made (H:=Unit) (w.alloc (.cells #[.string ⟨nm.toArray⟩,.slice A n c] 73)) prog 9 (plainElem prog 3);rw [Gf] at this;exact this
   have B0:=Aa (HW.alloc (.map #[] 0));have Q0:=Aa (q0.alloc (.map #[] 0));clear q0 d1 d2 HW;go_loopg [28] n (fun gg i wr=>∃ k:Nat,gg=n - k∧k≤n∧i=.int .i64 k∧Hid (wr.ownsMap prog 9 (plainElem (H:=Unit) prog 3) (w.heap.size+1) k (Maps.setOf Nl (JP ((Bi.map Bt.nm).take k))))∧Hid (Ai w wr)∧Hid (Bh wr w.heap.size 73 #[.string ⟨nm.toArray⟩,.slice A n c])∧Hid (BD ⟨nm,Bi.map Bt.Ac⟩=Ff ((Bi.map Bt.nm).take k) ((Bi.map Bt.Ac).drop k)));case atStart=>exact ⟨0,rfl,Xl,rfl,M0,B0,Q0,Ng⟩
   case round=>
    clear M0 B0 Q0 Ng;obtain ⟨k,BR,hk,rfl,hM,hB,hQ,hE⟩:=hrel;have Cs:=Aa BR;clear BR;by_cases hlt:k<n
    ·obtain ⟨bb,oo,t,hA,hbb,ht,htr,hrg⟩:=(HD.mono hB.Ab).JO (k:=k) hlt;simp only at hA;subst hA;have HT:=Aa ht;have HRG:=Aa hrg;have F3:=Aa htr;have hup:=HU t (CU ht);have hnm2:=htr.nm;have F5:Hid ((⟨t.nm.toArray⟩:ByteArray).size≤maxLen):=by show _≤_;unfold maxLen;simp [ByteArray.size];omega
     have htc:(Bi.map Bt.Ac)[k]?=some t.Ac:=by rw [Ed,ht];(try rfl)
     have htn:(Bi.map Bt.nm)[k]?=some t.nm:=by rw [Ed,ht];(try rfl)
     have HS:=Aa (VX (seen:=(Bi.map Bt.nm).take k) htc);have Tg:Hid ((Bi.map Bt.nm).take (k+1)=(Bi.map Bt.nm).take k++[t.nm]):=by
      show _=_;obtain ⟨hk',he⟩:=CB.1 htn;rw [Rh hk',he]
     have hab:AZ (Cq ((Bi.map Bt.Ac).drop (k+1))):=by
      unfold AZ;cases hdr:(Bi.map Bt.Ac).drop (k+1) with
      |nil=>simp [Cq]
      |cons u r=>
       have hm:u ∈ (Bi.map Bt.Ac):=Tx (i:=k+1) (by rw [hdr];exact Gg ..);obtain ⟨v,hv,rfl⟩:=Kc.1 hm;have h1:=(HD.all v hv);exact Zv9
     have z2:=Aa (Bh.new wr 75 t.cs);have Q2:=Aa (hQ.alloc (.cells t.cs 75));have B2:=Aa (hB.alloc (.cells t.cs 75));have M2:=Aa (hM.alloc (.cells t.cs 75));have HTR2:=Aa (htr.mono ((Ai.refl wr).alloc (.cells t.cs 75)));have hmz:=hM.lt;have hqz:=hQ.lt;clear ht hrg htr htc htn hM hB hQ hbb;go_wp2_with (first|((with_reducible refine OP 32 ?_);refine Af rfl Du (.tmp 31) rfl bb (oo+k * 3) rfl t.cs rfl HRG.Ab ?_)|((with_reducible refine OS 6 ?_);refine DX Du t.cs (Lb t) ?_));generalize hAB:Cq ((Bi.map Bt.Ac).drop (k+1))=ab at *;have HAB1:Hid (∀ w',Ai w w'→Calls prog 174 #[.agg #[.string ⟨nm.toArray⟩,.slice (some ⟨bb,oo,none⟩) n c],.int .i64 k] w' fun e w''=>e=.returned (.int .i64 ab)∧Ai w' w''):=by
      intro w' hb;have:=uS k hlt w' hb;rw [hAB] at this;exact this
     have HABE:=Aa hAB;clear hAB;refine Am ?_;repeat (first
      |((with_reducible show wpQuiet _ _ _ _ (⟨some 33,_,_,_,_,_⟩::_) _);refine Ah rfl Du (.tmp 6) rfl wr.heap.size 0 rfl t.cs rfl z2.lt z2.range ?_;simp only [Act.put,LP])
      |((with_reducible show wpQuiet _ _ _ _ (⟨some 34,_,_,_,_,_⟩::_) _);refine Ah rfl CX (.tmp 1) rfl w.heap.size 0 rfl #[.string ⟨nm.toArray⟩,.slice (some ⟨bb,oo,none⟩) n c] rfl Q2.lt Q2.range ?_;simp only [Act.put,LP])
      |go_big_quiet_step ((first|(go_at_call 174;rename_i u;exact AB (HAB1 _ (B2.trans u.Av)))|(go_at_call 173;rename_i u;exact AB (Rs t ab _ (HTR2.mono u.Av) hup hab)))))
     refine CS ?_;rintro _ ⟨⟨w4,hw4⟩,rfl⟩;have Z4:=Aa (z2.Av hw4);have Q4:=Aa (Q2.Av hw4);have B4:=Aa (B2.trans hw4);have M4:=Aa (M2.kept (EL hw4 none) uH);have s4:=Z4.cell 0;simp only [Re,TE] at s4;try dsimp only
     clear hw4 z2 Q2 B2 M2 HTR2;by_cases hE0:Bo t.Ac ab=0
     ·rw [hE0];by_cases hmem:t.nm ∈ (Bi.map Bt.nm).take k
      ·have HN:Hid (BD ⟨nm,Bi.map Bt.Ac⟩=11):=by show _=_;rw [hE.Ab,HS.Ab,Ak Xl,Al hmem]
       have HA:Hid (∀ c:Int,(Maps.setOf Nl (JP ((Bi.map Bt.nm).take k))).atKey (.string t.nm) (.lit (.int .i64 0))=.lit (.int .i64 c)→c=1):=by
        intro c h;rw [OO,Al hmem] at h;injection h with h;injection h with _ h;exact h.symm
       clear hE HS hE0 hmem;go_wp2_with (first|((with_reducible refine OP 44 ?_);refine Xw _ rfl (.tmp 41) (.tmp 43) 222 rfl 9 3 .i64 (QE underlying9) underlying222 underlying3 (Mm _) (w.heap.size+1) k _ rfl M4 _ (.string t.nm) rfl (QG underlying9 (s:=⟨t.nm.toArray⟩) F5.Ab) ?_;intro c44 rT Ai0;obtain rfl:=HA c44 rT;clear rT Ai0)|((with_reducible show wpList _ _ _ (⟨_,.mapUpdate _ _ _ _,_,_,_,_⟩::_) _ _);refine Zf _ rfl (.tmp 41) (.tmp 43) _ 222 rfl 9 3 (QE underlying9) underlying222 _ (w.heap.size+1) k _ rfl M4 Za4 _ _ (.string t.nm) rfl rfl (QG underlying9 (s:=⟨t.nm.toArray⟩) F5.Ab) (.lit (.int .i64 2)) [] (YV underlying3 (G8 Za5)) ?_;intro w5 hown5 hg5;have M5:=Aa hown5;have z5:=Aa (Z4.grown hg5 Za8);have q5:=Aa (Q4.grown hg5 Za8);have B5:=Aa (B4.DN hg5 Xl);have s5:=z5.cell 0;(simp only [Re,TE] at s5);clear hown5 hg5)|((with_reducible refine OP 49 ?_);refine Xw _ rfl (.tmp 46) (.tmp 48) 222 rfl 9 3 .i64 (QE underlying9) underlying222 underlying3 (Mm _) (w.heap.size+1) (k+1) _ rfl M5 _ (.string t.nm) rfl (QG underlying9 (s:=⟨t.nm.toArray⟩) F5.Ab) ?_;intro c49 rR Ah9;obtain rfl:=(Sz ((Bi.map Bt.nm).take k) t.nm 2 c49 rR);clear rR Ah9));go_ret;rw [HN.Ab];exact ⟨rfl,B5.Ab⟩
      ·have HN:Hid (BD ⟨nm,Bi.map Bt.Ac⟩=Ff ((Bi.map Bt.nm).take (k+1)) ((Bi.map Bt.Ac).drop (k+1))):=by show _=_;rw [hE.Ab,HS.Ab,Ak Xl,Ak hmem,Tg.Ab]
       have HA:Hid (∀ c:Int,(Maps.setOf Nl (JP ((Bi.map Bt.nm).take k))).atKey (.string t.nm) (.lit (.int .i64 0))=.lit (.int .i64 c)→c=0):=by
        intro c h;rw [OO,Ak hmem] at h;injection h with h;injection h with _ h;exact h.symm
       clear hE HS hE0 hmem;go_wp2_with (first|((with_reducible refine OP 44 ?_);refine Xw _ rfl (.tmp 41) (.tmp 43) 222 rfl 9 3 .i64 (QE underlying9) underlying222 underlying3 (Mm _) (w.heap.size+1) k _ rfl M4 _ (.string t.nm) rfl (QG underlying9 (s:=⟨t.nm.toArray⟩) F5.Ab) ?_;intro c44 rT Ai0;obtain rfl:=HA c44 rT;clear rT Ai0)|((with_reducible show wpList _ _ _ (⟨_,.mapUpdate _ _ _ _,_,_,_,_⟩::_) _ _);refine Zf _ rfl (.tmp 41) (.tmp 43) _ 222 rfl 9 3 (QE underlying9) underlying222 _ (w.heap.size+1) k _ rfl M4 Za4 _ _ (.string t.nm) rfl rfl (QG underlying9 (s:=⟨t.nm.toArray⟩) F5.Ab) (.lit (.int .i64 1)) [] (YV underlying3 (G8 Za5)) ?_;intro w5 hown5 hg5;have M5:=Aa hown5;have z5:=Aa (Z4.grown hg5 Za8);have q5:=Aa (Q4.grown hg5 Za8);have B5:=Aa (B4.DN hg5 Xl);have s5:=z5.cell 0;(simp only [Re,TE] at s5);clear hown5 hg5)|((with_reducible refine OP 49 ?_);refine Xw _ rfl (.tmp 46) (.tmp 48) 222 rfl 9 3 .i64 (QE underlying9) underlying222 underlying3 (Mm _) (w.heap.size+1) (k+1) _ rfl M5 _ (.string t.nm) rfl (QG underlying9 (s:=⟨t.nm.toArray⟩) F5.Ab) ?_;intro c49 rR Ah9;obtain rfl:=(Sz ((Bi.map Bt.nm).take k) t.nm 1 c49 rR);clear rR Ah9));go_roundg (n - (k+1));case rel=>exact ⟨k+1,rfl,Xl,by go_num,by show World.ownsMap _ _ _ _ _ _ _;rw [Tg.Ab];unfold JP;rw [Cf];exact (by have:=M5.Ab;rw [←Maps.setOf_snoc] at this;exact this),B5,q5,HN⟩
       case measure=>rw [Cs.Ab];omega
     ·have HN:Hid (BD ⟨nm,Bi.map Bt.Ac⟩=Bo t.Ac ab):=by show _=_;rw [hE.Ab,HS.Ab,Al hE0]
      have dE:(Bo t.Ac ab !=0)=true:=by simpa using hE0
      have dE2:(Bo t.Ac ab==0)=false:=by simpa using hE0
      clear hE HS hE0;go_wp2;go_ret;rw [HN.Ab];exact ⟨rfl,B4.Ab⟩
    ·have HN:Hid (BD ⟨nm,Bi.map Bt.Ac⟩=0):=by show _=_;rw [hE.Ab,EN Zb1];(try rfl)
     clear hE;go_wp2;go_ret;rw [HN.Ab];exact ⟨rfl,hB.Ab⟩
  ·have HE:Hid (BD ⟨nm,Bi.map Bt.Ac⟩=5):=by
    show _=_;unfold BD;simp only [hN,Gu,CQ];rw [Al Za9]
   rcases (show n<1∨(1≤n∧4<n) by omega) with h|⟨h,h'⟩;all_goals
    first|(have d1:decide ((n:Int)<1)=true:=by simp;omega)|(have d1:decide ((n:Int)<1)=false:=by simp;omega)
    first|(have d2:decide ((4:Int)<n)=true:=by simp;omega)|(have d2:decide ((4:Int)<n)=false:=by simp;omega)
    clear hl;go_enter func134,ntmps134;go_wp2_with fail;refine (Mx nm _ Xl).mono ?_;rintro e w1 ⟨rfl,rfl⟩;rw [hN,show PD true=0 from rfl];go_wp2;go_ret;rw [HE.Ab];exact ⟨rfl,HW.Ab⟩
def Bt.D (T:Bt) (g:Nat):Prop:=T.ts.v.ownBlock=some g∨T.up.v.ownBlock=some g
abbrev RF (T:Bt):FM:=⟨T.D,EH 0 T⟩
theorem Ma {base:Nat} {T:Bt} {w:World} (h:EH base T w):(RF T).holds w:=by
 have h1:=Jg h.ts;have h2:=Jg h.up;refine ⟨fun g hg=>hg.elim (h1.1 g) (h2.1 g),fun w' hs hk=>⟨h1.2 w' hs fun g hg=>hk g (.inl hg),h2.2 w' hs fun g hg=>hk g (.inr hg),h.nm,h.tl,h.ul,h.tn,h.un⟩⟩
theorem zP {base:Nat} {T:Bt} {w:World} (h:EH base T w):∀ g,T.D g→base≤g:=fun g hg=>hg.elim (Jh h.ts) (Jh h.up)
def C8 (l:List Bt) (w:World):Prop:=∀ T ∈ l,EH 0 T w
abbrev RD (l:List Bt):FM:=⟨fun g=>∃ T,T ∈ l∧T.D g,C8 l⟩
theorem RZ (w:World):(RD []).holds w:=⟨fun g ⟨T,hT,_⟩=>(by cases hT),fun w' _ _ T hT=>by cases hT⟩
theorem QN {T:Bt} {l:List Bt} {w:World} (h1:(RF T).holds w) (h2:(RD l).holds w):(RD (T::l)).holds w:=by
 refine ⟨fun g ⟨U,hU,hg⟩=>?_,fun w' hs hk U hU=>?_⟩
 ·rcases FJ.1 hU with rfl|hU
  ·exact h1.1 g hg
  ·exact h2.1 g ⟨U,hU,hg⟩
 ·rcases FJ.1 hU with rfl|hU
  ·exact h1.2 w' hs fun g hg=>hk g ⟨U,Gg ..,hg⟩
  ·exact h2.2 w' hs (fun g ⟨V,hV,hg⟩=>hk g ⟨V,Ii _ hV,hg⟩) U hU
theorem XD {T:Bt} {l:List Bt}:∀ g,(RD (T::l)).D g→(RD l).D g∨(RF T).D g:=fun g ⟨U,hU,hg⟩=>by
 rcases FJ.1 hU with rfl|hU
 ·exact .inr hg
 ·exact .inl ⟨U,hU,hg⟩
structure Ym (d:Dm) (w:World):Prop where
 nm:d.nm.length≤12
 tr:w.ownsRow 0 75 3 (.slice d.tr.A d.tr.n d.tr.c) d.tr.n (d.tr.l.flatMap AY.cells)
 ts:C8 d.tr.l w
 n4:d.tr.n≤4
def Dm.D (d:Dm) (g:Nat):Prop:=d.tr.v.ownBlock=some g∨∃ T,T ∈ d.tr.l∧T.D g
abbrev Vb (d:Dm):FM:=⟨d.D,Ym d⟩
theorem Ym.rd {d:Dm} {w:World} (h:Ym d w):d.rd w:=
 ⟨by have:=h.nm;omega,Rd.BC h.tr,fun T hT=>(h.ts T hT).rd,by have:=h.n4;omega⟩
theorem Ym.up {d:Dm} {w:World} (h:Ym d w):∀ t ∈ d.tr.l,t.up.n≤200:=fun t ht=>(h.ts t ht).un
theorem Ym.tn {d:Dm} {w:World} (h:Ym d w):∀ t ∈ d.tr.l,t.ts.n≤200:=fun t ht=>(h.ts t ht).tn
theorem bF {nm:List UInt8} {A:Option Addr} {n c:Nat} {l:List Bt} {w:World} (hn:nm.length≤12) (h4:n≤4) (h1:(Ce 75 3 (.slice A n c) n (l.flatMap AY.cells)).holds w) (h2:(RD l).holds w):(Vb ⟨nm,⟨A,n,c,l⟩⟩).holds w:=
 ⟨fun g hg=>hg.elim (h1.1 g) (h2.1 g),fun w' hs hk=>⟨hn,h1.2 w' hs fun g hg=>hk g (.inl hg),h2.2 w' hs fun g hg=>hk g (.inr hg),h4⟩⟩
abbrev Dm.nil:Dm:=⟨[],⟨none,0,0,[]⟩⟩
abbrev DC.nil:DC:=⟨[],[]⟩
def UY (w w':World) (r:FM):Prop:=r.holds w'∧∀ g,r.D g→w.heap.size≤g
def Au9 (b:Nat) (s:List UInt8) (o:PR DC) (w:World) (e:Ending) (w':World):Prop:=
 match o with
 |.error k=>Xm b s k w e w'
 |.ok (d,l)=>∃ D:Dm,e=.returned (.agg D.cs)∧D.Ac=d∧w.grownBy w' (some b)∧Ir w' b s l∧UY w w' (Vb D)
theorem CE (w:World) (t:TypeId) (cs:Array Value) (size:Nat) (hs:cs.size=size):(w.alloc (.cells cs t)).ownsRow w.heap.size t size (.slice (some ⟨w.heap.size,0,none⟩) 1 1) 1 cs.toList:=
 ⟨by simp [hs],.inr ⟨w.heap.size,1,cs,rfl,Ci _,PW w _,Ci _,by unfold maxLen;omega,Xl,by rw [EU (by simp [hs])]⟩⟩
theorem nX (l:List Bt):∀ u ∈ (l.flatMap AY.cells:List Value),u.oneCell'=true:=by
 intro u hu;obtain ⟨T,_,hT⟩:=List.mem_flatMap.1 hu;have:=Lb T;rw [Array.all_eq_true'] at this;exact this u (Array.mem_toList_iff.1 hT)
theorem P9 {n:Nat} {k:Int}:∀ {acc:List TC} {l:List UInt8},Jl n acc l=.error k→k≠0:=by
 induction n with
 |zero=>intro acc l h;cases h
 |succ n ih=>
  intro acc l h;rw [Jl] at h;split at h
  ·rename_i h1;injection h with h;subst h;exact O3 h1
  ·exact ih h
theorem Af7 {k:Int} {l:List UInt8} (h:FY l=.error k):k≠0:=by
 unfold FY at h;split at h
 ·rename_i h1;injection h with h;subst h;have:=NQ h1;omega
 ·split at h
  ·rename_i h1;injection h with h;subst h;have:=EE h1;omega
  ·split at h
   ·rename_i h1;injection h with h;subst h;exact P9 h1
   ·unfold RL at h;split at h
    ·cases h
    ·rename_i h1;injection h with h;subst h;exact h1
theorem Zq0 {p:Prop} (h:p:=by rw [hx] at HT;clear hx;refine HT.mono ?_;rintro e w2 ⟨rfl,hg,l1,hr⟩;replace H:=Aa (H.Cb 0 rfl hg hr);(try simp only [LS] at H);clear hg hr;go_wp2_with fail;refine ⟨rfl,?_⟩;rw [HE.Ab];exact ⟨rfl,H.fr.grown,l1,H.Fv 0 rfl⟩):p:=h
theorem yJ (b:Nat) (s l:List UInt8) (w:World) (hR:Ir w b s l):
 Calls prog 132 #[.pointer (some ⟨b,0,none⟩)] w (Au9 b s (FY l) w):=by
 have hbw:=hR.lt;have H:=Aa ((SL.rdr1 w hR).alloc #[.string ⟨#[]⟩,.slice none 0 0] 73);(try simp only [LS] at H);clear hR;go_enter func132,ntmps132;go_wp2_with fail;generalize w.heap.size=z at *;generalize w.alloc (.cells #[.string ⟨#[]⟩,.slice none 0 0] 73)=w1 at *;have HT:=Aa (NL b s l 12 w1 (H.Fv 0 rfl) Xl Xl);cases hx:Dp 12 l with
 |error k=>
  have HE:Hid (FY l=.error k):=by show _=_;unfold FY;rw [hx]
  exact Zq0
 |ok q=>
  obtain ⟨nm,l1⟩:=q;have hnm:=(Mj hx).1;have HE:Hid (FY l=match DD 4 l1 with|.error k=>.error k|.ok (n,r)=>match Jl n [] r with|.error k=>.error k|.ok (Bi,r)=>RL ⟨nm,Bi⟩ r):=by show _=_;unfold FY;rw [hx];(try rfl)
  rw [hx] at HT;clear hx;refine HT.mono ?_;rintro e w2 ⟨rfl,hg,hr⟩;replace H:=Aa (H.Cb 0 rfl hg hr);(try simp only [LS] at H);clear hg hr HT;go_wp2_with ((with_reducible refine OS 3 ?_);refine DX CX #[.string ⟨nm.toArray⟩,.slice none 0 0] Za2 ?_;replace H:=Aa (H.alloc #[.string ⟨nm.toArray⟩,.slice none 0 0] 73);(try simp only [LS] at H));generalize w2.heap.size=y at *;generalize w2.alloc (.cells #[.string ⟨nm.toArray⟩,.slice none 0 0] 73)=w3 at *;have HT:=Aa (IM b s l1 4 w3 (H.Fv 0 rfl) Xl Xl);cases hx:DD 4 l1 with
  |error k=>
   rw [hx] at HT HE;clear hx;refine HT.mono ?_;rintro e w4 ⟨rfl,hg,l2,hr⟩;replace H:=Aa (H.Cb 0 rfl hg hr);(try simp only [LS] at H);clear hg hr;go_wp2_with fail;refine ⟨rfl,?_⟩;rw [HE.Ab];exact ⟨rfl,H.fr.grown,l2,H.Fv 0 rfl⟩
  |ok q=>
   obtain ⟨n,l2⟩:=q;have hn4:=(ES hx).2.1;rw [hx] at HT HE;clear hx;refine HT.mono ?_;rintro e w4 ⟨rfl,hg,hr⟩;replace H:=Aa (H.Cb 0 rfl hg hr);(try simp only [LS] at H);clear hg hr HT;replace H:=Aa (H.Dw 75 3);(try simp only [LS] at H);replace H:=Aa (H.add (Ai.refl _) _ (RZ w4) (fun g hg=>by obtain ⟨T,hT,_⟩:=hg;cases hT));(try simp only [LS] at H);go_wp2_with fail;have HP0:Hid (Jl n [] l2=Jl (n - 0) (([]:List Bt).map Bt.Ac) l2):=rfl;go_loopg [4,12] n (fun gg s4 s12 wr=>∃ (k:Nat) (acc:List Bt) (A:Option Addr) (c:Nat) (l':List UInt8),gg=n - k∧k≤n∧s12=.int .i64 k∧s4=.int .i64 (Cq (acc.map Bt.Ac))∧Hid (acc.length=k)∧Hid (SL (One b) w wr [Qh b s l',Aw z 73 #[.string ⟨#[]⟩,.slice none 0 0],Aw y 73 #[.string ⟨nm.toArray⟩,.slice A k c],Ce 75 3 (.slice A k c) k (acc.flatMap AY.cells),RD acc])∧Hid (Jl n [] l2=Jl (n - k) (acc.map Bt.Ac) l'));case atStart=>exact ⟨0,[],none,0,l2,rfl,Xl,rfl,rfl,rfl,H,HP0⟩
   case round=>
    clear H HP0;obtain ⟨k,acc,A,c,l',BR,hk,rfl,rfl,hac,H,HP⟩:=hrel;have Cs:=Aa BR;have hk4:k≤4:=by omega
    clear BR;by_cases hlt:k<n
    ·have hab:AZ (Cq (acc.map Bt.Ac)):=by
      unfold AZ;cases acc with
      |nil=>simp [Cq]
      |cons u r=>
       have h1:=(H.at_ 4 rfl) u (Gg ..);have h2:=Row.rd.len (Bt.rd.ts h1.rd);have h3:=h1.tn;show _≤((u.ts.l.length:Nat):Int)∧((u.ts.l.length:Nat):Int)≤_;omega
     have HT:=Aa (vM b s l' (Cq (acc.map Bt.Ac)) wr (H.Fv 0 rfl) hab);have HN:Hid (Jl n [] l2=match ED (Cq (acc.map Bt.Ac)) l' with|.error k=>.error k|.ok (t,r)=>Jl (n - (k+1)) (t::acc.map Bt.Ac) r):=by show _=_;rw [HP.Ab,show n - k=(n - (k+1))+1 by omega,Jl];(try rfl)
     clear HP;generalize hAB:Cq (acc.map Bt.Ac)=ab at *;have uS:=Aa hAB;clear hAB;go_wp2_with fail;cases hx:ED ab l' with
     |error e1=>
      rw [hx] at HT HN;clear hx;refine HT.mono ?_;rintro e w5 ⟨rfl,hg,l3,hr⟩;replace H:=Aa (H.Cb 0 rfl hg hr);(try simp only [LS] at H);clear hg hr;go_wp2_with fail;refine ⟨rfl,?_⟩;rw [HE.Ab,show Jl n [] l2=.error e1 from HN.Ab];exact ⟨rfl,H.fr.grown,l3,H.Fv 0 rfl⟩
     |ok q=>
      obtain ⟨tc,l3⟩:=q;rw [hx] at HT HN;clear hx;refine HT.mono ?_;rintro e w5 ⟨T,rfl,Tk,hg,hr,hown⟩;replace H:=Aa (H.Jf 0 rfl hg hr (RF T) (Ma hown) (fun g hg=>by have:=zP hown g hg;omega));(try simp only [LS] at H);have HTc:=Aa Tk;have hTn:=hown.tn;clear hg hr HT Tk hown;go_wp2_with (first|((with_reducible refine OS 5 ?_);refine DX Du T.cs (Lb T) ?_;replace H:=Aa (H.alloc T.cs 75);(try simp only [LS] at H);have c1:=(H.blk 6 rfl).Ap 1)|((with_reducible refine OP 20 ?_);refine Bf Du (H.blk 6 rfl) ?_)|((with_reducible refine OP 21 ?_);refine AP rfl OV (.tmp 20) rfl T.cs rfl rfl Xl ?_;replace H:=Aa (H.Co ((Ai.refl _).alloc _) (CE _ 75 T.cs 3 rfl));(try simp only [LS] at H);clear c1;have c0:=(H.blk 2 rfl).Ap 1)|((with_reducible refine OP 24 ?_);(refine Az rfl (.tmp 21) (.tmp 23) _ rfl OV 0 (Bj _) _ 1 _ rfl (H.row 7 rfl) A k c (acc.flatMap AY.cells) rfl (Rd.BC (H.row 3 rfl)) (nX acc) Za4 Xl ?_;intro vq wq AJ Aq AQ;replace H:=Aa (H.setRow 7 rfl Aq AJ AQ);(try simp only [LS] at H);clear AJ Aq AQ;obtain ⟨A2,c2,rfl,_⟩:=Ao (H.row 7 rfl);clear c0;have c0:=(H.blk 2 rfl).Ap 1;have f0:=(H.blk 2 rfl).frozen 1)));replace H:=Aa (H.setCell 2 rfl 1 (.slice A2 (1+k) c2));(try simp only [LS] at H);replace H:=Aa (H.both 4 5 Xl rfl rfl (RD (T::acc)) (QN (H.get 5 rfl) (H.get 4 rfl)) XD);(try simp only [LS] at H);replace H:=Aa (H.Fg [0,1,2,6,4] Za1 uH);(try simp only [LS] at H);clear c0 f0;rw [Oo 1 k] at H ⊢;have hAb:T.ts.l.length=T.ts.n:=Row.rd.len (Bt.rd.ts ((H.at_ 4 rfl) T (Gg ..)).rd);have HAbv:Hid (Value.int .i64 T.ts.n=.int .i64 (Cq ((T::acc).map Bt.Ac))):=by
       show _=_;show _=Value.int .i64 ((T.ts.l.length:Nat):Int);rw [hAb]
      have JS:Hid (Jl n [] l2=Jl (n - (k+1)) ((T::acc).map Bt.Ac) l3):=by show _=_;rw [HN.Ab,Em,HTc.Ab]
      clear hAb HN;go_wp2_with fail;go_roundg (n - (k+1));case rel=>exact ⟨k+1,T::acc,A2,c2,l3,rfl,Xl,by go_num,HAbv,by show _=_;rw [En,hac.Ab],H,JS⟩
      case measure=>rw [Cs.Ab];omega
    ·have HN:Hid (FY l=RL ⟨nm,acc.map Bt.Ac⟩ l'):=by show _=_;rw [HE.Ab,HP.Ab,show n - k=0 by omega];(try rfl)
     clear HP HE;replace H:=Aa (H.both 3 4 Xl rfl rfl (Vb ⟨nm,⟨A,k,c,acc⟩⟩) (bF Xl hk4 (H.get 3 rfl) (H.get 4 rfl)) (fun g hg=>hg));(try simp only [LS] at H);obtain ⟨D,hD⟩:∃ D:Dm,D=⟨nm,⟨A,k,c,acc⟩⟩:=⟨_,rfl⟩;have hDs:D.cs=#[.string ⟨nm.toArray⟩,.slice A k c]:=by rw [hD]
     have EW:D.Ac=⟨nm,acc.map Bt.Ac⟩:=by rw [hD]
     rw [←hD,←hDs] at H;rw [←EW] at HN;clear hD hDs EW;go_wp2_with ((with_reducible refine OP 27 ?_);refine Bf CX (H.blk 2 rfl) ?_);refine (Sc D _ (H.at_ 3 rfl).rd (by have:=(H.at_ 3 rfl).n4;omega) (fun t ht=>by have:=(H.at_ 3 rfl).up t ht;omega)).mono ?_;rintro e w5 ⟨rfl,hb5⟩;replace H:=Aa (H.Av hb5);clear hb5;have hEr:=mF D.Ac;by_cases hE0:BD D.Ac=0
     ·have JS:Hid (FY l=.ok (D.Ac,l')):=by show _=_;rw [HN.Ab];unfold RL;rw [Al hE0]
      rw [hE0];clear hE0 hEr HN;go_wp2_with fail;refine (Mq b s l' 0 _ (H.Fv 0 rfl)).mono ?_;rintro e w6 ⟨rfl,rfl⟩;go_wp2_with (first|((with_reducible refine OP 34 ?_);refine Bf CX (H.blk 2 rfl) ?_)|((with_reducible refine OS 2 ?_);refine Cj CX H 1 rfl D.cs (Qs D) ?_;clear H;intro wq H;(try simp only [LS] at H)));refine Bc (AO rfl CX rfl (H.blk 1 rfl) rfl) rfl ?_;rw [JS.Ab];exact ⟨D,rfl,rfl,H.fr.grown,H.Fv 0 rfl,H.get 3 rfl,H.VG 3 0 Xl rfl rfl rfl⟩
     ·have JS:Hid (FY l=.error (BD D.Ac)):=by show _=_;rw [HN.Ab];unfold RL;rw [Ak hE0]
      have HW:Hid (Gr (BD D.Ac)=BD D.Ac):=by show _=_;unfold Gr;rw [Ak hE0]
      have dE:(BD D.Ac==0)=false:=by simpa using hE0
      clear hE0 HN;go_wp2_with fail;refine (JB b s l' (BD D.Ac) _ (H.Fv 0 rfl)).mono ?_;rintro e w6 ⟨rfl,rfl⟩;go_wp2_with fail;refine ⟨rfl,?_⟩;rw [JS.Ab,HW.Ab];exact ⟨rfl,H.fr.grown,_,H.Fv 0 rfl⟩
def IZ:List TC→Nat→Int→Int
 |_,0,i=>i
 |[],_+1,i=>i
 |t::r,m+1,i=>if i<0 then i else IZ r m (JX t.up i)
theorem V4 {l:List TC} {m:Nat} {i:Int} (h:i<0):IZ l m i=i:=by
 cases m with
 |zero=>cases l<;>rfl
 |succ m=>
  cases l with
  |nil=>rfl
  |cons t r=>rw [IZ,Al h]
theorem Uz {l:List TC} {i:Int}:IZ l 0 i=i:=by cases l<;>rfl
theorem aT {Bi:List TC} {k m:Nat} {t:TC} {i:Int} (h:Bi[k]?=some t) (hi:0≤i):IZ (Bi.drop k) (m+1) i=IZ (Bi.drop (k+1)) m (JX t.up i):=by
 obtain ⟨hk,rfl⟩:=CB.1 h;rw [Eg hk,IZ,Ak Xl]
def Et (Bi:List TC) (k:Nat):Nat:=match Bi[k]? with|some t=>t.ts.length|none=>0
def DI (Bi:List TC) (f t i:Int):Int:=
 if 0≤f∧f≤t∧t<Bi.length∧0≤i∧i<Et Bi f.toNat then max (IZ (Bi.drop f.toNat) (t - f).toNat i) (-1) else -1
theorem vN {up:List Int} {n:Nat} {above:Int} (h:DW up n above=true) (ha:0<above):
 up.length=n∧(∀ z ∈ up,0≤z∧z<above)∧∀ i:Nat,(i:Int)<above→(i:Int) ∈ up:=by
 unfold DW at h;rw [Ak Xl] at h;simp only [Vj,Rb,Rl,PV,List.contains_iff_mem] at h;exact ⟨h.1.1,h.1.2,fun i hi=>h.2 i Xl⟩
theorem Iu.size {t:TC} {r:List TC} (h:Iu (t::r)):1≤t.ts.length:=(EK h.1).2.1
theorem Iu.step {t u:TC} {r:List TC} (h:Iu (t::u::r)):t.up.length=t.ts.length∧(∀ z ∈ t.up,0≤z∧z<u.ts.length)∧∀ i:Nat,i<u.ts.length→(i:Int) ∈ t.up:=by
 have h1:=(EK h.1).2.2.2.2;have h2:=Iu.size h.2;simp only [Cq] at h1;obtain ⟨a,b,c⟩:=vN h1 Xl;exact ⟨a,b,fun i hi=>c i Xl⟩
theorem oF (t:TC) (r:List TC) (m:Nat):Et (t::r) (m+1)=Et r m:=rfl
theorem qY (m:Nat):∀ {l:List TC} {i:Int},Iu l→m<l.length→0≤i→i<Et l 0→0≤IZ l m i∧IZ l m i<Et l m:=by
 induction m with
 |zero=>intro l i _ _ h0 h1;rw [Uz];exact ⟨h0,h1⟩
 |succ m ih=>
  intro l i ha hm h0 h1
  match l,ha,hm,h1 with
  |t::u::r,ha,hm,h1=>
   rw [IZ,Ak Xl,oF];obtain ⟨e,hz,_⟩:=Iu.step ha;have hi:i.toNat<t.up.length:=by rw [e];have:i<(t.ts.length:Int):=h1;omega
   have ho:JX t.up i=t.up[i.toNat]:=by unfold JX;rw [Ak Xl,Fp hi];(try rfl)
   have:=hz _ (List.getElem_mem hi);refine ih ha.2 (by simpa using hm) (by rw [ho];exact this.1) ?_;rw [ho];exact this.2
  |[t],ha,hm,h1=>simp at hm
  |[],ha,hm,h1=>simp at hm
theorem XE (Bi:List TC) (f m:Nat):Et (Bi.drop f) m=Et Bi (f+m):=by unfold Et;rw [NJ]
theorem dL {Bi:List TC} (h:Iu Bi) (f:Nat):Iu (Bi.drop f):=by
 have:=Na f Bi;rw [←this] at h;exact Wh h
theorem OH {Bi:List TC} (h:Iu Bi) {f t i:Nat} (h1:f≤t) (h2:t<Bi.length) (h3:i<Et Bi f):DI Bi f t i=IZ (Bi.drop f) (t - f) i∧0≤DI Bi f t i∧DI Bi f t i<Et Bi t:=by
 have e:DI Bi f t i=max (IZ (Bi.drop f) (t - f) i) (-1):=by
  unfold DI;rw [Al ⟨Xl,Xl,Xl,Xl,by simpa using h3⟩];have:((t:Int) - f).toNat=t - f:=by omega
  rw [this];(try rfl)
 have hr:=qY (t - f) (l:=Bi.drop f) (i:=i) (dL h f) Za3 Xl (by rw [XE];simpa using h3);rw [XE,show f+(t - f)=t by omega] at hr;rw [e];omega
theorem SS (d:Dm) (k:Int) (w:World) (hd:d.rd w):
 Calls prog 147 #[.agg d.cs,.int .i64 k] w fun e w'=>e=.returned (.bool (decide (0≤k∧k<d.tr.n)))∧Ai w w':=by
 have hW:=(Ai.refl w).alloc (.cells d.cs 73);have h63:=hd.tr.n63;obtain ⟨nm,⟨A,n,c,Bi⟩⟩:=d;simp only [Dm.cs] at *;have HW:=Aa hW;clear hW hd;by_cases h0:0≤k
 ·have d0:decide ((0:Int)≤k)=true:=by simpa using h0
  by_cases h1:k<n
  ·have d1:decide (k<(n:Int))=true:=by simpa using h1
   have dd:decide (0≤k∧k<(n:Int))=true:=by simp;omega
   go_enter func147,ntmps147;go_wp2;go_ret;try rw [dd]
   exact ⟨rfl,HW.Ab⟩
  ·have d1:decide (k<(n:Int))=false:=by simp;omega
   have dd:decide (0≤k∧k<(n:Int))=false:=by simp;omega
   go_enter func147,ntmps147;go_wp2;go_ret;try rw [dd]
   exact ⟨rfl,HW.Ab⟩
 ·have d0:decide ((0:Int)≤k)=false:=by simp;omega
  have dd:decide (0≤k∧k<(n:Int))=false:=by simp;omega
  go_enter func147,ntmps147;go_wp2;go_ret;try rw [dd]
  exact ⟨rfl,HW.Ab⟩
theorem Qc {Bi:List Bt} {k:Nat} {t:Bt} (h:Bi[k]?=some t):Et (Bi.map Bt.Ac) k=t.ts.l.length:=by
 unfold Et;rw [Ed,h]
 rfl
theorem qX (d:Dm) (f t i:Int) (w:World) (hd:d.rd w) (hf:AZ f) (ht:AZ t) (hi:AZ i) (hn:d.tr.n≤1000000):
 Calls prog 105 #[.agg d.cs,.int .i64 f,.int .i64 t,.int .i64 i] w fun e w'=>e=.returned (.int .i64 (DI (d.tr.l.map Bt.Ac) f t i))∧Ai w w':=by
 have HH:=Aa (fun k w' (hb:Ai w w')=>SS d k w' (hd.mono hb));have hW:=(Ai.refl w).alloc (.cells d.cs 73);have q0:=Aa (Bh.new w 73 d.cs);have hlen:Hid (d.tr.l.length=d.tr.n):=hd.tr.len;have HD:=Aa (hd.mono hW).tr;obtain ⟨nm,⟨A,n,c,Bi⟩⟩:=d;simp only [Dm.cs] at *;have HW:=Aa hW;have WZ:(Bi.map Bt.Ac).length=n:=by rw [CQ];exact hlen.Ab
 clear hW hd;obtain ⟨f0,f1⟩:=hf;obtain ⟨t0,t1⟩:=ht;by_cases hF:0≤f∧f<n
 ·have dF:decide (0≤f∧f<(n:Int))=true:=by simp;omega
  by_cases hT:0≤t∧t<n
  ·have dT:decide (0≤t∧t<(n:Int))=true:=by simp;omega
   by_cases hFT:t<f
   ·have HE:Hid (DI (Bi.map Bt.Ac) f t i=-1):=by show _=_;unfold DI;rw [Ak Xl]
    have d1:decide (t<f)=true:=by simpa using hFT
    clear WZ;go_enter func105,ntmps105;go_wp2_with fail;refine (HH f _ HW.Ab).mono ?_;rintro e w1 ⟨rfl,hb1⟩;rw [dF];have b1:=q0.Av hb1;go_wp2_with ((with_reducible refine OP 15 ?_);refine Ca (by first|rfl|go_simp) CX (.tmp 4) (by rfl) w.heap.size (by rfl) b1 rfl ?_);refine (HH t _ (HW.trans hb1)).mono ?_;rintro e w2 ⟨rfl,hb2⟩;rw [dT];go_wp2;go_ret;rw [HE.Ab];exact ⟨rfl,(HW.trans hb1).trans hb2⟩
   ·have d1:decide (t<f)=false:=by simp;omega
    obtain ⟨f,rfl⟩:∃ k:Nat,f=k:=⟨f.toNat,Xl⟩;obtain ⟨t,rfl⟩:∃ k:Nat,t=k:=⟨t.toNat,Xl⟩;have d1n:decide (t<f)=false:=by simp;omega
    have d1m:(t<f)=False:=by simp;omega
    by_cases hi0:i<0
    ·have HE:Hid (DI (Bi.map Bt.Ac) f t i=-1):=by show _=_;unfold DI;rw [Ak Xl]
     have d2:decide (i<0)=true:=by simpa using hi0
     clear WZ;go_enter func105,ntmps105;go_wp2_with fail;refine (HH f _ HW.Ab).mono ?_;rintro e w1 ⟨rfl,hb1⟩;rw [dF];have b1:=q0.Av hb1;go_wp2_with ((with_reducible refine OP 15 ?_);refine Ca (by first|rfl|go_simp) CX (.tmp 4) (by rfl) w.heap.size (by rfl) b1 rfl ?_);refine (HH t _ (HW.trans hb1)).mono ?_;rintro e w2 ⟨rfl,hb2⟩;rw [dT];go_wp2;go_ret;rw [HE.Ab];exact ⟨rfl,(HW.trans hb1).trans hb2⟩
    ·have d2:decide (i<0)=false:=by simp;omega
     have hfn:f<n:=by omega
     obtain ⟨bb,oo,T,hA,hbb,hT0,hTr,hrg⟩:=HD.JO (k:=f) hfn;simp only at hA;subst hA;have hsz:Et (Bi.map Bt.Ac) f=T.ts.n:=by rw [Qc hT0];exact hTr.ts.len
     have hc0:=hrg 1 _ rfl;by_cases hiN:i<T.ts.n
     ·have d3:decide ((T.ts.n:Int)≤i)=false:=by simp;omega
      have HE:Hid (DI (Bi.map Bt.Ac) f t i=max (IZ ((Bi.map Bt.Ac).drop f) (t - f) i) (-1)):=by
       show _=_;unfold DI;rw [Al ⟨Xl,Xl,Xl,Xl,by rw [Db,hsz];exact hiN⟩,Db];rw [show ((t:Int) - f).toNat=t - f by omega]
      have HL0:Hid (IZ ((Bi.map Bt.Ac).drop f) (t - f) i=IZ ((Bi.map Bt.Ac).drop f) (t - f) i):=rfl;have hft:f≤t:=by omega
      have htn:t<n:=by omega
      clear WZ hsz hT0 hTr hrg;go_enter func105,ntmps105;go_wp2_with fail;refine (HH f _ HW.Ab).mono ?_;rintro e w1 ⟨rfl,hb1⟩;rw [dF];have b1:=q0.Av hb1;go_wp2_with ((with_reducible refine OP 15 ?_);refine Ca (by first|rfl|go_simp) CX (.tmp 4) (by rfl) w.heap.size (by rfl) b1 rfl ?_);refine (HH t _ (HW.trans hb1)).mono ?_;rintro e w2 ⟨rfl,hb2⟩;rw [dT];have B2:=Aa ((HW.trans hb1).trans hb2);have Q2:=Aa (b1.Av hb2);have c2:=((hb1.trans hb2).cell hbb).trans hc0;have D2:=Aa ((HD.mono hb1).mono hb2);have g2:=Q2.Ap 1;have i2:(0:Int)≤f:=by omega
      have i3:(f:Int)<n:=by omega
      go_wp2_with fail;have L0:Hid (IZ ((Bi.map Bt.Ac).drop f) (t - f) i=IZ ((Bi.map Bt.Ac).drop f) (t - f) i):=rfl;clear c2 hc0 g2 d1 d2 d3 dF dT q0 HW HD HL0;go_loopg [3,9] (t - f) (fun gg s3 s9 wr=>∃ (k:Nat) (j:Int),gg=t - k∧f≤k∧k≤t∧s3=.int .i64 j∧s9=.int .i64 k∧AZ j∧Hid (Ai w wr)∧Hid (Bh wr w.heap.size 73 #[.string ⟨nm.toArray⟩,.slice (some ⟨bb,oo,none⟩) n c])∧Hid (Row.rd wr ⟨some ⟨bb,oo,none⟩,n,c,Bi⟩)∧Hid (IZ ((Bi.map Bt.Ac).drop f) (t - f) i=IZ ((Bi.map Bt.Ac).drop k) (t - k) j));case atStart=>exact ⟨f,i,rfl,Xl,Xl,rfl,rfl,hi,B2,Q2,D2,L0⟩
      case round=>
       clear B2 Q2 D2 L0;obtain ⟨k,j,BR,hk0,hk,rfl,rfl,hj,hB,hQ,hD,hL⟩:=hrel;have Cs:=Aa BR;clear BR;have g2:=hQ.Ap 1;by_cases hlt:k<t
       ·have e1:decide ((k:Int)<t)=true:=by simp;omega
        by_cases hj0:0≤j
        ·have e2:decide ((0:Int)≤j)=true:=by simpa using hj0
         obtain ⟨b2,o2,U,hA2,hb2,hU,hUr,hrg⟩:=hD.JO (k:=k) (show k<n by omega);simp only [Option.some.injEq,Addr.mk.injEq] at hA2;obtain ⟨rfl,rfl,_⟩:=hA2;have hUc:(Bi.map Bt.Ac)[k]?=some U.Ac:=by rw [Ed,hU];(try rfl)
         have HN:Hid (IZ ((Bi.map Bt.Ac).drop f) (t - f) i=IZ ((Bi.map Bt.Ac).drop (k+1)) (t - (k+1)) (JX U.up.l j)):=by
          show _=_;rw [hL.Ab,show t - k=(t - (k+1))+1 by omega,aT hUc hj0]
         have i2:(0:Int)≤k:=by omega
         have i3:(k:Int)<n:=by omega
         have ho:AZ (JX U.up.l j):=by
          unfold JX;split
          ·unfold AZ;omega
          ·cases hz:U.up.l[j.toNat]? with
           |none=>unfold AZ;simp
           |some z=>exact hUr.up.all z (CU hz)
         have HRG:=Aa hrg;have HO:=Aa (Ag3 U j wr hUr hj);have wk:IntKind.i64.wrap ((k:Int)+1)=(k:Int)+1:=IB _ Xl;clear hL hU hUr hrg hUc hb2;go_wp2_with ((with_reducible refine OP 54 ?_);refine Af rfl Du (.tmp 53) rfl bb (oo+k * 3) rfl U.cs rfl HRG.Ab ?_);refine HO.mono ?_;rintro e w3 ⟨rfl,hb3⟩;go_wp2_with fail;go_roundg (t - (k+1));case rel=>exact ⟨k+1,JX U.up.l j,rfl,Xl,Xl,rfl,by go_num,ho,hB.trans hb3,hQ.Av hb3,hD.mono hb3,HN⟩
         case measure=>rw [Cs.Ab];omega
        ·have e2:decide ((0:Int)≤j)=false:=by simp;omega
         have HN:Hid (DI (Bi.map Bt.Ac) f t i=max j (-1)):=by show _=_;rw [HE.Ab,hL.Ab,V4 Xl]
         clear hL HE;go_wp2;go_ret;rw [HN.Ab];exact ⟨rfl,hB.Ab⟩
       ·have e1:decide ((k:Int)<t)=false:=by simp;omega
        have HN:Hid (DI (Bi.map Bt.Ac) f t i=max j (-1)):=by show _=_;rw [HE.Ab,hL.Ab,show t - k=0 by omega,Uz]
        clear hL HE;go_wp2;go_ret;rw [HN.Ab];exact ⟨rfl,hB.Ab⟩
     ·have d3:decide ((T.ts.n:Int)≤i)=true:=by simp;omega
      have HE:Hid (DI (Bi.map Bt.Ac) f t i=-1):=by
       show _=_;unfold DI;rw [Ak];rw [Db,hsz];omega
      clear WZ hsz hT0 hTr hrg;go_enter func105,ntmps105;go_wp2_with fail;refine (HH f _ HW.Ab).mono ?_;rintro e w1 ⟨rfl,hb1⟩;rw [dF];have b1:=q0.Av hb1;go_wp2_with ((with_reducible refine OP 15 ?_);refine Ca (by first|rfl|go_simp) CX (.tmp 4) (by rfl) w.heap.size (by rfl) b1 rfl ?_);refine (HH t _ (HW.trans hb1)).mono ?_;rintro e w2 ⟨rfl,hb2⟩;rw [dT];have B2:=Aa ((HW.trans hb1).trans hb2);have Q2:=Aa (b1.Av hb2);have c2:=((hb1.trans hb2).cell hbb).trans hc0;have g2:=Q2.Ap 1;have i2:(0:Int)≤f:=by omega
      have i3:(f:Int)<n:=by omega
      go_wp2;go_ret;rw [HE.Ab];exact ⟨rfl,B2.Ab⟩
  ·have dT:decide (0≤t∧t<(n:Int))=false:=by simp;omega
   have HE:Hid (DI (Bi.map Bt.Ac) f t i=-1):=by show _=_;unfold DI;rw [Ak Xl]
   clear WZ;go_enter func105,ntmps105;go_wp2_with fail;refine (HH f _ HW.Ab).mono ?_;rintro e w1 ⟨rfl,hb1⟩;rw [dF];have b1:=q0.Av hb1;go_wp2_with ((with_reducible refine OP 15 ?_);refine Ca (by first|rfl|go_simp) CX (.tmp 4) (by rfl) w.heap.size (by rfl) b1 rfl ?_);refine (HH t _ (HW.trans hb1)).mono ?_;rintro e w2 ⟨rfl,hb2⟩;rw [dT];go_wp2;go_ret;rw [HE.Ab];exact ⟨rfl,(HW.trans hb1).trans hb2⟩
 ·have dF:decide (0≤f∧f<(n:Int))=false:=by simp;omega
  have HE:Hid (DI (Bi.map Bt.Ac) f t i=-1):=by show _=_;unfold DI;rw [Ak Xl]
  clear WZ;go_enter func105,ntmps105;go_wp2_with fail;refine (HH f _ HW.Ab).mono ?_;rintro e w1 ⟨rfl,hb1⟩;rw [dF];go_wp2;go_ret;rw [HE.Ab];exact ⟨rfl,HW.trans hb1⟩
theorem DR {α:Type} {l:List α} {k:Nat} {x:α} (h:l[k]?=some x):l.take (k+1)=l.take k++[x]:=by
 obtain ⟨hk,rfl⟩:=CB.1 h;exact Rh hk
theorem jP {w:World} {Bi:List Bt} (h:∀ t ∈ Bi,t.rd w) (k:Nat):AZ (Cq ((Bi.map Bt.Ac).drop k)):=by
 unfold AZ;cases hdr:(Bi.map Bt.Ac).drop k with
 |nil=>simp [Cq]
 |cons u r=>
  have hm:u ∈ (Bi.map Bt.Ac):=Tx (i:=k) (by rw [hdr];exact Gg ..);obtain ⟨v,hv,rfl⟩:=Kc.1 hm;have h1:=h v hv;exact Zv9
theorem Ze1 {p:Prop} (h:p:=by show j<n;omega):p:=h
theorem XX (d:Dm) (w:World) (hd:d.rd w) (hn:d.tr.n≤1000000):
 Calls prog 49 #[.agg d.cs] w fun e w'=>e=.returned (.int .i64 (BD d.Ac))∧Ai w w':=by
 have uS:=Aa (fun k (hk:k<d.tr.n) w' (hb:Ai w w')=>pO d k w' (hd.mono hb) hk hn);have hW:=(Ai.refl w).alloc (.cells d.cs 73);have hlen:Hid (d.tr.l.length=d.tr.n):=hd.tr.len;have hnm:=hd.nm;have HD:=Aa hd.tr;obtain ⟨nm,⟨A,n,c,Bi⟩⟩:=d;simp only [Dm.cs,Dm.Ac] at *;have HW:=Aa hW;clear hW hd;cases hN:DJ nm with
 |false=>
  have HE:Hid (BD ⟨nm,Bi.map Bt.Ac⟩=2):=by show _=_;unfold BD;simp [hN]
  go_enter func49,ntmps49;go_wp2_with fail;refine (KM nm _ Xl).mono ?_;rintro e w1 ⟨rfl,rfl⟩;rw [hN];go_wp2;go_ret;rw [HE.Ab];exact ⟨rfl,HW.Ab⟩
 |true=>
  by_cases hl:1≤n∧n≤4
  ·obtain ⟨hl1,hl2⟩:=hl;have d1:decide ((n:Int)<1)=false:=by simp;omega
   have d2:decide ((4:Int)<n)=false:=by simp;omega
   have Ng:Hid (BD ⟨nm,Bi.map Bt.Ac⟩=Ff ((Bi.map Bt.nm).take 0) ((Bi.map Bt.Ac).drop 0)):=by
    show _=_;unfold BD;simp only [hN,Gu,CQ];rw [Ak Za9]
    rfl
   have Q0:=Aa (Bh.new w 73 #[.string ⟨nm.toArray⟩,.slice A n c]);go_enter func49,ntmps49;go_wp2_with fail;refine (KM nm _ Xl).mono ?_;rintro e w1 ⟨rfl,rfl⟩;rw [hN];go_wp2_with fail;clear d1 d2;go_loopg [23] n (fun gg i wr=>∃ k:Nat,gg=n - k∧k≤n∧i=.int .i64 k∧Hid (Ai w wr)∧Hid (Bh wr w.heap.size 73 #[.string ⟨nm.toArray⟩,.slice A n c])∧Hid (BD ⟨nm,Bi.map Bt.Ac⟩=Ff ((Bi.map Bt.nm).take k) ((Bi.map Bt.Ac).drop k)));case atStart=>exact ⟨0,rfl,Xl,rfl,HW,Q0,Ng⟩
   case round=>
    clear HW Q0 Ng;obtain ⟨k,BR,hk,rfl,hB,hQ,hE⟩:=hrel;have Cs:=Aa BR;clear BR;by_cases hlt:k<n
    ·obtain ⟨bb,oo,t,hA,hbb,ht,htr,hrg⟩:=(HD.mono hB.Ab).JO (k:=k) hlt;simp only at hA;subst hA;have HRG:=Aa hrg;have F3:=Aa htr;have htc:(Bi.map Bt.Ac)[k]?=some t.Ac:=by rw [Ed,ht];(try rfl)
     have htn:(Bi.map Bt.nm)[k]?=some t.nm:=by rw [Ed,ht];(try rfl)
     have HS:=Aa (VX (seen:=(Bi.map Bt.nm).take k) htc);have HTN:=Aa htn;have Tg:Hid ((Bi.map Bt.nm).take (k+1)=(Bi.map Bt.nm).take k++[t.nm]):=by
      show _=_;obtain ⟨hk',he⟩:=CB.1 htn;rw [Rh hk',he]
     have hab:=jP HD.all (k+1);have i0:(0:Int)≤k:=by omega
     have i1:(k:Int)<n:=by omega
     have hq1:=hQ.Ap 1;clear ht hrg htr htc htn;go_wp2_with fail;generalize hAB:Cq ((Bi.map Bt.Ac).drop (k+1))=ab at *;have HAB1:Hid (∀ w',Ai w w'→Calls prog 84 #[.agg #[.string ⟨nm.toArray⟩,.slice (some ⟨bb,oo,none⟩) n c],.int .i64 k] w' fun e w''=>e=.returned (.int .i64 ab)∧Ai w' w''):=by
      intro w' hb;have:=uS k hlt w' hb;rw [hAB] at this;exact this
     have HABE:=Aa hAB;clear hAB;have f1:=fun u:Over wr=>Over.cell hq1 u
     refine Am ?_;repeat (first
      |((with_reducible show wpQuiet _ _ _ _ (⟨some 30,_,_,_,_,_⟩::_) _);refine Ah rfl Du (.tmp 29) rfl bb (oo+k * 3) rfl t.cs rfl hbb HRG.Ab ?_;simp only [Act.put,LP])
      |((with_reducible show wpQuiet _ _ _ _ (⟨some 31,_,_,_,_,_⟩::_) _);refine Ah rfl CX (.tmp 1) rfl w.heap.size 0 rfl #[.string ⟨nm.toArray⟩,.slice (some ⟨bb,oo,none⟩) n c] rfl hQ.lt hQ.range ?_;simp only [Act.put,LP])
      |go_big_quiet_step ((first|(go_at_call 84;rename_i u;exact AB (HAB1 _ (hB.trans u.Av)))|(go_at_call 83;rename_i u;exact AB (Rp t ab _ (F3.mono u.Av) hab)))))
     refine CS ?_;rintro w4 ⟨⟨_,hw4⟩,rfl⟩;have Q4:=Aa (hQ.Av hw4);have B4:=Aa (hB.trans hw4);have HB4:=Aa hw4;try dsimp only
     clear hw4 f1 hq1;by_cases hE0:Bo t.Ac ab=0
     ·rw [hE0];have HNo0:Hid (∀ i,i<0→(Bi.map Bt.nm)[i]?≠some t.nm):=fun i hi=>absurd hi Xl
      have hw4z:=Q4.lt;have HS2:Hid (BD ⟨nm,Bi.map Bt.Ac⟩=if t.nm ∈ (Bi.map Bt.nm).take k then 11 else Ff ((Bi.map Bt.nm).take (k+1)) ((Bi.map Bt.Ac).drop (k+1))):=by show _=_;rw [hE.Ab,HS.Ab,Ak Xl,Tg.Ab]
      have hnB:Hid (Ai w4 w4):=Ai.refl _;clear hE HS hE0;go_wp2_with fail;go_loopg [5] k (fun gg i wx=>∃ j:Nat,gg=k - j∧j≤k∧i=.int .i64 j∧Hid (Ai w4 wx)∧Hid (∀ i,i<j→(Bi.map Bt.nm)[i]?≠some t.nm));case atStart=>exact ⟨0,rfl,Xl,rfl,hnB,HNo0⟩
      case round=>
       clear HNo0 hnB;obtain ⟨j,hgj,hj,rfl,xY,hNo⟩:=hrel;have Lt:=Aa hgj;clear hgj;by_cases hjk:j<k
       ·obtain ⟨bb',oo',t',hA',hbb',ht',htr',hrg'⟩:=((HD.mono B4.Ab).mono xY.Ab).JO (k:=j) Ze1;simp only at hA';obtain ⟨rfl,rfl⟩:bb=bb'∧oo=oo':=by injection hA' with h;injection h with h1 h2;exact ⟨h1,h2⟩
        have cj:=hrg' 0 _ rfl;have ck0:=HRG.Ab 0 _ rfl;have ck:=(xY.cell (p:=⟨bb,oo+k * 3+0,none⟩) (by have:=HB4.size;show bb<_;omega)).trans ((HB4.cell (p:=⟨bb,oo+k * 3+0,none⟩) hbb).trans ck0);have hq1:=(Q4.Av xY.Ab).Ap 1;simp only [Kb] at cj ck;have htn':(Bi.map Bt.nm)[j]?=some t'.nm:=by rw [Ed,ht'];(try rfl)
        have uO:=Aa htn';have j0:(0:Int)≤j:=by omega
        have j1:(j:Int)<n:=by omega
        clear ht' hrg' hA' htr' hbb' htn' ck0;cases heq:(t'.nm==t.nm) with
        |true=>
         have HN:Hid (BD ⟨nm,Bi.map Bt.Ac⟩=11):=by
          show _=_;rw [HS2.Ab,Al];rw [MZ];exact ⟨j,by rw [Jk hjk,uO.Ab];simpa using heq⟩
         clear HS2;go_wp2_with fail;go_quiet (fail);go_wp2;go_ret;rw [HN.Ab];exact ⟨rfl,(B4.trans xY.Ab).drewN _⟩
        |false=>
         have HN:Hid (∀ i,i<j+1→(Bi.map Bt.nm)[i]?≠some t.nm):=by
          intro i hi;rcases (show i<j∨i=j by omega) with h|h
          ·exact hNo i h
          ·rw [h,uO.Ab];intro e;injection e with e;rw [e] at heq;simp at heq
         go_wp2_with fail;go_quiet (fail);go_wp2;go_roundg (k - (j+1));case rel=>exact ⟨j+1,rfl,Xl,by go_num,xY.drewN _,HN⟩
         case measure=>rw [Lt.Ab];omega
       ·have HN:Hid (BD ⟨nm,Bi.map Bt.Ac⟩=Ff ((Bi.map Bt.nm).take (k+1)) ((Bi.map Bt.Ac).drop (k+1))):=by
         show _=_;rw [HS2.Ab,Ak];rw [MZ];rintro ⟨i,hi⟩;by_cases hik:i<k
         ·rw [Jk hik] at hi;exact hNo i Xl hi
         ·rw [Jj Za3] at hi;cases hi
        clear HS2;go_wp2_with fail;go_roundg (n - (k+1));case rel=>exact ⟨k+1,rfl,Xl,by go_num,B4.trans xY.Ab,Q4.Av xY.Ab,HN⟩
        case measure=>rw [Cs.Ab];omega
     ·have HN:Hid (BD ⟨nm,Bi.map Bt.Ac⟩=Bo t.Ac ab):=by show _=_;rw [hE.Ab,HS.Ab,Al hE0]
      have dE:(Bo t.Ac ab !=0)=true:=by simpa using hE0
      have dE2:(Bo t.Ac ab==0)=false:=by simpa using hE0
      clear hE HS hE0;go_wp2;go_ret;rw [HN.Ab];exact ⟨rfl,B4.Ab⟩
    ·have HN:Hid (BD ⟨nm,Bi.map Bt.Ac⟩=0):=by show _=_;rw [hE.Ab,EN Zb1];(try rfl)
     clear hE;go_wp2;go_ret;rw [HN.Ab];exact ⟨rfl,hB.Ab⟩
  ·have HE:Hid (BD ⟨nm,Bi.map Bt.Ac⟩=5):=by
    show _=_;unfold BD;simp only [hN,Gu,CQ];rw [Al Za9]
   rcases (show n<1∨(1≤n∧4<n) by omega) with h|⟨h,h'⟩;all_goals
    first|(have d1:decide ((n:Int)<1)=true:=by simp;omega)|(have d1:decide ((n:Int)<1)=false:=by simp;omega)
    first|(have d2:decide ((4:Int)<n)=true:=by simp;omega)|(have d2:decide ((4:Int)<n)=false:=by simp;omega)
    clear hl;go_enter func49,ntmps49;go_wp2_with fail;refine (KM nm _ Xl).mono ?_;rintro e w1 ⟨rfl,rfl⟩;rw [hN];go_wp2;go_ret;rw [HE.Ab];exact ⟨rfl,HW.Ab⟩
def Oy (a b:DC):Bool:=(a.nm==b.nm) && (a.Bi==b.Bi)
theorem vQ {xs ys:List TC} {k:Nat} {a b:TC} (ha:xs[k]?=some a) (hb:ys[k]?=some b):(xs.drop k==ys.drop k)=(Ki a b && (xs.drop (k+1)==ys.drop (k+1))):=by
 obtain ⟨h1,rfl⟩:=CB.1 ha;obtain ⟨h2,rfl⟩:=CB.1 hb;rw [Eg h1,Eg h2,K7]
 rfl
theorem yI (d s:Dm) (w:World) (hd:d.rd w) (hs:s.rd w):
 Calls prog 121 #[.agg d.cs,.agg s.cs] w fun e w'=>e=.returned (.bool (Oy d.Ac s.Ac))∧Ai w w':=by
 have hW:=((Ai.refl w).alloc (.cells d.cs 73)).alloc (.cells s.cs 73);have q1:=(Bh.new w 73 d.cs).alloc (.cells s.cs 73);have q2:=Bh.new (w.alloc (.cells d.cs 73)) 73 s.cs;rw [Gf] at q2;have tl1:Hid (d.tr.l.length=d.tr.n):=hd.tr.len;have sl1:Hid (s.tr.l.length=s.tr.n):=hs.tr.len;have n1:=hd.tr.n63;have HD:=Aa hd.tr;have HS:=Aa hs.tr;obtain ⟨nm,⟨A,n,c,Bi⟩⟩:=d;obtain ⟨nm',⟨A',n',c',Yo⟩⟩:=s;simp only [Dm.cs,Dm.Ac] at *;have HW:=Aa hW;have x0:=q1.cell 0;have x1:=q1.cell 1;have y0:=q2.cell 0;have y1:=q2.cell 1;simp only [LG] at x0 x1 y0 y1;clear hd hs hW;by_cases hnm:nm=nm'
 ·subst hnm;by_cases hl:n=n'
  ·subst hl;have HS0:Hid (Oy ⟨nm,Bi.map Bt.Ac⟩ ⟨nm,Yo.map Bt.Ac⟩=((Bi.map Bt.Ac).drop 0==(Yo.map Bt.Ac).drop 0)):=by show _=_;unfold Oy;simp
   go_enter func121,ntmps121;go_wp2_with fail;generalize (w.alloc (.cells #[.string ⟨nm.toArray⟩,.slice A n c] 73)).alloc (.cells #[.string ⟨nm.toArray⟩,.slice A' n c'] 73)=W at *;clear q1 q2;go_loopg [23] n (fun gg i wr=>∃ k:Nat,gg=n - k∧k≤n∧i=.int .i64 k∧Hid (Ai W wr)∧Hid (Oy ⟨nm,Bi.map Bt.Ac⟩ ⟨nm,Yo.map Bt.Ac⟩=((Bi.map Bt.Ac).drop k==(Yo.map Bt.Ac).drop k)));case atStart=>exact ⟨0,rfl,Xl,rfl,Ai.refl _,HS0⟩
   case round=>
    clear HS0;obtain ⟨k,BR,hk,rfl,hB,hF⟩:=hrel;have Cs:=Aa BR;clear BR;have x1':=(hB.cell (JM _ _ x1)).trans x1;have y1':=(hB.cell (JM _ _ y1)).trans y1;have hBW:=HW.trans hB.Ab;by_cases hlt:k<n
    ·obtain ⟨ba,oa,a,hA,hba,hak,har,hra⟩:=(HD.mono hBW).JO (k:=k) hlt;obtain ⟨bb,ob,b,hA',hbb,hbk,hbr,hrb⟩:=(HS.mono hBW).JO (k:=k) hlt;simp only at hA hA';subst hA;subst hA';have RA:=Aa hra;have RB:=Aa hrb;have HA:=Aa har;have HBr:=Aa hbr;have Jn:=Aa (vQ (xs:=Bi.map Bt.Ac) (ys:=Yo.map Bt.Ac) (k:=k) (a:=a.Ac) (b:=b.Ac) (by rw [Ed,hak];(try rfl)) (by rw [Ed,hbk];(try rfl)));have i0:(0:Int)≤k:=by omega
     have i1:(k:Int)<n:=by omega
     have uR:=Aa hBW;clear hak hbk hra hrb har hbr hBW;go_wp2_with fail;have f1:=fun u:Over wr=>Over.cell x1' u
     have f2:=fun u:Over wr=>Over.cell y1' u
     refine Am ?_;repeat (first
      |((with_reducible show wpQuiet _ _ _ _ (⟨some 30,_,_,_,_,_⟩::_) _);refine Ah rfl Du (.tmp 29) rfl ba (oa+k * 3) rfl a.cs rfl hba RA.Ab ?_;simp only [Act.put,LP])
      |((with_reducible show wpQuiet _ _ _ _ (⟨some 35,_,_,_,_,_⟩::_) _);refine Ah rfl Du (.tmp 34) rfl bb (ob+k * 3) rfl b.cs rfl hbb RB.Ab ?_;simp only [Act.put,LP])
      |go_big_quiet_step ((go_at_call 163;rename_i u;exact AB (vL a b _ (HA.mono u.Av) (HBr.mono u.Av)))))
     refine CS ?_;rintro w4 ⟨⟨_,hw4⟩,rfl⟩;have B4:=Aa (hB.trans hw4);have BW4:=Aa (uR.trans hw4);try dsimp only
     clear hw4 f1 f2 x1' y1';cases hab:Ki a.Ac b.Ac with
     |true=>
      have HR:Hid (Oy ⟨nm,Bi.map Bt.Ac⟩ ⟨nm,Yo.map Bt.Ac⟩=((Bi.map Bt.Ac).drop (k+1)==(Yo.map Bt.Ac).drop (k+1))):=by show _=_;rw [hF.Ab,Jn.Ab,hab];(try rfl)
      clear hF Jn;go_wp2;go_roundg (n - (k+1));case rel=>exact ⟨k+1,rfl,Xl,by go_num,B4,HR⟩
      case measure=>rw [Cs.Ab];omega
     |false=>
      have HR:Hid (Oy ⟨nm,Bi.map Bt.Ac⟩ ⟨nm,Yo.map Bt.Ac⟩=false):=by show _=_;rw [hF.Ab,Jn.Ab,hab];(try rfl)
      clear hF Jn;go_wp2;go_ret;rw [HR.Ab];exact ⟨rfl,BW4.Ab⟩
    ·have HR:Hid (Oy ⟨nm,Bi.map Bt.Ac⟩ ⟨nm,Yo.map Bt.Ac⟩=true):=by
      show _=_;rw [hF.Ab,EN (by have:=tl1.Ab;simp;omega),EN (by have:=sl1.Ab;simp;omega)]
      rfl
     clear hF;go_wp2;go_ret;rw [HR.Ab];exact ⟨rfl,hBW⟩
  ·have HR:Hid (Oy ⟨nm,Bi.map Bt.Ac⟩ ⟨nm,Yo.map Bt.Ac⟩=false):=by
    show _=_;unfold Oy;rw [mO (xs:=Bi.map Bt.Ac) (ys:=Yo.map Bt.Ac) (by have:=tl1.Ab;have:=sl1.Ab;simp;omega)];simp
   have d1:((n:Int) !=(n':Int))=true:=by simp;omega
   have d2:((n:Int)==(n':Int))=false:=by simp;omega
   clear q1 q2;go_enter func121,ntmps121;go_wp2;go_ret;rw [HR.Ab];exact ⟨rfl,HW.Ab⟩
 ·have HR:Hid (Oy ⟨nm,Bi.map Bt.Ac⟩ ⟨nm',Yo.map Bt.Ac⟩=false):=by show _=_;unfold Oy;simp [hnm]
  have d1:(nm==nm')=false:=by simpa using hnm
  clear q1 q2 hnm;go_enter func121,ntmps121;go_wp2;go_ret;rw [HR.Ab];exact ⟨rfl,HW.Ab⟩
theorem At8 {S:Nat→Prop} {w0 w:World} {l:List FM} (H:SL S w0 w l) (i j:Nat) {g0 g1 m:Nat} {nm tn:List UInt8} {ts:List (List UInt8)} {cs:Array Value} (h0:l[i]?=some (Aw g0 9 cs)) (hcs:cs.toList=ts.map tx) (hm:ts.length=m)
 (h1:l[j]?=some (Aw g1 75 #[.string ⟨tn.toArray⟩,.slice (some ⟨g0,0,none⟩) m m,.slice none 0 0])) (hn:nm.length≤100) (htn:tn.length≤100) (hts:∀ t ∈ ts,t.length≤100) (hm2:m≤100):
 (Dm.mk nm ⟨some ⟨g1,0,none⟩,1,1,[⟨tn,⟨some ⟨g0,0,none⟩,m,m,ts⟩,⟨none,0,0,[]⟩⟩]⟩).rd w:=by
 refine ⟨by show nm.length≤_;omega,⟨?_,fun T hT=>?_,by show (1:Nat)≤_;omega⟩⟩
 ·exact AV (m:=1) (H.blk j h1) rfl
 ·rw [Ee] at hT;subst hT;refine ⟨by show tn.length≤_;omega,⟨?_,fun t ht=>by have:=hts t ht;show t.length≤_;omega,by show m≤_;omega⟩,Row.MS w⟩;have:=AV (m:=m) (size:=1) (H.blk i h0) (by rw [←Array.length_toList,hcs,CQ,hm,Wu]);rw [hcs] at this;show Rd w 1 (some ⟨g0,0,none⟩) m (ts.flatMap AY.cells);rw [IQ];exact this
theorem El.bad {α:Type} {s:List UInt8} {o:PR α} {t k:Int} {x:α} (h:El s o t k x) (hk:k≠0):o=.error k:=h.elim (fun h=>h.2) (fun h=>absurd h.1 hk)
theorem El.good {α:Type} {s:List UInt8} {o:PR α} {t:Int} {x:α} (h:El s o t 0 x):∃ tn:Nat,t=tn∧tn≤s.length∧o=.ok (x,s.drop tn):=h.elim (fun h=>absurd rfl h.1) (fun h=>h.2)
def Pp {α β:Type} (o:PR α) (f:List UInt8→PR β):PR (α × β):=match o with|.error e=>.error e|.ok (x,r)=>match f r with|.error e=>.error e|.ok (y,r2)=>.ok ((x,y),r2)
theorem El.step {α β:Type} {s:List UInt8} {o:PR α} {f:List UInt8→PR β} {tn:Nat} {x:α} {y:β} {t k:Int} (h:o=.ok (x,s.drop tn)) (h2:El s (f (s.drop tn)) t k y):El s (Pp o f) t k (x,y):=by
 unfold Pp;rw [h];rcases h2 with ⟨h1,h2⟩|⟨h1,m,h3,h4,h2⟩
 ·exact .inl ⟨h1,by simp only [h2]⟩
 ·exact .inr ⟨h1,m,h3,h4,by simp only [h2]⟩
theorem El.skip {α β:Type} {s:List UInt8} {o:PR α} {f:List UInt8→PR β} {x:α} {y:β} {t k:Int} (hk:k≠0) (h:o=.error k):El s (Pp o f) t k (x,y):=.inl ⟨hk,by unfold Pp;rw [h]⟩
theorem NN (s:List UInt8) (t0:Nat) (most:Int) (hs:s.length≤140737488351232) (ht0:t0≤s.length) (h0:0≤most) (h1:most≤9223372036854775807) (w:World):
 Calls prog 112 #[Iz s t0 0,.int .i64 most] w fun e w'=>∃ (t k:Int) (x:List UInt8),e=.returned (.tuple #[Iz s t k,.string ⟨x.toArray⟩])∧Ai w w'∧(x.length:Int)≤most∧Hid (El s (Dp most (s.drop t0)) t k x):=by
 refine (WL s t0 most hs ht0 Xl h1 w).mono ?_;rintro e w' ⟨hb,hm⟩;cases ho:Dp most (s.drop t0) with
 |error k=>
  rw [ho] at hm;obtain ⟨t,rfl⟩:=hm;have:=NQ ho;exact ⟨t,k,[],rfl,hb,by simpa using h0,.inl ⟨Xl,rfl⟩⟩
 |ok q=>
  obtain ⟨x,l⟩:=q;rw [ho] at hm;obtain ⟨t,ht,hl,rfl⟩:=hm;exact ⟨t,0,x,rfl,hb,(Mj ho).1,.inr ⟨rfl,t,rfl,ht,by rw [hl]⟩⟩
theorem Qg (s:List UInt8) (t0:Nat) (most:Int) (hs:s.length≤140737488351232) (ht0:t0≤s.length) (h0:0≤most) (h1:most≤9223372036854775807) (w:World):
 Calls prog 110 #[Iz s t0 0,.int .i64 most] w fun e w'=>∃ (t k:Int) (n:Nat),e=.returned (.tuple #[Iz s t k,.int .i64 n])∧Ai w w'∧(n:Int)≤most∧Hid (El s (DD most (s.drop t0)) t k n):=by
 refine (Ry s t0 most hs ht0 Xl h1 w).mono ?_;rintro e w' ⟨hb,hm⟩;cases ho:DD most (s.drop t0) with
 |error k=>
  rw [ho] at hm;obtain ⟨t,rfl⟩:=hm;have:=EE ho;exact ⟨t,k,0,rfl,hb,by simpa using h0,.inl ⟨Xl,rfl⟩⟩
 |ok q=>
  obtain ⟨x,l⟩:=q;rw [ho] at hm;obtain ⟨t,ht,hl,rfl⟩:=hm;exact ⟨t,0,x,rfl,hb,(ES ho).2.1,.inr ⟨rfl,t,rfl,ht,by rw [hl]⟩⟩
theorem Sy {α:Type} (s:List UInt8) (o:PR α) (t k:Int) (x0:α) (hS:El s o t k x0) (most:Int) (hs:s.length≤140737488351232) (h0:0≤most) (h1:most≤9223372036854775807) (w:World):
 Calls prog 110 #[Iz s t k,.int .i64 most] w fun e w'=>∃ (t' k':Int) (n:Nat),e=.returned (.tuple #[Iz s t' k',.int .i64 n])∧Ai w w'∧(n:Int)≤most∧Hid (El s (Pp o (DD most)) t' k' (x0,n)):=by
 by_cases hk:k=0
 ·subst hk;obtain ⟨tn,rfl,htn,ho⟩:=hS.good;refine (Qg s tn most hs htn h0 h1 w).mono ?_;rintro e w' ⟨t',k',x,rfl,hb,hx,hR⟩;exact ⟨t',k',x,rfl,hb,hx,El.step ho hR.Ab⟩
 ·refine (Vy s t k most hk w).mono ?_;rintro e w' ⟨rfl,hb⟩;exact ⟨t,k,0,rfl,hb,by simpa using h0,El.skip hk (hS.bad hk)⟩
abbrev Um (c:Prop) (r:FM):FM:=⟨fun g=>c∧r.D g,fun w=>c→r.p w⟩
theorem EZ {c:Prop} {r:FM} {w:World} (h:c→r.holds w):(Um c r).holds w:=⟨fun g ⟨hc,hg⟩=>(h hc).1 g hg,fun w' hs hk hc=>(h hc).2 w' hs fun g hg=>hk g ⟨hc,hg⟩⟩
theorem CF {c:Prop} {r:FM} {w:World} (h:(Um c r).holds w) (hc:c):r.holds w:=⟨fun g hg=>h.1 g ⟨hc,hg⟩,fun w' hs hk=>h.2 w' hs (fun g ⟨_,hg⟩=>hk g hg) hc⟩
def qA (nm:List UInt8) (o:PR (List TC)):PR DC:=match o with|.error k=>.error k|.ok (Bi,r)=>RL ⟨nm,Bi⟩ r
theorem iK (l:List UInt8):FY l=match Pp (Dp 12 l) (DD 4) with|.error k=>.error k|.ok ((nm,n),r)=>qA nm (Jl n [] r):=by
 unfold FY Pp qA;cases Dp 12 l with
 |error k=>rfl
 |ok q=>
  obtain ⟨nm,r⟩:=q;dsimp only;cases DD 4 r with
  |error k=>rfl
  |ok q=>rfl
def YB (s l0 nm:List UInt8) (n k:Nat) (acc:List TC) (t kk:Int):Prop:=
 (kk≠0∧FY l0=.error kk)∨(kk=0∧∃ tn:Nat,t=tn∧tn≤s.length∧FY l0=qA nm (Jl (n - k) acc (s.drop tn)))
theorem YB.start {s l0 nm:List UInt8} {n:Nat} {t k:Int} (h:El s (Pp (Dp 12 l0) (DD 4)) t k (nm,n)):YB s l0 nm n 0 [] t k:=by
 rcases h with ⟨h1,h2⟩|⟨h1,tn,h3,h4,h2⟩
 ·exact .inl ⟨h1,by rw [iK,h2]⟩
 ·exact .inr ⟨h1,tn,h3,h4,by rw [iK,h2];(try rfl)⟩
theorem YB.bad {s l0 nm:List UInt8} {n k:Nat} {acc:List TC} {t kk:Int} (h:YB s l0 nm n k acc t kk) (hk:kk≠0):FY l0=.error kk:=h.elim (fun h=>h.2) (fun h=>absurd h.1 hk)
theorem YB.good {s l0 nm:List UInt8} {n k:Nat} {acc:List TC} {t:Int} (h:YB s l0 nm n k acc t 0):∃ tn:Nat,t=tn∧tn≤s.length∧FY l0=qA nm (Jl (n - k) acc (s.drop tn)):=h.elim (fun h=>absurd rfl h.1) (fun h=>h.2)
theorem YB.step {s l0 nm:List UInt8} {n k tn:Nat} {acc:List TC} {tc:TC} {t kk:Int} (hk:k<n) (h:FY l0=qA nm (Jl (n - k) acc (s.drop tn))) (h2:El s (ED (Cq acc) (s.drop tn)) t kk tc):YB s l0 nm n (k+1) (tc::acc) t kk:=by
 rw [show n - k=(n - (k+1))+1 by omega,Jl] at h;rcases h2 with ⟨h1,h2⟩|⟨h1,m,h3,h4,h2⟩
 ·exact .inl ⟨h1,by rw [h,h2];(try rfl)⟩
 ·exact .inr ⟨h1,m,h3,h4,by rw [h,h2]⟩
def Ap5 (s:List UInt8) (o:PR DC) (w:World) (e:Ending) (w':World):Prop:=
 ∃ (t k:Int) (D:Dm),e=.returned (.tuple #[Iz s t k,.agg D.cs])∧Ai w w'∧Hid (El s o t k D.Ac)∧(k=0→UY w w' (Vb D))
theorem Zk6 {p:Prop} (h:p:=by
 have hk2:(kk==0)=false:=by simpa using hkk
 obtain ⟨D,hD⟩:∃ D:Dm,D=⟨nm,⟨A,k,c,acc⟩⟩:=⟨_,rfl⟩;have hDs:D.cs=#[.string ⟨nm.toArray⟩,.slice A k c]:=by rw [hD]
 have Oe:Hid (El s (FY l0) t kk D.Ac):=.inl ⟨hkk,HI.bad hkk⟩;have HKK:=Aa hkk;rw [←hDs] at H;clear hD hDs hkk HI uS;go_upto_region 14 with fail;clear c0 f0 hk2;refine Cv Za0 ⟨by kernel_rfl,by kernel_rfl,by kernel_rfl,by kernel_rfl,by kernel_rfl,by kernel_rfl,by kernel_rfl,by kernel_rfl⟩ Ar CX (.tmp 1) (.tmp 4) (.tmp 2) (.tmp 3) (.tmp 53) (.tmp 54) rfl rfl rfl rfl rfl rfl rfl rfl rfl rfl _ _ _ _ (H.blk 0 rfl) (H.blk 3 rfl) (H.blk 1 rfl) (H.blk 2 rfl) rfl rfl rfl rfl (AU _ _ _) (Qs D) (H.ne 1 2 Za1 rfl rfl) (H.ne 0 1 Za1 rfl rfl) (H.ne 0 2 Za1 rfl rfl) (H.ne 3 1 Za1 rfl rfl) (H.ne 3 2 Za1 rfl rfl) rfl rfl rfl rfl rfl rfl Za7 Za7 ?_;intro gB Oj Og Gn;replace H:=Aa (H.Tm 1 2 Za1 rfl rfl Gn Oj Og);(try simp only [LS] at H);go_wp2_with fail;refine Bc (Ba rfl Ar CX rfl rfl Oj Og rfl rfl) rfl ?_;exact ⟨t,kk,D,rfl,H.to,Oe,fun h=>absurd h HKK.Ab⟩
):p:=h
theorem pM (s:List UInt8) (t0:Nat) (w:World) (hs:s.length≤140737488351232) (ht0:t0≤s.length):
 Calls prog 111 #[Iz s t0 0] w (Ap5 s (FY (s.drop t0)) w):=by
 obtain ⟨l0,hl0⟩:∃ l0,l0=s.drop t0:=⟨_,rfl⟩;have HT:=Aa (fun w=>NN s t0 12 hs ht0 Xl Xl w);rw [←hl0] at HT;rw [←hl0];clear hl0;have H:=Aa (((((SL.start No w).alloc (DY s t0 0) 141).alloc (DY [] 0 0) 141).alloc #[.string ⟨#[]⟩,.slice none 0 0] 73).alloc #[.string ⟨#[]⟩,.slice none 0 0] 73);(try simp only [LS] at H);go_enter func111,ntmps111;go_wp2_with fail;generalize w.heap.size+1+1+1=g at *;generalize w.heap.size+1+1=z at *;generalize w.heap.size+1=r at *;generalize w.heap.size=a at *;refine (HT _).mono ?_;rintro e w1 ⟨t1,k1,nm,rfl,hb1,hnm,HS⟩;replace H:=Aa (H.Av hb1);have c0:=(H.blk 3 rfl).Ap 0;have f0:=(H.blk 3 rfl).frozen 0;clear hb1 HT;go_wp2_with (first|((with_reducible refine OS 1 ?_);(refine Cj Ar H 0 rfl (DY s t1 k1) (AU _ _ _) ?_;clear H;intro wq H;(try simp only [LS] at H);clear c0 f0;have c0:=(H.blk 3 rfl).Ap 0;have f0:=(H.blk 3 rfl).frozen 0))|((with_reducible refine OP 17 ?_);(replace H:=Aa (H.setCell 3 rfl 0 (.string ⟨nm.toArray⟩));(try simp only [LS] at H);refine Bf Ar (H.blk 0 rfl) ?_)));clear c0 f0;generalize World.setCell _ _ _=w3 at *;refine (Sy s _ t1 k1 nm HS.Ab 4 hs Xl Xl _).mono ?_;rintro e w4 ⟨t,k,n,rfl,hb4,hn4,HS2⟩;replace H:=Aa (H.Av hb4);have HI:=Aa (YB.start HS2.Ab);clear hb4 HS HS2;go_wp2_with ((with_reducible refine OS 1 ?_);(refine Cj Ar H 0 rfl (DY s t k) (AU _ _ _) ?_;clear H;intro wq H;(try simp only [LS] at H)));replace H:=Aa (H.Dw 75 3);(try simp only [LS] at H);replace H:=Aa (H.add (Ai.refl _) (Um (k=0) (RD [])) (EZ fun _=>RZ _) (fun g hg=>by obtain ⟨_,T,hT,_⟩:=hg;cases hT));(try simp only [LS] at H);have uS:Hid (k=0→AZ 0∧(0:Int)=Cq (([]:List Bt).map Bt.Ac)):=fun _=>⟨by unfold AZ;omega,rfl⟩
 go_wp2_with fail;go_loopg [6,7] n (fun gg s6 s7 wr=>∃ (k:Nat) (acc:List Bt) (A:Option Addr) (c:Nat) (t kk ab:Int),gg=n - k∧k≤n∧s7=.int .i64 k∧s6=.int .i64 ab∧Hid (acc.length=k)∧Hid (kk=0→AZ ab∧ab=Cq (acc.map Bt.Ac))∧Hid (SL No w wr [Aw a 141 (DY s t kk),Aw r 141 (DY [] 0 0),Aw z 73 #[.string ⟨#[]⟩,.slice none 0 0],Aw g 73 #[.string ⟨nm.toArray⟩,.slice A k c],Ce 75 3 (.slice A k c) k (acc.flatMap AY.cells),Um (kk=0) (RD acc)])∧Hid (YB s l0 nm n k (acc.map Bt.Ac) t kk));case atStart=>exact ⟨0,[],none,0,t,k,0,rfl,Xl,rfl,rfl,rfl,uS,H,HI⟩
 case round=>
  clear H HI uS;obtain ⟨k,acc,A,c,t,kk,ab,BR,hk,rfl,rfl,hac,uS,H,HI⟩:=hrel;have Cs:=Aa BR;have hk4:k≤4:=by omega
  clear BR;have c0:=(H.blk 0 rfl).Ap 2;have f0:=(H.blk 0 rfl).frozen 2;by_cases hlt:k<n
  ·by_cases hkk:kk=0
   ·subst hkk;obtain ⟨hab,habe⟩:=uS rfl;obtain ⟨tn,rfl,htn,hE⟩:=HI.good;have Kv:=Aa (fun tc t' kk' (hS:El s (ED (Cq (acc.map Bt.Ac)) (s.drop tn)) t' kk' tc)=>YB.step hlt hE hS);rw [←habe] at Kv;clear hE HI uS habe;go_wp2_with ((with_reducible refine OP 32 ?_);(refine Bf Ar (H.blk 0 rfl) ?_));refine (oM s tn ab _ hs htn hab).mono ?_;rintro e w5 ⟨t',k',T,rfl,hb5,hS,hO⟩;replace H:=Aa (H.add hb5 (Um (k'=0) (RF T)) (EZ fun h=>Ma (hO h)) (fun g hg=>zP (hO hg.1) g hg.2));(try simp only [LS] at H);have HI:Hid (YB s l0 nm n (k+1) ((T::acc).map Bt.Ac) t' k'):=Kv _ _ _ hS.Ab;have uS:Hid (k'=0→AZ T.ts.n∧(T.ts.n:Int)=Cq ((T::acc).map Bt.Ac)):=fun h=>by
     have h1:T.ts.l.length=T.ts.n:=Row.rd.len (Bt.rd.ts (hO h).rd);have h2:=(hO h).tn;refine ⟨by unfold AZ;omega,?_⟩;show _=((T.ts.l.length:Nat):Int);rw [h1]
    clear hb5 hS hO Kv c0 f0;go_wp2_with (first|((with_reducible refine OS 8 ?_);(replace H:=Aa ((H.alloc (DY [] 0 0) 141).alloc #[.string ⟨#[]⟩,.slice none 0 0,.slice none 0 0] 75);(try simp only [LS] at H);refine Cj Ar H 7 rfl (DY s t' k') (AU _ _ _) ?_;clear H;intro wq H;(try simp only [LS] at H)))|((with_reducible refine OS 9 ?_);(refine Cj Du H 8 rfl (T.cs) (Lb T) ?_;clear H;intro wq H;(try simp only [LS] at H)))|((with_reducible refine OP 37 ?_);(refine Bf Ar (H.blk 7 rfl) ?_))|((with_reducible refine OS 1 ?_);(refine Cj Ar H 0 rfl (DY s t' k') (AU _ _ _) ?_;clear H;intro wq H;(try simp only [LS] at H);have c1:=(H.blk 8 rfl).Ap 1))|((with_reducible refine OP 41 ?_);(refine Bf Du (H.blk 8 rfl) ?_))|((with_reducible refine OP 42 ?_);(refine AP rfl OV (.tmp 41) rfl (T.cs) rfl rfl Xl ?_;replace H:=Aa (H.Co ((Ai.refl _).alloc _) (CE _ 75 (T.cs) _ rfl));(try simp only [LS] at H);clear c1;have c0:=(H.blk 3 rfl).Ap 1))|((with_reducible refine OP 45 ?_);(refine Az rfl (.tmp 42) (.tmp 44) _ rfl OV 0 (Bj _) _ 1 _ rfl (H.row 9 rfl) A k c (acc.flatMap AY.cells) rfl (Rd.BC (H.row 4 rfl)) (nX acc) Za4 Xl ?_;intro vq wq AJ Aq AQ;replace H:=Aa (H.setRow 9 rfl Aq AJ AQ);(try simp only [LS] at H);clear AJ Aq AQ;obtain ⟨A2,c2,rfl,_⟩:=Ao (H.row 9 rfl);clear c0;have c0:=(H.blk 3 rfl).Ap 1;have f0:=(H.blk 3 rfl).frozen 1)));replace H:=Aa (H.setCell 3 rfl 1 (.slice A2 (1+k) c2));(try simp only [LS] at H);replace H:=Aa (H.both 5 6 Xl rfl rfl (Um (k'=0) (RD (T::acc))) (EZ fun h=>QN (CF (H.get 6 rfl) h) (CF (H.get 5 rfl) (by trivial))) (fun g hg=>(XD g hg.2).imp (fun h=>⟨by trivial,h⟩) (fun h=>⟨hg.1,h⟩)));(try simp only [LS] at H);replace H:=Aa (H.Fg [0,1,2,3,8,5] Za1 uH);(try simp only [LS] at H);clear c0 f0;rw [Oo 1 k] at H ⊢;go_wp2_with fail;go_roundg (n - (k+1))
    case rel=>exact ⟨k+1,T::acc,A2,c2,t',k',T.ts.n,rfl,Xl,by go_num,rfl,by show _=_;rw [En,hac.Ab],uS,H,HI⟩
    case measure=>rw [Cs.Ab];omega
   ·exact Zk6
  ·by_cases hkk:kk=0
   ·subst hkk;obtain ⟨tn,rfl,htn,hE⟩:=HI.good;have HN:Hid (FY l0=RL ⟨nm,acc.map Bt.Ac⟩ (s.drop tn)):=by show _=_;rw [hE,show n - k=0 by omega];(try rfl)
    replace H:=Aa (H.both 4 5 Xl rfl rfl (Vb ⟨nm,⟨A,k,c,acc⟩⟩) (bF Xl hk4 (H.get 4 rfl) (CF (H.get 5 rfl) (by trivial))) (fun g hg=>hg.imp (fun h=>h) (fun h=>⟨by trivial,h⟩)));(try simp only [LS] at H);obtain ⟨D,hD⟩:∃ D:Dm,D=⟨nm,⟨A,k,c,acc⟩⟩:=⟨_,rfl⟩;have hDs:D.cs=#[.string ⟨nm.toArray⟩,.slice A k c]:=by rw [hD]
    have EW:D.Ac=⟨nm,acc.map Bt.Ac⟩:=by rw [hD]
    rw [←hD,←hDs] at H;rw [←EW] at HN;clear hD hDs EW hE HI uS;go_wp2_with ((with_reducible refine OP 50 ?_);(refine Bf CX (H.blk 3 rfl) ?_));refine (XX D _ (H.at_ 4 rfl).rd (by have:=(H.at_ 4 rfl).n4;omega)).mono ?_;rintro e w6 ⟨rfl,hb6⟩;replace H:=Aa (H.Av hb6);clear hb6 c0 f0;have Oe:Hid (El s (FY l0) tn (BD D.Ac) D.Ac):=by
     show El _ _ _ _ _;rw [HN.Ab];unfold RL;by_cases h0:BD D.Ac=0
     ·rw [Al h0];exact .inr ⟨h0,tn,rfl,htn,rfl⟩
     ·rw [Ak h0];exact .inl ⟨h0,rfl⟩
    generalize BD D.Ac=E at *;have c0:=(H.blk 0 rfl).Ap 2;have f0:=(H.blk 0 rfl).frozen 2;go_upto_region 14 with fail;replace H:=Aa (H.setCell 0 rfl 2 (.int .i64 E));(try simp only [LS] at H);clear c0 f0;refine Cv Za0 ⟨by kernel_rfl,by kernel_rfl,by kernel_rfl,by kernel_rfl,by kernel_rfl,by kernel_rfl,by kernel_rfl,by kernel_rfl⟩ Ar CX (.tmp 1) (.tmp 4) (.tmp 2) (.tmp 3) (.tmp 53) (.tmp 54) rfl rfl rfl rfl rfl rfl rfl rfl rfl rfl _ _ _ _ (H.blk 0 rfl) (H.blk 3 rfl) (H.blk 1 rfl) (H.blk 2 rfl) rfl rfl rfl rfl (AU _ _ _) (Qs D) (H.ne 1 2 Za1 rfl rfl) (H.ne 0 1 Za1 rfl rfl) (H.ne 0 2 Za1 rfl rfl) (H.ne 3 1 Za1 rfl rfl) (H.ne 3 2 Za1 rfl rfl) rfl rfl rfl rfl rfl rfl Za7 Za7 ?_;intro gB Oj Og Gn;replace H:=Aa (H.Tm 1 2 Za1 rfl rfl Gn Oj Og);(try simp only [LS] at H);go_wp2_with fail;refine Bc (Ba rfl Ar CX rfl rfl Oj Og rfl rfl) rfl ?_;exact ⟨tn,E,D,rfl,H.to,Oe,fun h=>⟨H.get 4 rfl,H.new 4 rfl⟩⟩
   ·exact Zk6
theorem I4 (up:List Int):(JN up).length≤9 * up.length:=by
 unfold JN;induction up with
 |nil=>simp
 |cons x r ih=>
  rw [Df,Cn,En];have:=Cc x.toNat;omega
theorem Rt {t:TC} {above:Int} (h:Bo t above=0):(Cz t).length≤10000:=by
 obtain ⟨e1,_,e3,e4,_⟩:=EK h;have e5:=PY h;have e6:=Ev e1;have e7:=Zt e4;have e8:=I4 t.up;have e9:=Cc t.nm.length;unfold Cz Dc;simp only [Cn];omega
def OJ (d:DC):List UInt8 × Int:=if BD d=0 then (DK d,0) else ([],BD d)
theorem dM {Bi:List TC}:∀ {k:Nat} {t:TC},Iu Bi→Bi[k]?=some t→Bo t (Cq (Bi.drop (k+1)))=0:=by
 induction Bi with
 |nil=>intro k t h ht;simp at ht
 |cons u r ih=>
  intro k t h ht;cases k with
  |zero=>
   simp at ht;subst ht;exact h.1
  |succ k=>exact ih h.2 (by simpa using ht)
theorem VB {Bi:List TC} {j:Nat} {t:TC} (h:Bi[j]?=some t):(Bi.take (j+1)).reverse.flatMap Cz=Cz t++(Bi.take j).reverse.flatMap Cz:=by
 obtain ⟨hk,rfl⟩:=CB.1 h;rw [Rh hk,List.reverse_append];show List.flatMap Cz (Bi[j]::(Bi.take j).reverse)=_;rw [Df]
theorem Zt3 {p:Prop} (h:p:=by
 go_wp2;go_roundg j;case rel=>exact ⟨j,l++Cz t.Ac,rfl,Xl,rfl,by simp only [Ch],by simp only [Cn];omega,B4,Q4,HN⟩
 case measure=>rw [Cs.Ab];omega
):p:=h
theorem Aa0 (d:Dm) (w:World) (hd:d.rd w) (hn:d.tr.n≤1000000) (hu:∀ t ∈ d.tr.l,t.up.n≤100000):
 Calls prog 164 #[.agg d.cs] w fun e w'=>e=.returned (.tuple #[.string ⟨(OJ d.Ac).1.toArray⟩,.int .i64 (OJ d.Ac).2])∧Ai w w':=by
 have uS:=Aa (fun k (hk:k<d.tr.n) w' (hb:Ai w w')=>dA d k w' (hd.mono hb) hk hn);have HC:=Aa (fun w' (hb:Ai w w')=>Sc d w' (hd.mono hb) hn hu);have hW:=(Ai.refl w).alloc (.cells d.cs 73);have hlen:Hid (d.tr.l.length=d.tr.n):=hd.tr.len;have hnm:=hd.nm;have HD:=Aa hd.tr;have HU:=Aa hu;obtain ⟨nm,⟨A,n,c,Bi⟩⟩:=d;simp only [Dm.cs,Dm.Ac] at *;have HW:=Aa hW;have Q0:=Aa (Bh.new w 73 #[.string ⟨nm.toArray⟩,.slice A n c]);clear hW hd hu;by_cases hE:BD ⟨nm,Bi.map Bt.Ac⟩=0
 ·have HV:Hid (OJ ⟨nm,Bi.map Bt.Ac⟩=(DK ⟨nm,Bi.map Bt.Ac⟩,0)):=by show _=_;unfold OJ;rw [Al hE]
  obtain ⟨e1,e2,e3,e4⟩:=ER hE;simp only [CQ] at e1 e2 e3;have KC:=Aa (Gq e4);have e6:=Ev e1;try simp only at e6
  have hn4:n≤4:=by have:=hlen.Ab;omega
  have hn1:1≤n:=by have:=hlen.Ab;omega
  have hp:(Dc nm).length≤21:=by unfold Dc;rw [Cn];have:=Cc nm.length;omega
  have hp2:=Cc n;have HO:Hid (DK ⟨nm,Bi.map Bt.Ac⟩=(Dc nm++Cx n)++((Bi.map Bt.Ac).take n).reverse.flatMap Cz):=by
   show _=_;unfold DK;rw [EU Zb1];simp only [CQ,hlen.Ab]
  rw [hE] at HC;clear hE e1 e2 e3 e4;go_enter func164,ntmps164;go_wp2_with ((with_reducible refine OP 9 ?_);refine CY rfl CX (.tmp 1) rfl w.heap.size rfl Q0 rfl ?_);refine (HC _ HW.Ab).mono ?_;rintro e w1 ⟨rfl,hb1⟩;have Q1:=Aa (Q0.Av hb1);have B1:=Aa (HW.trans hb1);have c0:=Q1.cell 0;have c1:=Q1.cell 1;simp only [LG] at c0 c1;clear hb1 Q0 HW HC;go_wp2_with fail;have f0:=fun u:Over w1=>Over.cell c0 u
  have f1:=fun u:Over w1=>Over.cell c1 u
  refine Am ?_;repeat (go_big_quiet_step (first|(go_at_call 165;exact AB (OA nm _ Xl))|(go_at_call 123;exact AB (Jt (n:Int) _ Xl Xl))))
  refine CS ?_;rintro w2 ⟨⟨_,hw2⟩,rfl⟩;have Q2:=Aa (Q1.Av hw2);have B2:=Aa (B1.trans hw2);have g1:=Q2.Ap 1;try dsimp only
  clear hw2 f0 f1 c0 c1 Q1 B1;rw [Db];go_wp2_with fail;go_loopg [5,6] n (fun gg o i wr=>∃ (k:Nat) (l:List UInt8),gg=k∧k≤n∧i=.int .i64 ((k:Int) - 1)∧o=.string ⟨l.toArray⟩∧l.length≤30+10000 * (n - k)∧Hid (Ai w wr)∧Hid (Bh wr w.heap.size 73 #[.string ⟨nm.toArray⟩,.slice A n c])∧Hid (DK ⟨nm,Bi.map Bt.Ac⟩=l++((Bi.map Bt.Ac).take k).reverse.flatMap Cz));case atStart=>exact ⟨n,_,rfl,Xl,rfl,by simp only [Ch],by simp only [Cn];omega,B2,Q2,HO⟩
  case round=>
   clear HO B2 Q2 g1;obtain ⟨k,l,BR,hkn,rfl,rfl,hl,hB,hQ,hO⟩:=hrel;have Cs:=Aa BR;clear BR;have g1:=hQ.Ap 1;rcases Vk k with h0|h0
   ·subst h0;have HN:Hid (DK ⟨nm,Bi.map Bt.Ac⟩=l):=by show _=_;rw [hO.Ab];simp
    rw [show ((0:Nat):Int) - 1=-1 from rfl];clear hO;go_wp2;go_ret2;rw [HV.Ab,HN.Ab];exact ⟨rfl,hB.Ab⟩
   ·obtain ⟨j,rfl⟩:∃ j,k=j+1:=⟨k - 1,Xl⟩;rw [show ((j+1:Nat):Int) - 1=(j:Int) by omega];obtain ⟨bb,oo,t,hA,hbb,ht,htr,hrg⟩:=(HD.mono hB.Ab).JO (k:=j) Ze1;simp only at hA;subst hA;have htc:(Bi.map Bt.Ac)[j]?=some t.Ac:=by rw [Ed,ht];(try rfl)
    have hE0:=dM KC htc;have hup:=HU t (CU ht);have hab:=jP HD.all (j+1);have hlt:=Rt hE0;have HN:Hid (DK ⟨nm,Bi.map Bt.Ac⟩=(l++Cz t.Ac)++((Bi.map Bt.Ac).take j).reverse.flatMap Cz):=by show _=_;rw [hO.Ab,VB htc,Ef]
    have hPV:Mr t.Ac (Cq ((Bi.map Bt.Ac).drop (j+1)))=(Cz t.Ac,0):=by unfold Mr;rw [Al hE0]
    have HAB1:Hid (∀ w',Ai w w'→Calls prog 174 #[.agg #[.string ⟨nm.toArray⟩,.slice (some ⟨bb,oo,none⟩) n c],.int .i64 j] w' fun e w''=>e=.returned (.int .i64 (Cq ((Bi.map Bt.Ac).drop (j+1))))∧Ai w' w''):=fun w' hb=>uS j Ze1 w' hb
    have HTP:Hid (∀ w',t.rd w'→Calls prog 189 #[.agg t.cs,.int .i64 (Cq ((Bi.map Bt.Ac).drop (j+1)))] w' fun e w''=>e=.returned (.tuple #[.string ⟨(Cz t.Ac).toArray⟩,.int .i64 0])∧Ai w' w''):=by
     intro w' hr;have:=I5 t (Cq ((Bi.map Bt.Ac).drop (j+1))) w' hr hup hab;rw [hPV] at this;exact this
    have RA:=Aa hrg;have F3:=Aa htr;have i0:(0:Int)≤j:=by omega
    have i1:(j:Int)<n:=by omega
    clear ht htr hrg htc hE0 hO hPV;generalize Cq ((Bi.map Bt.Ac).drop (j+1))=ab at *;go_wp2_with fail;have f1:=fun u:Over wr=>Over.cell g1 u
    refine Am ?_;repeat (first
     |((with_reducible show wpQuiet _ _ _ _ (⟨some 35,_,_,_,_,_⟩::_) _);refine Ah rfl Du (.tmp 34) rfl bb (oo+j * 3) rfl t.cs rfl hbb RA.Ab ?_;simp only [Act.put,LP])
     |((with_reducible show wpQuiet _ _ _ _ (⟨some 36,_,_,_,_,_⟩::_) _);refine Ah rfl CX (.tmp 1) rfl w.heap.size 0 rfl #[.string ⟨nm.toArray⟩,.slice (some ⟨bb,oo,none⟩) n c] rfl hQ.lt hQ.range ?_;simp only [Act.put,LP])
     |go_big_quiet_step ((first|(go_at_call 174;rename_i u;exact AB (HAB1 _ (hB.trans u.Av)))|(go_at_call 189;rename_i u;exact AB (HTP _ (F3.mono u.Av))))))
    refine CS ?_;rintro w4 ⟨⟨_,hw4⟩,rfl⟩;have Q4:=Aa (hQ.Av hw4);have B4:=Aa (hB.trans hw4);try dsimp only
    clear hw4 f1 g1;exact Zt3
 ·have HV:Hid (OJ ⟨nm,Bi.map Bt.Ac⟩=([],BD ⟨nm,Bi.map Bt.Ac⟩)):=by show _=_;unfold OJ;rw [Ak hE]
  have dE:(BD ⟨nm,Bi.map Bt.Ac⟩ !=0)=true:=by simpa using hE
  have dE2:(BD ⟨nm,Bi.map Bt.Ac⟩==0)=false:=by simpa using hE
  clear hE;go_enter func164,ntmps164;go_wp2_with ((with_reducible refine OP 9 ?_);refine CY rfl CX (.tmp 1) rfl w.heap.size rfl Q0 rfl ?_);exact Zv5
theorem wQ (d:Dm) (w:World) (hd:d.rd w) (hE:BD d.Ac=0):
 Calls prog 32 #[.agg d.cs] w fun e w'=>e=.returned (.string ⟨(DK d.Ac).toArray⟩)∧Ai w w':=by
 have hW:=(Ai.refl w).alloc (.cells d.cs 73);have hlen:Hid (d.tr.l.length=d.tr.n):=hd.tr.len;have hnm:=hd.nm;have HD:=Aa hd.tr;obtain ⟨nm,⟨A,n,c,Bi⟩⟩:=d;simp only [Dm.cs,Dm.Ac] at *;have HW:=Aa hW;have Q1:=Aa (Bh.new w 73 #[.string ⟨nm.toArray⟩,.slice A n c]);clear hW hd;obtain ⟨e1,e2,e3,e4⟩:=ER hE;simp only [CQ] at e1 e2 e3;have KC:=Aa (Gq e4);have e6:=Ev e1;try simp only at e6
 have hn4:n≤4:=by have:=hlen.Ab;omega
 have hn1:1≤n:=by have:=hlen.Ab;omega
 have hp:(Dc nm).length≤21:=by unfold Dc;rw [Cn];have:=Cc nm.length;omega
 have hp2:=Cc n;have HO:Hid (DK ⟨nm,Bi.map Bt.Ac⟩=(Dc nm++Cx n)++((Bi.map Bt.Ac).take n).reverse.flatMap Cz):=by
  show _=_;unfold DK;rw [EU Zb1];simp only [CQ,hlen.Ab]
 have c0:=Q1.cell 0;have c1:=Q1.cell 1;simp only [LG] at c0 c1;clear hE e1 e2 e3 e4;go_enter func32,ntmps32;go_wp2_with fail;generalize w.alloc (.cells #[.string ⟨nm.toArray⟩,.slice A n c] 73)=w1 at *;have f0:=fun u:Over w1=>Over.cell c0 u
 have f1:=fun u:Over w1=>Over.cell c1 u
 refine Am ?_;repeat (go_big_quiet_step (first|(go_at_call 30;exact AB (Nj nm _ Xl))|(go_at_call 29;exact AB (Jr (n:Int) _ Xl Xl))))
 refine CS ?_;rintro w2 ⟨⟨_,hw2⟩,rfl⟩;have Q2:=Aa (Q1.Av hw2);have B2:=Aa (HW.trans hw2);have g1:=Q2.Ap 1;try dsimp only
 clear hw2 f0 f1 c0 c1 Q1 HW;rw [Db];go_wp2_with fail;go_loopg [3,4] n (fun gg o i wr=>∃ (k:Nat) (l:List UInt8),gg=k∧k≤n∧i=.int .i64 ((k:Int) - 1)∧o=.string ⟨l.toArray⟩∧l.length≤30+10000 * (n - k)∧Hid (Ai w wr)∧Hid (Bh wr w.heap.size 73 #[.string ⟨nm.toArray⟩,.slice A n c])∧Hid (DK ⟨nm,Bi.map Bt.Ac⟩=l++((Bi.map Bt.Ac).take k).reverse.flatMap Cz));case atStart=>exact ⟨n,_,rfl,Xl,rfl,by simp only [Ch],by simp only [Cn];omega,B2,Q2,HO⟩
 case round=>
  clear HO B2 Q2 g1;obtain ⟨k,l,BR,hkn,rfl,rfl,hl,hB,hQ,hO⟩:=hrel;have Cs:=Aa BR;clear BR;have g1:=hQ.Ap 1;rcases Vk k with h0|h0
  ·subst h0;have HN:Hid (DK ⟨nm,Bi.map Bt.Ac⟩=l):=by show _=_;rw [hO.Ab];simp
   rw [show ((0:Nat):Int) - 1=-1 from rfl];clear hO;go_wp2;go_ret;rw [HN.Ab];exact ⟨rfl,hB.Ab⟩
  ·obtain ⟨j,rfl⟩:∃ j,k=j+1:=⟨k - 1,Xl⟩;rw [show ((j+1:Nat):Int) - 1=(j:Int) by omega];obtain ⟨bb,oo,t,hA,hbb,ht,htr,hrg⟩:=(HD.mono hB.Ab).JO (k:=j) Ze1;simp only at hA;subst hA;have htc:(Bi.map Bt.Ac)[j]?=some t.Ac:=by rw [Ed,ht];(try rfl)
   have hE0:=dM KC htc;have hlt:=Rt hE0;have Ng:=Aa hE0;have HN:Hid (DK ⟨nm,Bi.map Bt.Ac⟩=(l++Cz t.Ac)++((Bi.map Bt.Ac).take j).reverse.flatMap Cz):=by show _=_;rw [hO.Ab,VB htc,Ef]
   have RA:=Aa hrg;have F3:=Aa htr;have i0:(0:Int)≤j:=by omega
   have i1:(j:Int)<n:=by omega
   clear ht htr hrg htc hE0 hO;go_wp2_with ((with_reducible refine OP 26 ?_);refine Af rfl Du (.tmp 25) rfl bb (oo+j * 3) rfl t.cs rfl RA.Ab ?_);refine (wF t _ _ F3 Ng.Ab).mono ?_;rintro e w4 ⟨rfl,hw4⟩;have Q4:=Aa (hQ.Av hw4);have B4:=Aa (hB.trans hw4);clear hw4 g1;exact Zt3
theorem VS {α:Type} {l:List α} {f:α→List UInt8} {m:Nat} (h:∀ x ∈ l,(f x).length≤m):(l.flatMap f).length≤m * l.length:=by
 induction l with
 |nil=>simp
 |cons a r ih=>
  rw [Df,Cn,En,Nat.mul_add];have h1:=h a (Gg ..);have h2:=ih fun x hx=>h x (Ii _ hx)
  omega
theorem Tc {Bi:List TC} (h:Iu Bi) {t:TC} (ht:t ∈ Bi):∃ above,Bo t above=0:=by
 obtain ⟨k,hk⟩:=MZ.1 ht;exact ⟨_,dM h hk⟩
theorem UQ {d:DC} (h:BD d=0):(DK d).length≤50000:=by
 obtain ⟨h1,h2,h3,h4⟩:=ER h;have h5:=Ev h1;have h6:=Cc d.nm.length;have h7:=Cc d.Bi.length;have h8:(d.Bi.reverse.flatMap Cz).length≤10000 * d.Bi.reverse.length:=VS fun t ht=>by
  obtain ⟨a,ha⟩:=Tc (Gq h4) (List.mem_reverse.1 ht);exact Rt ha
 rw [List.length_reverse] at h8;unfold DK Dc;simp only [Cn];omega
end Go.Proofs.YtijplolmkcdflaaGreat
