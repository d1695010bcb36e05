/- What follows was written short by a program: the walks that lead to YtijplolmkcdflaaGreatModelPlays. -/
import Derived.Test.YtijplolmkcdflaaGreatS1
set_option maxHeartbeats 4000000
set_option maxRecDepth 100000
set_option linter.unusedVariables false
set_option linter.unusedSimpArgs false
namespace Go.Proofs.YtijplolmkcdflaaGreat
open Tryz
open Go.RowKit
def Bw {α:Type} (p:List UInt8→PR α):Nat→List α→List UInt8→PR (List α)
 |0,acc,l=>.ok (acc,l)
 |n+1,acc,l=>
  match p l with
  |.error k=>.error k
  |.ok (x,r)=>Bw p n (acc++[x]) r
theorem WT {α:Type} {p:List UInt8→PR α} {put:α→List UInt8} {xs:List α}:∀ {acc:List α} (r:List UInt8),(∀ x ∈ xs,∀ r,p (put x++r)=.ok (x,r))→Bw p xs.length acc (xs.flatMap put++r)=.ok (acc++xs,r):=by
 induction xs with
 |nil=>intro acc r _;simp [Bw]
 |cons x xs ih=>
  intro acc r h;rw [En,Bw,Df,Ef,h x (Gg ..)];simp only;rw [ih r fun y hy=>h y (Ii _ hy)];simp
theorem Us {α:Type} {p:List UInt8→PR α} {put:α→List UInt8} {n:Nat}:∀ {acc xs:List α} {l r:List UInt8},(∀ l x r,p l=.ok (x,r)→l=put x++r)→Bw p n acc l=.ok (xs,r)→∃ ms:List α,xs=acc++ms∧ms.length=n∧l=ms.flatMap put++r:=by
 induction n with
 |zero=>
  intro acc xs l r _ h;injection h with h;injection h with h1 h2;subst h1 h2;exact ⟨[],uH,rfl,rfl⟩
 |succ n ih=>
  intro acc xs l r hp h;rw [Bw] at h;split at h
  ·cases h
  ·rename_i x r1 h1;obtain ⟨ms,e1,e2,e3⟩:=ih hp h;exact ⟨x::ms,by rw [e1];simp,by simp [e2],by rw [hp _ _ _ h1,e3];simp⟩
theorem KP {α:Type} {p:List UInt8→PR α} {n:Nat} {k:Int}:∀ {acc:List α} {l:List UInt8},(∀ l k,p l=.error k→k≠0)→Bw p n acc l=.error k→k≠0:=by
 induction n with
 |zero=>intro acc l _ h;cases h
 |succ n ih=>
  intro acc l hp h;rw [Bw] at h;split at h
  ·rename_i h1;injection h with h;subst h;exact hp _ _ h1
  ·exact ih hp h
theorem GX {α:Type} {p:List UInt8→PR α} {n k:Nat} {acc:List α} {l:List UInt8} (hk:k<n):Bw p (n - k) acc l=match p l with|.error e=>.error e|.ok (x,r)=>Bw p (n - (k+1)) (acc++[x]) r:=by
 rw [show n - k=(n - (k+1))+1 by omega,Bw]
structure SC where
 Dx:List DC
 ms:List (List UInt8)
deriving DecidableEq
def CG:List (List UInt8)→List DC→Int
 |_,[]=>0
 |seen,d::r=>if BD d≠0 then BD d else if d.nm ∈ seen then 11 else CG (seen++[d.nm]) r
def GM:List (List UInt8)→List (List UInt8)→Int
 |_,[]=>0
 |seen,m::r=>if DJ m=true then (if m ∈ seen then 11 else GM (seen++[m]) r) else 2
def Gs (l:List (List UInt8)):Int:=if l.length<1∨3<l.length then 5 else GM [] l
def Ay (s:SC):Int:=if s.Dx.length<1∨16<s.Dx.length then 5 else if CG [] s.Dx≠0 then CG [] s.Dx else Gs s.ms
def Gh (s:SC):List UInt8:=Cx s.Dx.length++s.Dx.flatMap DK++Cx s.ms.length++s.ms.flatMap Dc
def OB (s:SC) (r:List UInt8):PR SC:=if Ay s=0 then .ok (s,r) else .error (Ay s)
def ZZ (ds:List DC) (o:PR (List (List UInt8))):PR SC:=match o with|.error k=>.error k|.ok (ms,r)=>OB ⟨ds,ms⟩ r
def VD (ds:List DC) (l:List UInt8):PR SC:=match DD 3 l with|.error k=>.error k|.ok (n,r)=>ZZ ds (Bw (Dp 12) n [] r)
def aA (o:PR (List DC)):PR SC:=match o with|.error k=>.error k|.ok (ds,r)=>VD ds r
def GU (l:List UInt8):PR SC:=match DD 16 l with|.error k=>.error k|.ok (n,r)=>aA (Bw FY n [] r)
theorem TU {ds:List DC} {k:Nat} {d:DC} {seen:List (List UInt8)} (h:ds[k]?=some d):CG seen (ds.drop k)=if BD d≠0 then BD d else if d.nm ∈ seen then 11 else CG (seen++[d.nm]) (ds.drop (k+1)):=by
 obtain ⟨hk,rfl⟩:=CB.1 h;rw [Eg hk,CG]
theorem TP {ms:List (List UInt8)} {k:Nat} {m:List UInt8} {seen:List (List UInt8)} (h:ms[k]?=some m):GM seen (ms.drop k)=if DJ m=true then (if m ∈ seen then 11 else GM (seen++[m]) (ms.drop (k+1))) else 2:=by
 obtain ⟨hk,rfl⟩:=CB.1 h;rw [Eg hk,GM]
theorem sW {ds:List DC}:∀ {seen:List (List UInt8)},CG seen ds=0→∀ d ∈ ds,BD d=0:=by
 induction ds with
 |nil=>intro seen _ d hd;cases hd
 |cons a r ih=>
  intro seen h d hd;rw [CG] at h;split at h
  ·rename_i h1;exact absurd h h1
  ·rename_i h1;split at h
   ·cases h
   ·rcases FJ.1 hd with rfl|hd
    ·omega
    ·exact ih h d hd
theorem qV {ms:List (List UInt8)}:∀ {seen:List (List UInt8)},GM seen ms=0→∀ m ∈ ms,DJ m=true:=by
 induction ms with
 |nil=>intro seen _ d hd;cases hd
 |cons a r ih=>
  intro seen h d hd;rw [GM] at h;split at h
  ·rename_i h1;split at h
   ·cases h
   ·rcases FJ.1 hd with rfl|hd
    ·exact h1
    ·exact ih h d hd
  ·cases h
theorem BH {s:SC} (h:Ay s=0):1≤s.Dx.length∧s.Dx.length≤16∧(∀ d ∈ s.Dx,BD d=0)∧1≤s.ms.length∧s.ms.length≤3∧∀ m ∈ s.ms,DJ m=true:=by
 unfold Ay at h;split at h
 ·cases h
 ·split at h
  ·rename_i h1;exact absurd h h1
  ·rename_i h1 h2;unfold Gs at h;split at h
   ·cases h
   ·exact ⟨Xl,Xl,sW (seen:=[]) Xl,Xl,Xl,qV (seen:=[]) h⟩
theorem pW {s:SC} (h:Ay s=0) (r:List UInt8):GU (Gh s++r)=.ok (s,r):=by
 obtain ⟨h1,h2,h3,h4,h5,h6⟩:=BH h;have e:Gh s++r=Cx s.Dx.length++(s.Dx.flatMap DK++(Cx s.ms.length++(s.ms.flatMap Dc++r))):=by unfold Gh;simp only [Ef]
 unfold GU;rw [e,RG Xl Xl];simp only;rw [WT (put:=DK) _ fun d hd r=>Af6 (h3 d hd) r];simp only [aA,VD];rw [RG Xl Xl];simp only;rw [WT (put:=Dc) _ fun m hm r=>kX (by have:=Ev (h6 m hm);omega) (by have:=Ev (h6 m hm);omega) r];simp only [ZZ,OB,FC];rw [Al h]
theorem iF {l r:List UInt8} {s:SC} (h:GU l=.ok (s,r)):Ay s=0∧l=Gh s++r:=by
 unfold GU at h;split at h
 ·cases h
 ·rename_i n r1 h1;unfold aA at h;split at h
  ·cases h
  ·rename_i ds r2 h2;unfold VD at h;split at h
   ·cases h
   ·rename_i m r3 h3;unfold ZZ at h;split at h
    ·cases h
    ·rename_i ms r4 h4;unfold OB at h;split at h
     ·rename_i h5;injection h with h;injection h with e1 e2;subst e1 e2;refine ⟨h5,?_⟩;obtain ⟨xs,a1,a2,a3⟩:=Us (put:=DK) (fun l x r h=>(Q3 h).2) h2;obtain ⟨ys,b1,b2,b3⟩:=Us (put:=Dc) (fun l x r h=>KN h) h4;rw [FC] at a1 b1;subst a1 b1;unfold Gh;rw [Fy h1,a3,Fy h3,b3,a2,b2];simp only [Ef]
     ·cases h
theorem ZY {k:Int} {l:List UInt8} (h:GU l=.error k):k≠0:=by
 unfold GU at h;split at h
 ·rename_i h1;injection h with h;subst h;have:=EE h1;omega
 ·unfold aA at h;split at h
  ·rename_i h1;injection h with h;subst h;exact KP (fun l k h=>Af7 h) h1
  ·unfold VD at h;split at h
   ·rename_i h1;injection h with h;subst h;have:=EE h1;omega
   ·unfold ZZ at h;split at h
    ·rename_i h1;injection h with h;subst h;exact KP (fun l k h=>by have:=NQ h;omega) h1
    ·unfold OB at h;split at h
     ·cases h
     ·rename_i h1;injection h with h;subst h;exact h1
end Go.Proofs.YtijplolmkcdflaaGreat
namespace Go.Proofs.YtijplolmkcdflaaGreat
open Tryz
open Go.RowKit Go.ChangeShapes Go.WideShapes Go.Deep
structure Ej where
 dm:Row Dm
 ms:Row (List UInt8)
abbrev Ej.cs (s:Ej):Array Value:=#[.slice s.dm.A s.dm.n s.dm.c,.slice s.ms.A s.ms.n s.ms.c]
structure Ej.rd (w:World) (s:Ej):Prop where
 dm:s.dm.rd w
 ms:s.ms.rd w
theorem Ej.rd.mono {w w':World} {s:Ej} (h:s.rd w) (hb:Ai w w'):s.rd w':=⟨h.dm.mono hb,h.ms.mono hb⟩
instance At0:AY Ej where
 size:=2
 bytes:=48
 cells s:=s.cs.toList
 ok w s:=s.rd w
 len _:=rfl
 pos:=by omega
 mono hb h:=h.mono hb
abbrev Ej.Ac (s:Ej):SC:=⟨s.dm.l.map Dm.Ac,s.ms.l⟩
theorem FE (s:Ej):s.cs.all (·.oneCell')=true:=by simp [Value.oneCell']
theorem Bb:Ep prog 25 2:=⟨⟨_,underlying25,rfl⟩,by kernel_rfl⟩
theorem jC (b k:Nat) (seen:List (List UInt8)) (x:List UInt8) (w:World) (hx:x.length≤140737488351232) (hk:k≤1000000) (hM:w.ownsMap prog 9 (plainElem (H:=Unit) prog 3) b k (Maps.setOf Nl (JP seen))) (hmem:x ∉ seen):
 Calls prog 135 #[.map (some b),.string ⟨x.toArray⟩] w fun e w'=>e=.returned (.bool true)∧w.grownBy w' (some b)∧w'.ownsMap prog 9 (plainElem (H:=Unit) prog 3) b (k+1) (Maps.setOf Nl (JP (seen++[x]))):=by
 have HM:=Aa hM;have F5:Hid ((⟨x.toArray⟩:ByteArray).size≤maxLen):=by show _≤_;unfold maxLen;simp [ByteArray.size];omega
 clear hM;have HA:Hid (∀ c:Int,(Maps.setOf Nl (JP seen)).atKey (.string x) (.lit (.int .i64 0))=.lit (.int .i64 c)→c=0):=by
  intro c h;rw [OO,Ak hmem] at h;injection h with h;injection h with _ h;exact h.symm
 clear hmem;go_enter func135,ntmps135;go_wp2_with (first|((with_reducible refine OP 7 ?_);refine Xw _ rfl (.tmp 5) (.tmp 6) 223 rfl 9 3 .i64 (QE underlying9) underlying223 underlying3 (Mm _) b k _ rfl HM _ (.string x) rfl (QG underlying9 (s:=⟨x.toArray⟩) F5.Ab) ?_;intro c7 Xb hwc7;obtain rfl:=HA c7 Xb;clear Xb hwc7)|((with_reducible show wpList _ _ _ (⟨_,.mapUpdate _ _ _ _,_,_,_,_⟩::_) _ _);refine Zf _ rfl (.tmp 5) (.tmp 6) _ 223 rfl 9 3 (QE underlying9) underlying223 _ b k _ rfl HM Za4 _ _ (.string x) rfl rfl (QG underlying9 (s:=⟨x.toArray⟩) F5.Ab) (.lit (.int .i64 1)) [] (YV underlying3 (G8 Za5)) ?_;intro w5 hown5 hg5;have M5:=Aa hown5;have G5:=Aa hg5;clear hown5 hg5)|((with_reducible refine OP 11 ?_);refine Xw _ rfl (.tmp 9) (.tmp 10) 223 rfl 9 3 .i64 (QE underlying9) underlying223 underlying3 (Mm _) b (k+1) _ rfl M5 _ (.string x) rfl (QG underlying9 (s:=⟨x.toArray⟩) F5.Ab) ?_;intro c11 rU Ai1;obtain rfl:=(Sz seen x 1 c11 rU);clear rU Ai1));go_ret;refine ⟨rfl,G5.Ab,?_⟩;unfold JP;rw [Cf];have:=M5.Ab;rw [←Maps.setOf_snoc] at this;exact this
theorem jB (b k:Nat) (seen:List (List UInt8)) (x:List UInt8) (w:World) (hx:x.length≤140737488351232) (hk:k≤1000000) (hM:w.ownsMap prog 9 (plainElem (H:=Unit) prog 3) b k (Maps.setOf Nl (JP seen))) (hmem:x ∈ seen):
 Calls prog 135 #[.map (some b),.string ⟨x.toArray⟩] w fun e w'=>e=.returned (.bool false)∧w.grownBy w' (some b)∧b<w'.heap.size:=by
 have HM:=Aa hM;have F5:Hid ((⟨x.toArray⟩:ByteArray).size≤maxLen):=by show _≤_;unfold maxLen;simp [ByteArray.size];omega
 clear hM;have HA:Hid (∀ c:Int,(Maps.setOf Nl (JP seen)).atKey (.string x) (.lit (.int .i64 0))=.lit (.int .i64 c)→c=1):=by
  intro c h;rw [OO,Al hmem] at h;injection h with h;injection h with _ h;exact h.symm
 clear hmem;go_enter func135,ntmps135;go_wp2_with (first|((with_reducible refine OP 7 ?_);refine Xw _ rfl (.tmp 5) (.tmp 6) 223 rfl 9 3 .i64 (QE underlying9) underlying223 underlying3 (Mm _) b k _ rfl HM _ (.string x) rfl (QG underlying9 (s:=⟨x.toArray⟩) F5.Ab) ?_;intro c7 Xb hwc7;obtain rfl:=HA c7 Xb;clear Xb hwc7)|((with_reducible show wpList _ _ _ (⟨_,.mapUpdate _ _ _ _,_,_,_,_⟩::_) _ _);refine Zf _ rfl (.tmp 5) (.tmp 6) _ 223 rfl 9 3 (QE underlying9) underlying223 _ b k _ rfl HM Za4 _ _ (.string x) rfl rfl (QG underlying9 (s:=⟨x.toArray⟩) F5.Ab) (.lit (.int .i64 2)) [] (YV underlying3 (G8 Za5)) ?_;intro w5 hown5 hg5;have M5:=Aa hown5;have G5:=Aa hg5;clear hown5 hg5)|((with_reducible refine OP 11 ?_);refine Xw _ rfl (.tmp 9) (.tmp 10) 223 rfl 9 3 .i64 (QE underlying9) underlying223 underlying3 (Mm _) b (k+1) _ rfl M5 _ (.string x) rfl (QG underlying9 (s:=⟨x.toArray⟩) F5.Ab) ?_;intro c11 rU Ai1;obtain rfl:=(Sz seen x 2 c11 rU);clear rU Ai1));go_ret;exact ⟨rfl,G5.Ab,M5.lt⟩
abbrev rAny (b:Nat):FM:=⟨One b,fun _=>True⟩
theorem X9 {w:World} {b:Nat} (h:b<w.heap.size):(rAny b).holds w:=⟨fun _ e=>e ▸ h,fun _ _ _=>trivial⟩
theorem SL.Ad7 {S:Nat→Prop} {w0 w w':World} {l:List FM} (h:SL S w0 w l) (i:Nat) {P:Program} {k:TypeId} {R:Value→Option (DataW Unit × List MemPlace)} {b n n':Nat} {D D':DataW Unit} (hi:l[i]?=some (pU P k R b n D)) (hg:w.grownBy w' (some b)) (hm:w'.ownsMap P k R b n' D'):SL S w0 w' (l.set i (pU P k R b n' D')):=
 h.upd i hi ⟨hg.os,hg.tape,hg.output,hg.size,fun k hk hn=>hg.block k hk (fun e=>hn (by injection e))⟩ _ (iT hm) (fun k hk=>.inl hk)
theorem SL.j6 {S:Nat→Prop} {w0 w w':World} {l:List FM} (h:SL S w0 w l) (i:Nat) {P:Program} {k:TypeId} {R:Value→Option (DataW Unit × List MemPlace)} {b n:Nat} {D:DataW Unit} (hi:l[i]?=some (pU P k R b n D)) (hg:w.grownBy w' (some b)) (hb:b<w'.heap.size):SL S w0 w' (l.set i (rAny b)):=
 h.upd i hi ⟨hg.os,hg.tape,hg.output,hg.size,fun k hk hn=>hg.block k hk (fun e=>hn (by injection e))⟩ _ (X9 hb) (fun k hk=>.inl hk)
theorem SL.allocMap {S:Nat→Prop} {w0 w:World} {l:List FM} (h:SL S w0 w l) (P:Program) (k:TypeId) (R:Value→Option (DataW Unit × List MemPlace)):SL S w0 (w.alloc (.map #[] 0)) (l++[pU P k R w.heap.size 0 (Maps.setOf Nl [])]):=
 h.add ((Ai.refl w).alloc _) _ (iT (World.ownsMap_made w P k R)) (fun g hg=>by cases hg;exact Ci _)
theorem Zd5 {p:Prop} (h:p:=by
 go_roundg (n - (k+1));case rel=>exact ⟨k+1,rfl,Xl,by go_num,H,HN⟩
 case measure=>rw [Cs.Ab];omega
):p:=h
theorem lN (x:Row (List UInt8)) (w:World) (hx:x.rd w) (hn:x.n≤1000000):
 Calls prog 136 #[.slice x.A x.n x.c] w fun e w'=>e=.returned (.int .i64 (Gs x.l))∧Ai w w':=by
 have hlen:Hid (x.l.length=x.n):=hx.len;have HX:=Aa hx;have hmm:=@run_makeMap prog;obtain ⟨A,n,c,ms⟩:=x;simp only at *;clear hx;by_cases hl:1≤n∧n≤3
 ·obtain ⟨hl1,hl2⟩:=hl;have d1:decide ((n:Int)<1)=false:=by simp<;>omega
  have d2:decide ((3:Int)<n)=false:=by simp<;>omega
  have HE:Hid (Gs ms=GM (ms.take 0) (ms.drop 0)):=by show _=_;unfold Gs;rw [Ak Za9];(try rfl)
  have H:=Aa ((SL.start No w).allocMap prog 9 (plainElem (H:=Unit) prog 3));(try simp only [LS] at H);rw [show Maps.setOf Nl []=Maps.setOf Nl (JP (ms.take 0)) from rfl] at H;go_enter func136,ntmps136;go_wp2_with fail;generalize w.heap.size=b at *;clear d1 d2;go_loopg [18] n (fun gg i wr=>∃ k:Nat,gg=n - k∧k≤n∧i=.int .i64 k∧Hid (SL No w wr [pU prog 9 (plainElem (H:=Unit) prog 3) b k (Maps.setOf Nl (JP (ms.take k)))])∧Hid (Gs ms=GM (ms.take k) (ms.drop k)));case atStart=>exact ⟨0,rfl,Xl,rfl,H,HE⟩
  case round=>
   clear H HE;obtain ⟨k,BR,hk,rfl,H,HE⟩:=hrel;have Cs:=Aa BR;clear BR;by_cases hlt:k<n
   ·obtain ⟨bb,oo,m,hA,hm,WZ,hc⟩:=(HX.mono H.to).GR (k:=k) hlt;simp only at hA;subst hA;have HS:=Aa (TP (seen:=ms.take k) hm);have Tg:=Aa (DR hm);have i0:(0:Int)≤k:=by omega
    have i1:(k:Int)<n:=by omega
    clear hm;go_wp2_with fail;refine (Mx m _ Xl).mono ?_;rintro e w1 ⟨rfl,rfl⟩;clear hc;cases hN:DJ m with
    |false=>
     have HN:Hid (Gs ms=2):=by show _=_;rw [HE.Ab,HS.Ab,hN];(try rfl)
     rw [show PD false=2 from rfl];clear HE HS;go_wp2;go_ret;rw [HN.Ab];exact ⟨rfl,H.to⟩
    |true=>
     rw [show PD true=0 from rfl];by_cases hmem:m ∈ ms.take k
     ·have HN:Hid (Gs ms=11):=by show _=_;rw [HE.Ab,HS.Ab,Al hN,Al hmem]
      have HF:=Aa (jB b k (ms.take k) m wr WZ Xl (H.map 0 rfl) hmem);clear HE HS hmem;go_wp2_with fail;refine HF.mono ?_;rintro e w2 ⟨rfl,hg2,hb2⟩;replace H:=Aa (H.j6 0 rfl hg2 hb2);(try simp only [LS] at H);clear hg2 hb2 HF;go_wp2;go_ret;rw [HN.Ab];exact ⟨rfl,H.to⟩
     ·have HN:Hid (Gs ms=GM (ms.take (k+1)) (ms.drop (k+1))):=by show _=_;rw [HE.Ab,HS.Ab,Al hN,Ak hmem,Tg.Ab]
      have HF:=Aa (jC b k (ms.take k) m wr WZ Xl (H.map 0 rfl) hmem);clear HE HS hmem;go_wp2_with fail;refine HF.mono ?_;rintro e w2 ⟨rfl,hg2,hm2⟩;replace H:=Aa (H.Ad7 0 rfl hg2 hm2);(try simp only [LS] at H);rw [←Tg.Ab] at H;clear hg2 hm2 HF;go_wp2;exact Zd5
   ·have HN:Hid (Gs ms=0):=by show _=_;rw [HE.Ab,EN Za9];(try rfl)
    clear HE;go_wp2;go_ret;rw [HN.Ab];exact ⟨rfl,H.to⟩
 ·have HE:Hid (Gs ms=5):=by show _=_;unfold Gs;rw [Al Za9]
  rcases (show n<1∨(1≤n∧3<n) by omega) with h|⟨h,h'⟩
  ·have d1:decide ((n:Int)<1)=true:=by simp<;>omega
   go_enter func136,ntmps136;go_wp2;go_ret;rw [HE.Ab];exact ⟨rfl,Ai.refl _⟩
  ·have d1:decide ((n:Int)<1)=false:=by simp<;>omega
   have d2:decide ((3:Int)<n)=true:=by simp<;>omega
   go_enter func136,ntmps136;go_wp2;go_ret;rw [HE.Ab];exact ⟨rfl,Ai.refl _⟩
theorem GJ (s:Ej) (w:World) (hs:s.rd w) (hn:s.dm.n≤1000000) (hm:s.ms.n≤1000000) (hd:∀ d ∈ s.dm.l,d.tr.n≤1000000∧∀ t ∈ d.tr.l,t.up.n≤100000):
 Calls prog 91 #[.agg s.cs] w fun e w'=>e=.returned (.int .i64 (Ay s.Ac))∧Ai w w':=by
 have hlen:Hid (s.dm.l.length=s.dm.n):=hs.dm.len;have HD:=Aa hs.dm;have HMs:=Aa (fun w' (hb:Ai w w')=>lN s.ms w' (hs.ms.mono hb) hm);have HDD:=Aa hd;have hmm:=@run_makeMap prog;have H:=Aa ((SL.start No w).alloc s.cs 25);(try simp only [LS] at H);obtain ⟨⟨A,n,c,ds⟩,⟨A2,n2,c2,ms⟩⟩:=s;simp only [Ej.cs,Ej.Ac] at *;clear hs hd;by_cases hl:1≤n∧n≤16
 ·obtain ⟨hl1,hl2⟩:=hl;have d1:decide ((n:Int)<1)=false:=by simp<;>omega
  have d2:decide ((16:Int)<n)=false:=by simp<;>omega
  have Ng:Hid (Ay ⟨ds.map Dm.Ac,ms⟩=if CG [] (ds.map Dm.Ac)≠0 then CG [] (ds.map Dm.Ac) else Gs ms):=by show _=_;unfold Ay;simp only [CQ];rw [Ak Za9]
  have HE:Hid (CG [] (ds.map Dm.Ac)=CG ((ds.map Dm.nm).take 0) ((ds.map Dm.Ac).drop 0)):=rfl;replace H:=Aa (H.allocMap prog 9 (plainElem (H:=Unit) prog 3));(try simp only [LS] at H);rw [show Maps.setOf Nl []=Maps.setOf Nl (JP ((ds.map Dm.nm).take 0)) from rfl] at H;go_enter func91,ntmps91;have c0:=(H.blk 0 rfl).Ap 0;go_wp2_with fail;clear c0;generalize w.heap.size+1=b at *;generalize w.heap.size=x at *;clear d1 d2;go_loopg [21] n (fun gg i wr=>∃ k:Nat,gg=n - k∧k≤n∧i=.int .i64 k∧Hid (SL No w wr [Aw x 25 #[.slice A n c,.slice A2 n2 c2],pU prog 9 (plainElem (H:=Unit) prog 3) b k (Maps.setOf Nl (JP ((ds.map Dm.nm).take k)))])∧Hid (CG [] (ds.map Dm.Ac)=CG ((ds.map Dm.nm).take k) ((ds.map Dm.Ac).drop k)));case atStart=>exact ⟨0,rfl,Xl,rfl,H,HE⟩
  case round=>
   clear H HE;obtain ⟨k,BR,hk,rfl,H,HE⟩:=hrel;have Cs:=Aa BR;clear BR;by_cases hlt:k<n
   ·obtain ⟨bb,oo,d,hA,hbb,hdk,hdr,hrg⟩:=(HD.mono H.to).Sd (k:=k) hlt;simp only at hA;subst hA;have rO:(ds.map Dm.Ac)[k]?=some d.Ac:=by rw [Ed,hdk];(try rfl)
    have hdn:(ds.map Dm.nm)[k]?=some d.nm:=by rw [Ed,hdk];(try rfl)
    have Jn:=Aa (TU (seen:=(ds.map Dm.nm).take k) rO);have Tg:=Aa (DR hdn);have WZ:=hdr.nm;obtain ⟨hu1,hu2⟩:=HDD d (CU hdk);have HR:=Aa hrg;have HRd:=Aa hdr;have i0:(0:Int)≤k:=by omega
    have i1:(k:Int)<n:=by omega
    clear hdk hdr hrg rO hdn hbb;go_wp2_with (first|((with_reducible refine OP 24 ?_);(refine Af rfl CX (.tmp 23) rfl bb (oo+k * 2) rfl d.cs rfl HR.Ab ?_))|((with_reducible refine OS 5 ?_);(refine DX CX (d.cs) (Qs d) ?_;replace H:=Aa (H.alloc (d.cs) 73);(try simp only [LS] at H)))|((with_reducible refine OP 25 ?_);(refine Bf CX (H.blk 2 rfl) ?_)));refine (Sc d _ (HRd.mono ((Ai.refl _).alloc _)) hu1 hu2).mono ?_;rintro e w1 ⟨rfl,hb1⟩;replace H:=Aa (H.Av hb1);clear hb1;by_cases hE0:BD d.Ac=0
    ·rw [hE0];have c1:=(H.blk 2 rfl).Ap 0;by_cases hmem:d.nm ∈ (ds.map Dm.nm).take k
     ·have HN:Hid (Ay ⟨ds.map Dm.Ac,ms⟩=11):=by
       show _=_;have h1:CG [] (ds.map Dm.Ac)=11:=by rw [HE.Ab,Jn.Ab,Ak Xl,Al hmem]
       rw [Ng.Ab,h1]
       rfl
      have HF:=Aa (jB b k ((ds.map Dm.nm).take k) d.nm w1 WZ Xl (H.map 1 rfl) hmem);clear HE Ng Jn hmem hE0;go_wp2_with fail;refine HF.mono ?_;rintro e w2 ⟨rfl,hg2,hb2⟩;replace H:=Aa (H.j6 1 rfl hg2 hb2);(try simp only [LS] at H);clear hg2 hb2 HF c1;go_wp2;go_ret;rw [HN.Ab];exact ⟨rfl,H.to⟩
     ·have HN:Hid (CG [] (ds.map Dm.Ac)=CG ((ds.map Dm.nm).take (k+1)) ((ds.map Dm.Ac).drop (k+1))):=by show _=_;rw [HE.Ab,Jn.Ab,Ak Xl,Ak hmem,Tg.Ab]
      have HF:=Aa (jC b k ((ds.map Dm.nm).take k) d.nm w1 WZ Xl (H.map 1 rfl) hmem);clear HE Jn hmem hE0;go_wp2_with fail;refine HF.mono ?_;rintro e w2 ⟨rfl,hg2,hm2⟩;replace H:=Aa (H.Ad7 1 rfl hg2 hm2);(try simp only [LS] at H);replace H:=Aa (H.Fg [0,1] Za1 uH);(try simp only [LS] at H);rw [←Tg.Ab] at H;clear hg2 hm2 HF c1;go_wp2;exact Zd5
    ·have HN:Hid (Ay ⟨ds.map Dm.Ac,ms⟩=BD d.Ac):=by
      show _=_;have h1:CG [] (ds.map Dm.Ac)=BD d.Ac:=by rw [HE.Ab,Jn.Ab,Al hE0]
      rw [Ng.Ab,h1,Al hE0]
     have dE:(BD d.Ac !=0)=true:=by simpa using hE0
     have dE2:(BD d.Ac==0)=false:=by simpa using hE0
     clear HE Ng Jn hE0;go_wp2;go_ret;rw [HN.Ab];exact ⟨rfl,H.to⟩
   ·have HN:Hid (Ay ⟨ds.map Dm.Ac,ms⟩=Gs ms):=by
     show _=_;have h1:CG [] (ds.map Dm.Ac)=0:=by rw [HE.Ab,EN Zb1];(try rfl)
     rw [Ng.Ab,h1]
     rfl
    have c1:=(H.blk 0 rfl).Ap 1;clear HE Ng;go_wp2_with fail;refine (HMs _ H.to).mono ?_;rintro e w2 ⟨rfl,hb2⟩;clear c1;go_wp2;go_ret;rw [HN.Ab];exact ⟨rfl,H.to.trans hb2⟩
 ·have HE:Hid (Ay ⟨ds.map Dm.Ac,ms⟩=5):=by show _=_;unfold Ay;simp only [CQ];rw [Al Za9]
  have c0:=(H.blk 0 rfl).Ap 0;rcases (show n<1∨(1≤n∧16<n) by omega) with h|⟨h,h'⟩
  ·have d1:decide ((n:Int)<1)=true:=by simp<;>omega
   go_enter func91,ntmps91;go_wp2;go_ret;rw [HE.Ab];exact ⟨rfl,H.to⟩
  ·have d1:decide ((n:Int)<1)=false:=by simp<;>omega
   have d2:decide ((16:Int)<n)=true:=by simp<;>omega
   go_enter func91,ntmps91;go_wp2;go_ret;rw [HE.Ab];exact ⟨rfl,H.to⟩
end Go.Proofs.YtijplolmkcdflaaGreat
namespace Go.Proofs.YtijplolmkcdflaaGreat
open Tryz
open Go.RowKit
def Xo (names:List (List UInt8)) (j:Nat) (x:List UInt8):Prop:=∀ i,i<j→names[i]?≠some x
theorem Xo.zero {names:List (List UInt8)} {x:List UInt8}:Xo names 0 x:=fun i hi=>absurd hi Xl
theorem Xo.step {names:List (List UInt8)} {j:Nat} {x y:List UInt8} (h:Xo names j x) (hy:names[j]?=some y) (hne:(y==x)=false):Xo names (j+1) x:=by
 intro i hi;rcases (show i<j∨i=j by omega) with h'|h'
 ·exact h i h'
 ·rw [h',hy];intro e;injection e with e;rw [e] at hne;simp at hne
theorem Xo.all {names:List (List UInt8)} {k:Nat} {x:List UInt8} (h:Xo names k x):x ∉ names.take k:=by
 rw [MZ];rintro ⟨i,hi⟩;by_cases hik:i<k
 ·rw [Jk hik] at hi;exact h i hik hi
 ·rw [Jj Za3] at hi;cases hi
theorem o8 {names:List (List UInt8)} {j k:Nat} {x y:List UInt8} (hjk:j<k) (hy:names[j]?=some y) (he:(y==x)=true):x ∈ names.take k:=by
 rw [MZ];exact ⟨j,by rw [Jk hjk,hy];simpa using he⟩
theorem Zd8 {p:Prop} (h:p:=by have:=OI.Ab;omega):p:=h
theorem GI (s:Ej) (w:World) (hs:s.rd w) (hn:s.dm.n≤1000000) (hm:s.ms.n≤1000000) (hd:∀ d ∈ s.dm.l,d.tr.n≤1000000):
 Calls prog 25 #[.agg s.cs] w fun e w'=>e=.returned (.int .i64 (Ay s.Ac))∧Ai w w':=by
 have hlen:Hid (s.dm.l.length=s.dm.n):=hs.dm.len;have OI:Hid (s.ms.l.length=s.ms.n):=hs.ms.len;have HD:=Aa hs.dm;have HMs:=Aa hs.ms;have HDD:=Aa hd;have H:=Aa ((SL.start No w).alloc s.cs 25);(try simp only [LS] at H);obtain ⟨⟨A,n,c,ds⟩,⟨A2,n2,c2,ms⟩⟩:=s;simp only [Ej.cs,Ej.Ac] at *;clear hs hd;by_cases hl:1≤n∧n≤16
 ·obtain ⟨hl1,hl2⟩:=hl;have d1:decide ((n:Int)<1)=false:=by simp<;>omega
  have d2:decide ((16:Int)<n)=false:=by simp<;>omega
  have Ng:Hid (Ay ⟨ds.map Dm.Ac,ms⟩=if CG [] (ds.map Dm.Ac)≠0 then CG [] (ds.map Dm.Ac) else Gs ms):=by show _=_;unfold Ay;simp only [CQ];rw [Ak Za9]
  have HE:Hid (CG [] (ds.map Dm.Ac)=CG ((ds.map Dm.nm).take 0) ((ds.map Dm.Ac).drop 0)):=rfl;go_enter func25,ntmps25;have c0:=(H.blk 0 rfl).Ap 0;go_wp2_with fail;clear c0;generalize w.heap.size=x at *;clear d1 d2;go_loopg [21] n (fun gg i wr=>∃ k:Nat,gg=n - k∧k≤n∧i=.int .i64 k∧Hid (SL No w wr [Aw x 25 #[.slice A n c,.slice A2 n2 c2]])∧Hid (CG [] (ds.map Dm.Ac)=CG ((ds.map Dm.nm).take k) ((ds.map Dm.Ac).drop k)));case atStart=>exact ⟨0,rfl,Xl,rfl,H,HE⟩
  case round=>
   clear H HE;obtain ⟨k,BR,hk,rfl,H,HE⟩:=hrel;have Cs:=Aa BR;clear BR;by_cases hlt:k<n
   ·obtain ⟨bb,oo,d,hA,hbb,hdk,hdr,hrg⟩:=(HD.mono H.to).Sd (k:=k) hlt;simp only at hA;subst hA;have rO:(ds.map Dm.Ac)[k]?=some d.Ac:=by rw [Ed,hdk];(try rfl)
    have hdn:(ds.map Dm.nm)[k]?=some d.nm:=by rw [Ed,hdk];(try rfl)
    have Jn:=Aa (TU (seen:=(ds.map Dm.nm).take k) rO);have Tg:=Aa (DR hdn);have hu1:=HDD d (CU hdk);have HR:=Aa hrg;have HDK:=Aa hdk;have i0:(0:Int)≤k:=by omega
    have i1:(k:Int)<n:=by omega
    have c0:=(H.blk 0 rfl).Ap 0;clear hdk hrg rO hdn hbb;go_wp2_with ((with_reducible refine OP 28 ?_);(refine Af rfl CX (.tmp 27) rfl bb (oo+k * 2) rfl d.cs rfl HR.Ab ?_));refine (XX d _ hdr hu1).mono ?_;rintro e w1 ⟨rfl,hb1⟩;replace H:=Aa (H.Av hb1);clear hb1 hdr c0 HR;by_cases hE0:BD d.Ac=0
    ·rw [hE0];have zL:Hid (Xo (ds.map Dm.nm) 0 d.nm):=Xo.zero;have HS2:Hid (CG [] (ds.map Dm.Ac)=if d.nm ∈ (ds.map Dm.nm).take k then 11 else CG ((ds.map Dm.nm).take (k+1)) ((ds.map Dm.Ac).drop (k+1))):=by show _=_;rw [HE.Ab,Jn.Ab,Ak Xl,Tg.Ab]
     clear HE Jn hE0;go_wp2_with fail;go_loopg [5] k (fun gg i wx=>∃ j:Nat,gg=k - j∧j≤k∧i=.int .i64 j∧Hid (SL No w wx [Aw x 25 #[.slice (some ⟨bb,oo,none⟩) n c,.slice A2 n2 c2]])∧Hid (Xo (ds.map Dm.nm) j d.nm));case atStart=>exact ⟨0,rfl,Xl,rfl,H,zL⟩
     case round=>
      clear zL H;obtain ⟨j,hgj,hj,rfl,H,zL⟩:=hrel;have Lt:=Aa hgj;clear hgj;by_cases hjk:j<k
      ·obtain ⟨bb',oo',d',hA',hbb',hd',hdr',hrg'⟩:=(HD.mono H.to).Sd (k:=j) Ze1;injection hA' with hA';injection hA' with hA1 hA2;subst hA1 hA2;have cj:=hrg' 0 _ rfl;obtain ⟨bb',oo',d2,hA',hbb2,hd2,hdr2,hrg2⟩:=(HD.mono H.to).Sd (k:=k) hlt;injection hA' with hA';injection hA' with hA1 hA2;subst hA1 hA2;rw [HDK.Ab] at hd2;injection hd2 with hd2;subst hd2;have ck:=hrg2 0 _ rfl;have c0:=(H.blk 0 rfl).Ap 0;simp only [Kb] at cj ck;have uO:Hid ((ds.map Dm.nm)[j]?=some d'.nm):=by show _=_;rw [Ed,hd'];(try rfl)
       have j0:(0:Int)≤j:=by omega
       have j1:(j:Int)<n:=by omega
       clear hd' hrg' hdr' hbb' hbb2 hdr2 hrg2;cases heq:(d'.nm==d.nm) with
       |true=>
        have HN:Hid (Ay ⟨ds.map Dm.Ac,ms⟩=11):=by
         show _=_;have h1:CG [] (ds.map Dm.Ac)=11:=by rw [HS2.Ab,Al (o8 hjk uO heq)]
         rw [Ng.Ab,h1]
         rfl
        clear HS2 Ng;go_wp2_with fail;go_quiet (fail);go_wp2;go_ret;rw [HN.Ab];exact ⟨rfl,(H.drewN _).to⟩
       |false=>
        have HN:=Aa (zL.step uO heq);go_wp2_with fail;go_quiet (fail);go_wp2;go_roundg (k - (j+1));case rel=>exact ⟨j+1,rfl,Xl,by go_num,H.drewN _,HN⟩
        case measure=>rw [Lt.Ab];omega
      ·have HN:Hid (CG [] (ds.map Dm.Ac)=CG ((ds.map Dm.nm).take (k+1)) ((ds.map Dm.Ac).drop (k+1))):=by
        show _=_;obtain rfl:j=k:=by omega
        rw [HS2.Ab,Ak zL.all]
       clear HS2;go_wp2_with fail;exact Zd5
    ·have HN:Hid (Ay ⟨ds.map Dm.Ac,ms⟩=BD d.Ac):=by
      show _=_;have h1:CG [] (ds.map Dm.Ac)=BD d.Ac:=by rw [HE.Ab,Jn.Ab,Al hE0]
      rw [Ng.Ab,h1,Al hE0]
     have dE:(BD d.Ac !=0)=true:=by simpa using hE0
     have dE2:(BD d.Ac==0)=false:=by simpa using hE0
     clear HE Ng Jn hE0;go_wp2;go_ret;rw [HN.Ab];exact ⟨rfl,H.to⟩
   ·have Yz:Hid (Ay ⟨ds.map Dm.Ac,ms⟩=Gs ms):=by
     show _=_;have h1:CG [] (ds.map Dm.Ac)=0:=by rw [HE.Ab,EN Zb1];(try rfl)
     rw [Ng.Ab,h1]
     rfl
    clear HE Ng;have c1:=(H.blk 0 rfl).Ap 1;by_cases hl:1≤n2∧n2≤3
    ·obtain ⟨hl3,hl4⟩:=hl;have d1:decide ((n2:Int)<1)=false:=by simp<;>omega
     have d2:decide ((3:Int)<n2)=false:=by simp<;>omega
     have HM:Hid (Ay ⟨ds.map Dm.Ac,ms⟩=GM (ms.take 0) (ms.drop 0)):=by show _=_;rw [Yz.Ab];unfold Gs;rw [Ak Zd8];(try rfl)
     clear Yz;go_wp2_with fail;clear c1 d1 d2;go_loopg [65] n2 (fun gg i wr=>∃ k:Nat,gg=n2 - k∧k≤n2∧i=.int .i64 k∧Hid (SL No w wr [Aw x 25 #[.slice A n c,.slice A2 n2 c2]])∧Hid (Ay ⟨ds.map Dm.Ac,ms⟩=GM (ms.take k) (ms.drop k)));case atStart=>exact ⟨0,rfl,Xl,rfl,H,HM⟩
     case round=>
      clear H HM;obtain ⟨k2,BR,hk2,rfl,H,HM⟩:=hrel;have Cs:=Aa BR;clear BR;by_cases hlt2:k2<n2
      ·obtain ⟨bb,oo,m,hA,hmk,WZ,hc⟩:=(HMs.mono H.to).GR (k:=k2) hlt2;simp only at hA;subst hA;have Jn:=Aa (TP (seen:=ms.take k2) hmk);have Tg:=Aa (DR hmk);have HMK:=Aa hmk;have i0:(0:Int)≤k2:=by omega
       have i1:(k2:Int)<n2:=by omega
       have c1:=(H.blk 0 rfl).Ap 1;clear hmk;go_wp2_with fail;refine (KM m _ Xl).mono ?_;rintro e w1 ⟨rfl,rfl⟩;clear c1 hc;cases hN:DJ m with
       |false=>
        have HN:Hid (Ay ⟨ds.map Dm.Ac,ms⟩=2):=by show _=_;rw [HM.Ab,Jn.Ab,hN];(try rfl)
        clear HM Jn;go_wp2;go_ret;rw [HN.Ab];exact ⟨rfl,H.to⟩
       |true=>
        have zL:Hid (Xo ms 0 m):=Xo.zero;have HS2:Hid (Ay ⟨ds.map Dm.Ac,ms⟩=if m ∈ ms.take k2 then 11 else GM (ms.take (k2+1)) (ms.drop (k2+1))):=by show _=_;rw [HM.Ab,Jn.Ab,Al hN,Tg.Ab]
        clear HM Jn hN;go_wp2_with fail;go_loopg [7] k2 (fun gg i wx=>∃ j:Nat,gg=k2 - j∧j≤k2∧i=.int .i64 j∧Hid (SL No w wx [Aw x 25 #[.slice A n c,.slice (some ⟨bb,oo,none⟩) n2 c2]])∧Hid (Xo ms j m));case atStart=>exact ⟨0,rfl,Xl,rfl,H,zL⟩
        case round=>
         clear zL H;obtain ⟨j,hgj,hj,rfl,H,zL⟩:=hrel;have Lt:=Aa hgj;clear hgj;by_cases hjk:j<k2
         ·obtain ⟨bb',oo',m',hA',hmj,hml',cj⟩:=(HMs.mono H.to).GR (k:=j) (by show j<n2;omega);injection hA' with hA';injection hA' with hA1 hA2;subst hA1 hA2;obtain ⟨bb',oo',m2,hA',hmk,hml2,ck⟩:=(HMs.mono H.to).GR (k:=k2) hlt2;injection hA' with hA';injection hA' with hA1 hA2;subst hA1 hA2;rw [HMK.Ab] at hmk;injection hmk with hmk;subst hmk;have c1:=(H.blk 0 rfl).Ap 1;have uO:=Aa hmj;have j0:(0:Int)≤j:=by omega
          have j1:(j:Int)<n2:=by omega
          clear hmj;cases heq:(m'==m) with
          |true=>
           have HN:Hid (Ay ⟨ds.map Dm.Ac,ms⟩=11):=by show _=_;rw [HS2.Ab,Al (o8 hjk uO heq)]
           clear HS2;go_wp2_with fail;go_quiet (fail);go_wp2;go_ret;rw [HN.Ab];exact ⟨rfl,(H.drewN _).to⟩
          |false=>
           have HN:=Aa (zL.step uO heq);go_wp2_with fail;go_quiet (fail);go_wp2;go_roundg (k2 - (j+1));case rel=>exact ⟨j+1,rfl,Xl,by go_num,H.drewN _,HN⟩
           case measure=>rw [Lt.Ab];omega
         ·have HN:Hid (Ay ⟨ds.map Dm.Ac,ms⟩=GM (ms.take (k2+1)) (ms.drop (k2+1))):=by
           show _=_;obtain rfl:j=k2:=by omega
           rw [HS2.Ab,Ak zL.all]
          clear HS2;go_wp2_with fail;go_roundg (n2 - (k2+1));case rel=>exact ⟨k2+1,rfl,Xl,by go_num,H,HN⟩
          case measure=>rw [Cs.Ab];omega
      ·have HN:Hid (Ay ⟨ds.map Dm.Ac,ms⟩=0):=by show _=_;rw [HM.Ab,EN Zd8];(try rfl)
       clear HM;go_wp2;go_ret;rw [HN.Ab];exact ⟨rfl,H.to⟩
    ·have HE:Hid (Ay ⟨ds.map Dm.Ac,ms⟩=5):=by show _=_;rw [Yz.Ab];unfold Gs;rw [Al Zd8]
     clear Yz;rcases (show n2<1∨(1≤n2∧3<n2) by omega) with h|⟨h,h'⟩
     ·have d1:decide ((n2:Int)<1)=true:=by simp<;>omega
      go_wp2;go_ret;rw [HE.Ab];exact ⟨rfl,H.to⟩
     ·have d1:decide ((n2:Int)<1)=false:=by simp<;>omega
      have d2:decide ((3:Int)<n2)=true:=by simp<;>omega
      go_wp2;go_ret;rw [HE.Ab];exact ⟨rfl,H.to⟩
 ·have HE:Hid (Ay ⟨ds.map Dm.Ac,ms⟩=5):=by show _=_;unfold Ay;simp only [CQ];rw [Al Za9]
  have c0:=(H.blk 0 rfl).Ap 0;rcases (show n<1∨(1≤n∧16<n) by omega) with h|⟨h,h'⟩
  ·have d1:decide ((n:Int)<1)=true:=by simp<;>omega
   go_enter func25,ntmps25;go_wp2;go_ret;rw [HE.Ab];exact ⟨rfl,H.to⟩
  ·have d1:decide ((n:Int)<1)=false:=by simp<;>omega
   have d2:decide ((16:Int)<n)=true:=by simp<;>omega
   go_enter func25,ntmps25;go_wp2;go_ret;rw [HE.Ab];exact ⟨rfl,H.to⟩
abbrev BS {α:Type} (r:α→FM) (l:List α):FM:=⟨fun g=>∃ a,a ∈ l∧(r a).D g,fun w=>∀ a ∈ l,(r a).p w⟩
theorem Dk {α:Type} (r:α→FM) (w:World):(BS r []).holds w:=⟨fun g ⟨a,ha,_⟩=>(by cases ha),fun w' _ _ a ha=>by cases ha⟩
theorem Bl {α:Type} {r:α→FM} {l:List α} {a:α} {w:World} (h1:(BS r l).holds w) (h2:(r a).holds w):(BS r (l++[a])).holds w:=by
 refine ⟨fun g ⟨u,hu,hg⟩=>?_,fun w' hs hk u hu=>?_⟩
 ·rcases Eb.1 hu with hu|hu
  ·exact h1.1 g ⟨u,hu,hg⟩
  ·rw [Ee] at hu;subst hu;exact h2.1 g hg
 ·rcases Eb.1 hu with hu'|hu'
  ·exact h1.2 w' hs (fun g ⟨v,hv,hg⟩=>hk g ⟨v,List.mem_append_left _ hv,hg⟩) u hu'
  ·rw [Ee] at hu';subst hu';exact h2.2 w' hs fun g hg=>hk g ⟨u,hu,hg⟩
theorem Cg {α:Type} {r:α→FM} {l:List α} {a:α}:∀ g,(BS r (l++[a])).D g→(BS r l).D g∨(r a).D g:=fun g ⟨u,hu,hg⟩=>by
 rcases Eb.1 hu with hu|hu
 ·exact .inl ⟨u,hu,hg⟩
 ·rw [Ee] at hu;subst hu;exact .inr hg
theorem GZ {α:Type} {r:α→FM} {P:Nat→Prop}:∀ g,(BS r []).D g→P g:=fun g ⟨a,ha,_⟩=>by cases ha
structure UX (s:Ej) (w:World):Prop where
 dm:w.ownsRow 0 73 2 (.slice s.dm.A s.dm.n s.dm.c) s.dm.n (s.dm.l.flatMap AY.cells)
 ds:∀ d ∈ s.dm.l,Ym d w
 ms:w.ownsRow 0 9 1 (.slice s.ms.A s.ms.n s.ms.c) s.ms.n (s.ms.l.map tx)
 ml:∀ m ∈ s.ms.l,m.length≤12
 dn:s.dm.n≤16
 mn:s.ms.n≤3
def Ej.D (s:Ej) (g:Nat):Prop:=s.dm.v.ownBlock=some g∨(∃ d,d ∈ s.dm.l∧d.D g)∨s.ms.v.ownBlock=some g
abbrev Kj (s:Ej):FM:=⟨s.D,UX s⟩
theorem UX.rd {s:Ej} {w:World} (h:UX s w):s.rd w:=
 ⟨⟨Rd.BC h.dm,fun d hd=>(h.ds d hd).rd,by have:=h.dn;omega⟩,⟨by have:=Rd.BC h.ms;rw [IQ];exact this,fun t ht=>by have:=h.ml t ht;show t.length≤_;omega,by have:=h.mn;omega⟩⟩
theorem UX.small {s:Ej} {w:World} (h:UX s w):∀ d ∈ s.dm.l,d.tr.n≤1000000∧∀ t ∈ d.tr.l,t.up.n≤100000:=fun d hd=>⟨by have:=(h.ds d hd).n4;omega,fun t ht=>by have:=(h.ds d hd).up t ht;omega⟩
theorem NB {A B:Option Addr} {n c m d:Nat} {ds:List Dm} {ms:List (List UInt8)} {w:World} (h1:(Ce 73 2 (.slice A n c) n (ds.flatMap AY.cells)).holds w) (h2:(BS Vb ds).holds w) (h3:(Ce 9 1 (.slice B m d) m (ms.map tx)).holds w) (h4:∀ x ∈ ms,x.length≤12) (h5:n≤16) (h6:m≤3):(Kj ⟨⟨A,n,c,ds⟩,⟨B,m,d,ms⟩⟩).holds w:=by
 refine ⟨?_,fun w' hs hk=>⟨h1.2 w' hs fun g hg=>hk g (.inl hg),h2.2 w' hs fun g hg=>hk g (.inr (.inl hg)),h3.2 w' hs fun g hg=>hk g (.inr (.inr hg)),h4,h5,h6⟩⟩;rintro g (hg|hg|hg)
 ·exact h1.1 g hg
 ·exact h2.1 g hg
 ·exact h3.1 g hg
abbrev Ej.nil:Ej:=⟨⟨none,0,0,[]⟩,⟨none,0,0,[]⟩⟩
abbrev SC.nil:SC:=⟨[],[]⟩
theorem wE (w:World):Ej.nil.rd w:=⟨Row.MS w,Row.MS w⟩
theorem Zc1 {p:Prop} (h:p:=by intro x hx;cases hx):p:=h
theorem Ko (w:World):(Kj Ej.nil).holds w:=NB (Jg (Tw w 0 _ _)) (Dk _ w) (Jg (Tw w 0 _ _)) Zc1 Xl Xl
theorem Mv {m:Nat}:∀ g,(Kj Ej.nil).D g→m≤g:=by
 rintro g (h|⟨T,hT,_⟩|h)
 ·simp [Row.v,Value.ownBlock] at h
 ·cases hT
 ·simp [Row.v,Value.ownBlock] at h
theorem VV (D:Dm):∀ u ∈ ([.string ⟨D.nm.toArray⟩,.slice D.tr.A D.tr.n D.tr.c]:List Value),u.oneCell'=true:=by simp [Value.oneCell']
abbrev rX (acc:List Dm) (A:Option Addr) (k c:Nat):FM:=⟨fun g=>(Ce 73 2 (.slice A k c) k (acc.flatMap AY.cells)).D g∨(BS Vb acc).D g,fun w=>(Ce 73 2 (.slice A k c) k (acc.flatMap AY.cells)).holds w∧(BS Vb acc).holds w⟩
theorem VO {acc:List Dm} {A:Option Addr} {k c:Nat} {w:World} (h1:(Ce 73 2 (.slice A k c) k (acc.flatMap AY.cells)).holds w) (h2:(BS Vb acc).holds w):(rX acc A k c).holds w:=
 ⟨fun g hg=>hg.elim (h1.1 g) (h2.1 g),fun w' hs hk=>⟨h1.keep hs fun g hg=>hk g (.inl hg),h2.keep hs fun g hg=>hk g (.inr hg)⟩⟩
theorem fA {acc:List Dm} {A:Option Addr} {k c:Nat} {w:World} (h:(rX acc A k c).holds w):(Ce 73 2 (.slice A k c) k (acc.flatMap AY.cells)).holds w∧(BS Vb acc).holds w:=h.now
def Ao9 (b:Nat) (s:List UInt8) (o:PR SC) (w:World) (e:Ending) (w':World):Prop:=
 match o with
 |.error k=>Xm b s k w e w'
 |.ok (d,l)=>∃ D:Ej,e=.returned (.agg D.cs)∧D.Ac=d∧w.grownBy w' (some b)∧Ir w' b s l∧UY w w' (Kj D)
theorem Zi7 {p:Prop} (h:p:=by
 refine Aj Ad trivial fun hHeld=>?_;clear Ad KK;refine BG KW fun KK Ad=>?_;refine AX rfl (.tmp 10) (.tmp 13) _ rfl fV 0 (Bj _) _ k _ rfl (H.row 3 rfl) _ 1 1 _ rfl (Rd.BC (H.row 6 rfl)) (VV D) Za4 Xl ?_;intro vq wq AJ Aq AQ;replace H:=Aa (H.setRow 3 rfl Aq AJ AQ);(try simp only [LS] at H);clear AJ Aq AQ;obtain ⟨A2,c2,rfl,_⟩:=Ao (H.row 3 rfl);refine Aj Ad trivial fun hHeld=>?_;clear Ad KK;refine BG MI fun KK Ad=>?_;go_simp;refine Aj Ad trivial fun hHeld=>?_;clear Ad KK;refine BG Lj fun KK Ad=>?_;have c1:=(H.blk 2 rfl).Ap 0;have f1:=(H.blk 2 rfl).frozen 0;go_simp;replace H:=Aa (H.setCell 2 rfl 0 (.slice A2 (k+1) c2));(try simp only [LS] at H);clear c1 f1;refine Aj Ad trivial fun hHeld=>?_;clear Ad KK;refine BZ ?_;clear hHeld;replace H:=Aa (H.both 4 5 Xl rfl rfl (BS Vb (acc++[D])) (Bl (H.get 4 rfl) (H.get 5 rfl)) Cg);(try simp only [LS] at H);replace H:=Aa (H.Fg [0,1,2,3,4] Za1 uH);(try simp only [LS] at H);have JS:Hid (Bw FY n [] l1=Bw FY (n - (k+1)) ((acc++[D]).map Dm.Ac) l3):=by show _=_;rw [HN.Ab,Cf,Em,EX,OU.Ab]
 go_wp2_with fail;go_roundg (n - (k+1));case rel=>exact ⟨k+1,acc++[D],A2,c2,l3,rfl,Xl,by go_num,by show _=_;rw [Cn,hac.Ab];(try rfl),by rw [EM,Df,Gt,EO];exact H,JS⟩
 case measure=>rw [Cs.Ab];omega
):p:=h
theorem Zj0 {p:Prop} (h:p:=by
 refine Aj Ad trivial fun hHeld=>?_;clear Ad KK;refine BG KW fun KK Ad=>?_;refine AX rfl (.tmp 22) (.tmp 25) _ rfl FB 0 (Bj _) _ j _ rfl (H.row 5 rfl) _ 1 1 _ rfl (AV (H.blk 6 rfl) rfl) Za2 Za4 Xl ?_;intro vq wq AJ Aq AQ;replace H:=Aa (H.setRow 5 rfl Aq AJ AQ);(try simp only [LS] at H);clear AJ Aq AQ;obtain ⟨B2,d2,rfl,_⟩:=Ao (H.row 5 rfl);refine Aj Ad trivial fun hHeld=>?_;clear Ad KK;refine BG MI fun KK Ad=>?_;go_simp;refine Aj Ad trivial fun hHeld=>?_;clear Ad KK;refine BG Lj fun KK Ad=>?_;have c1:=(H.blk 2 rfl).Ap 1;have f1:=(H.blk 2 rfl).frozen 1;go_simp;replace H:=Aa (H.setCell 2 rfl 1 (.slice B2 (j+1) d2));(try simp only [LS] at H);clear c1 f1;refine Aj Ad trivial fun hHeld=>?_;clear Ad KK;refine BZ ?_;clear hHeld;replace H:=Aa (H.Fg [0,1,2,3,4,5] Za1 uH);(try simp only [LS] at H);go_wp2_with fail;go_roundg (m - (j+1));case rel=>exact ⟨j+1,ms++[x],B2,d2,l3,rfl,Xl,by go_num,by show _=_;rw [Cn,hmc.Ab];(try rfl),nD,by rw [Cf];exact H,HN⟩
 case measure=>rw [Lt.Ab];omega
):p:=h
theorem Zc0 {p:Prop} (h:p:=by refine (HT _ (H.Fv 0 rfl)).mono ?_;rintro e w2 ⟨rfl,hg,l3,hr⟩;replace H:=Aa (H.Cb 0 rfl hg hr);(try simp only [LS] at H);clear hg hr;go_wp2_with fail;refine ⟨rfl,?_⟩;rw [HE.Ab];exact ⟨rfl,H.fr.grown,l3,H.Fv 0 rfl⟩):p:=h
theorem Zo9 {p:Prop} (h:p:=by refine Aj Ad trivial fun hHeld=>?_;clear Ad KK;refine BG LJ fun KK Ad=>?_;refine BP rfl FB (.tmp 24) rfl (.string ⟨x.toArray⟩) rfl #[.string ⟨x.toArray⟩] rfl rfl Xl ?_;replace H:=Aa (H.alloc #[.string ⟨x.toArray⟩] 9);(try simp only [LS] at H);exact Zj0):p:=h
theorem Zp3 {p:Prop} (h:p:=by go_simp;refine (HA _ (H.Fv 0 rfl)).mono ?_;rintro e' w3 ⟨rfl,hg3,l3,hr3⟩;replace H:=Aa (H.Cb 0 rfl hg3 hr3);(try simp only [LS] at H);refine ⟨rfl,?_⟩;rw [HE.Ab,show Bw (Dp 12) m [] l2=.error e1 from HN.Ab];exact ⟨rfl,H.fr.grown,l3,H.Fv 0 rfl⟩):p:=h
theorem Zp4 {p:Prop} (h:p:=by go_simp;refine (HA _ (H.Fv 0 rfl)).mono ?_;rintro e' w3 ⟨rfl,hg3,l3,hr3⟩;replace H:=Aa (H.Cb 0 rfl hg3 hr3);(try simp only [LS] at H);refine ⟨rfl,?_⟩;rw [HE.Ab,show Bw FY n [] l1=.error e1 from HN.Ab];exact ⟨rfl,H.fr.grown,l3,H.Fv 0 rfl⟩):p:=h
theorem Zp7 {p:Prop} (h:p:=by refine Aj Ad trivial fun hHeld=>?_;clear Ad KK;refine BG LJ fun KK Ad=>?_;refine BU rfl fV (.tmp 12) rfl (D.cs) rfl rfl Xl ?_;replace H:=Aa (H.Co ((Ai.refl _).alloc _) (CE _ 73 (D.cs) _ rfl));(try simp only [LS] at H);exact Zi7):p:=h
theorem XG (b:Nat) (s l:List UInt8) (w:World) (hR:Ir w b s l):
 Calls prog 90 #[.pointer (some ⟨b,0,none⟩)] w (Ao9 b s (GU l) w):=by
 have hbw:=hR.lt;have H:=Aa (((SL.rdr1 w hR).alloc #[.slice none 0 0,.slice none 0 0] 25).alloc #[.slice none 0 0,.slice none 0 0] 25);(try simp only [LS] at H);clear hR;go_enter func90,ntmps90;go_wp2_with fail;generalize w.heap.size+1=y at *;generalize w.heap.size=z at *;generalize World.alloc (World.alloc _ _) _=w1 at *;have HT:=Aa (IM b s l 16 w1 (H.Fv 0 rfl) Xl Xl);cases hx:DD 16 l with
 |error k=>
  have HE:Hid (GU l=.error k):=by show _=_;unfold GU;rw [hx]
  exact Zq0
 |ok q=>
  obtain ⟨n,l1⟩:=q;have hn16:=(ES hx).2.1;have HE:Hid (GU l=aA (Bw FY n [] l1)):=by show _=_;unfold GU;rw [hx]
  rw [hx] at HT;clear hx;refine HT.mono ?_;rintro e w2 ⟨rfl,hg,hr⟩;replace H:=Aa (H.Cb 0 rfl hg hr);(try simp only [LS] at H);clear hg hr HT;replace H:=Aa (H.Dw 73 2);(try simp only [LS] at H);replace H:=Aa (H.add (Ai.refl _) (BS Vb []) (Dk _ _) GZ);(try simp only [LS] at H);go_wp2_with fail;have HP:Hid (Bw FY n [] l1=Bw FY (n - 0) (([]:List Dm).map Dm.Ac) l1):=rfl;go_loopg [7] n (fun gg s7 wr=>∃ (k:Nat) (acc:List Dm) (A:Option Addr) (c:Nat) (l':List UInt8),gg=n - k∧k≤n∧s7=.int .i64 k∧Hid (acc.length=k)∧Hid (SL (One b) w wr [Qh b s l',Aw z 25 #[.slice none 0 0,.slice none 0 0],Aw y 25 #[.slice A k c,.slice none 0 0],Ce 73 2 (.slice A k c) k (acc.flatMap AY.cells),BS Vb acc])∧Hid (Bw FY n [] l1=Bw FY (n - k) (acc.map Dm.Ac) l'));case atStart=>exact ⟨0,[],none,0,l1,rfl,Xl,rfl,rfl,H,HP⟩
  case round=>
   clear H HP;obtain ⟨k,acc,A,c,l',BR,hk,rfl,hac,H,HP⟩:=hrel;have Cs:=Aa BR;have rH:k≤16:=by omega
   clear BR;by_cases hlt:k<n
   ·have HN:=Aa (HP.trans (GX hlt));have HA:=Aa (fun w (hr:Ir w b s l')=>yJ b s l' w hr);clear HP;go_upto_region 4 with fail;cases hx:FY l' with
    |error e1=>
     rw [hx] at HA HN;clear hx;refine Eo (S:=fun _=>True) Za0 trivial fun hHeld=>?_;replace H:=Aa (H.drew);refine Bd Ml ?_;refine Bd MN ?_;refine Oh KF Ky (fun KK Ad=>?_) fun KK Ad=>?_
     ·have c1:=(H.blk 2 rfl).Ap 0;go_simp;clear c1;refine Aj Ad trivial fun hHeld=>?_;clear Ad KK;refine BG Ky fun KK Ad=>?_;exact Zp4
     ·exact Zp4
    |ok q=>
     obtain ⟨dc,l3⟩:=q;rw [hx] at HA HN;have HN:Hid (Bw FY n [] l1=Bw FY (n - (k+1)) (acc.map Dm.Ac++[dc]) l3):=HN.Ab;clear hx;refine Eo (S:=fun _=>True) Za0 trivial fun hHeld=>?_;replace H:=Aa (H.drew);refine Bd Ml ?_;refine Bd MN ?_;refine Oh KF Ky (fun KK Ad=>?_) fun KK Ad=>?_
     ·have c1:=(H.blk 2 rfl).Ap 0;go_simp;clear c1;refine Aj Ad trivial fun hHeld=>?_;clear Ad KK;refine BG Ky fun KK Ad=>?_;go_simp;refine (HA _ (H.Fv 0 rfl)).mono ?_;rintro e' w3 ⟨D,rfl,EW,hg3,hr3,hnew⟩;replace H:=Aa (H.Jf 0 rfl hg3 hr3 (Vb D) hnew.1 hnew.2);(try simp only [LS] at H);have OU:=Aa EW;clear hg3 hr3 hnew EW;exact Zp7
     ·go_simp;refine (HA _ (H.Fv 0 rfl)).mono ?_;rintro e' w3 ⟨D,rfl,EW,hg3,hr3,hnew⟩;replace H:=Aa (H.Jf 0 rfl hg3 hr3 (Vb D) hnew.1 hnew.2);(try simp only [LS] at H);have OU:=Aa EW;clear hg3 hr3 hnew EW;refine Aj Ad trivial fun hHeld=>?_;clear Ad KK;refine Oh KF LJ (fun KK Ad=>?_) fun KK Ad=>?_
      ·have c1:=(H.blk 2 rfl).Ap 0;go_simp;clear c1;exact Zp7
      ·refine BU rfl fV (.tmp 12) rfl (D.cs) rfl rfl Xl ?_;replace H:=Aa (H.Co ((Ai.refl _).alloc _) (CE _ 73 (D.cs) _ rfl));(try simp only [LS] at H);refine Aj Ad trivial fun hHeld=>?_;clear Ad KK;refine BG KF fun KK Ad=>?_;have c1:=(H.blk 2 rfl).Ap 0;go_simp;clear c1;exact Zi7
   ·have Yz:Hid (GU l=VD (acc.map Dm.Ac) l'):=by show _=_;rw [HE.Ab,HP.Ab,show n - k=0 by omega];(try rfl)
    clear HP HE;have HT:=Aa (fun w (hr:Ir w b s l')=>IM b s l' 3 w hr Xl Xl);go_wp2_with fail;cases hx:DD 3 l' with
    |error e1=>
     have HE:Hid (GU l=.error e1):=by show _=_;rw [Yz.Ab];unfold VD;rw [hx]
     rw [hx] at HT;clear hx Yz;exact Zc0
    |ok q=>
     obtain ⟨m,l2⟩:=q;have Y0:=(ES hx).2.1;have HE:Hid (GU l=ZZ (acc.map Dm.Ac) (Bw (Dp 12) m [] l2)):=by show _=_;rw [Yz.Ab];unfold VD;rw [hx]
     rw [hx] at HT;clear hx Yz;refine (HT _ (H.Fv 0 rfl)).mono ?_;rintro e w2 ⟨rfl,hg,hr⟩;replace H:=Aa (H.Cb 0 rfl hg hr);(try simp only [LS] at H);clear hg hr HT;replace H:=Aa (H.Dw 9 1);(try simp only [LS] at H);go_wp2_with fail;have HP:Hid (Bw (Dp 12) m [] l2=Bw (Dp 12) (m - 0) [] l2):=rfl;have TW:Hid (∀ x ∈ ([]:List (List UInt8)),x.length≤12):=by show ∀ x ∈ ([]:List (List UInt8)),_;intro x hx;cases hx
     go_loopg [19] m (fun gg s19 wr=>∃ (j:Nat) (ms:List (List UInt8)) (B:Option Addr) (d:Nat) (l':List UInt8),gg=m - j∧j≤m∧s19=.int .i64 j∧Hid (ms.length=j)∧Hid (∀ x ∈ ms,x.length≤12)∧Hid (SL (One b) w wr [Qh b s l',Aw z 25 #[.slice none 0 0,.slice none 0 0],Aw y 25 #[.slice A k c,.slice B j d],Ce 73 2 (.slice A k c) k (acc.flatMap AY.cells),BS Vb acc,Ce 9 1 (.slice B j d) j (ms.map tx)])∧Hid (Bw (Dp 12) m [] l2=Bw (Dp 12) (m - j) ms l'));case atStart=>exact ⟨0,[],none,0,l2,rfl,Xl,rfl,rfl,TW,H,HP⟩
     case round=>
      clear H HP TW;obtain ⟨j,ms,B,d,l',hgj,hj,rfl,hmc,TW,H,HP⟩:=hrel;have Lt:=Aa hgj;have hj3:j≤3:=by omega
      clear hgj;by_cases hlt2:j<m
      ·have HN:=Aa (HP.trans (GX hlt2));have HA:=Aa (fun w (hr:Ir w b s l')=>NL b s l' 12 w hr Xl Xl);clear HP;go_upto_region 8 with fail;cases hx:Dp 12 l' with
       |error e1=>
        rw [hx] at HA HN;clear hx;refine Eo (S:=fun _=>True) Za0 trivial fun hHeld=>?_;replace H:=Aa (H.drew);refine Bd Ml ?_;refine Bd MN ?_;refine Oh KF Ky (fun KK Ad=>?_) fun KK Ad=>?_
        ·have c1:=(H.blk 2 rfl).Ap 1;go_simp;clear c1;refine Aj Ad trivial fun hHeld=>?_;clear Ad KK;refine BG Ky fun KK Ad=>?_;exact Zp3
        ·exact Zp3
       |ok q=>
        obtain ⟨x,l3⟩:=q;have hx12:=(Mj hx).1;have nD:Hid (∀ y ∈ ms++[x],y.length≤12):=by
         intro y hy;rcases Eb.1 hy with hy|hy
         ·exact TW y hy
         ·rw [Ee] at hy;subst hy;omega
        rw [hx] at HA HN;have HN:Hid (Bw (Dp 12) m [] l2=Bw (Dp 12) (m - (j+1)) (ms++[x]) l3):=HN.Ab;clear hx;refine Eo (S:=fun _=>True) Za0 trivial fun hHeld=>?_;replace H:=Aa (H.drew);refine Bd Ml ?_;refine Bd MN ?_;refine Oh KF Ky (fun KK Ad=>?_) fun KK Ad=>?_
        ·have c1:=(H.blk 2 rfl).Ap 1;go_simp;clear c1;refine Aj Ad trivial fun hHeld=>?_;clear Ad KK;refine BG Ky fun KK Ad=>?_;go_simp;refine (HA _ (H.Fv 0 rfl)).mono ?_;rintro e' w3 ⟨rfl,hg3,hr3⟩;replace H:=Aa (H.Cb 0 rfl hg3 hr3);(try simp only [LS] at H);clear hg3 hr3;exact Zo9
        ·go_simp;refine (HA _ (H.Fv 0 rfl)).mono ?_;rintro e' w3 ⟨rfl,hg3,hr3⟩;replace H:=Aa (H.Cb 0 rfl hg3 hr3);(try simp only [LS] at H);clear hg3 hr3;refine Aj Ad trivial fun hHeld=>?_;clear Ad KK;refine Oh KF LJ (fun KK Ad=>?_) fun KK Ad=>?_
         ·have c1:=(H.blk 2 rfl).Ap 1;go_simp;clear c1;exact Zo9
         ·refine BP rfl FB (.tmp 24) rfl (.string ⟨x.toArray⟩) rfl #[.string ⟨x.toArray⟩] rfl rfl Xl ?_;replace H:=Aa (H.alloc #[.string ⟨x.toArray⟩] 9);(try simp only [LS] at H);refine Aj Ad trivial fun hHeld=>?_;clear Ad KK;refine BG KF fun KK Ad=>?_;have c1:=(H.blk 2 rfl).Ap 1;go_simp;clear c1;exact Zj0
      ·have HN:Hid (GU l=OB ⟨acc.map Dm.Ac,ms⟩ l'):=by show _=_;rw [HE.Ab,HP.Ab,show m - j=0 by omega];(try rfl)
       clear HP HE;replace H:=Aa (H.both 3 4 Xl rfl rfl (rX acc A k c) (VO (H.get 3 rfl) (H.get 4 rfl)) (fun g hg=>hg));(try simp only [LS] at H);replace H:=Aa (H.both 3 4 Xl rfl rfl (Kj ⟨⟨A,k,c,acc⟩,⟨B,j,d,ms⟩⟩) (NB (fA (H.get 3 rfl)).1 (fA (H.get 3 rfl)).2 (H.get 4 rfl) TW rH hj3) (fun g hg=>hg.elim (fun h=>.inl (.inl h)) (fun h=>h.elim (fun h=>.inl (.inr h)) .inr)));(try simp only [LS] at H);obtain ⟨D,hD⟩:∃ D:Ej,D=⟨⟨A,k,c,acc⟩,⟨B,j,d,ms⟩⟩:=⟨_,rfl⟩;have hDs:D.cs=#[.slice A k c,.slice B j d]:=by rw [hD]
       have EW:D.Ac=⟨acc.map Dm.Ac,ms⟩:=by rw [hD]
       rw [←hD,←hDs] at H;rw [←EW] at HN;clear hD hDs EW;go_wp2_with ((with_reducible refine OP 29 ?_);(refine Bf Bb (H.blk 2 rfl) ?_));refine (GJ D _ (H.at_ 3 rfl).rd (by have:=(H.at_ 3 rfl).dn;omega) (by have:=(H.at_ 3 rfl).mn;omega) (H.at_ 3 rfl).small).mono ?_;rintro e w5 ⟨rfl,hb5⟩;replace H:=Aa (H.Av hb5);clear hb5;by_cases hE0:Ay D.Ac=0
       ·have JS:Hid (GU l=.ok (D.Ac,l')):=by show _=_;rw [HN.Ab];unfold OB;rw [Al hE0]
        rw [hE0];clear hE0 HN;go_wp2_with fail;refine (Mq b s l' 0 _ (H.Fv 0 rfl)).mono ?_;rintro e w6 ⟨rfl,rfl⟩;go_wp2_with (first|((with_reducible refine OP 36 ?_);(refine Bf Bb (H.blk 2 rfl) ?_))|((with_reducible refine OS 2 ?_);(refine Cj Bb H 1 rfl (D.cs) (FE D) ?_;clear H;intro wq H;(try simp only [LS] at H))));refine Bc (AO rfl Bb rfl (H.blk 1 rfl) rfl) rfl ?_;rw [JS.Ab];exact ⟨D,rfl,rfl,H.fr.grown,H.Fv 0 rfl,H.get 3 rfl,H.VG 3 0 Xl rfl rfl rfl⟩
       ·have JS:Hid (GU l=.error (Ay D.Ac)):=by show _=_;rw [HN.Ab];unfold OB;rw [Ak hE0]
        have HW:Hid (Gr (Ay D.Ac)=Ay D.Ac):=by show _=_;unfold Gr;rw [Ak hE0]
        have dE:(Ay D.Ac==0)=false:=by simpa using hE0
        clear hE0 HN;go_wp2_with fail;refine (JB b s l' (Ay D.Ac) _ (H.Fv 0 rfl)).mono ?_;rintro e w6 ⟨rfl,rfl⟩;go_wp2_with fail;refine ⟨rfl,?_⟩;rw [JS.Ab,HW.Ab];exact ⟨rfl,H.fr.grown,_,H.Fv 0 rfl⟩
def Rsch (w0:World) (s:List UInt8) (B g:Nat) (l:List FM) (o:PR SC) (K:PR SC→Int) (k:Int) (w':World):Prop:=
 k=K o∧∃ (D:Ej) (q:List UInt8),SL No w0 w' (Kl B s q (Aw g 25 D.cs::(l++[Kj D])))∧∀ d r,o=.ok (d,r)→D.Ac=d
theorem kQ (w0:World) (B g:Nat) (s:List UInt8) (w:World) (l:List FM) (h:SL No w0 w (Kl B s s (Aw g 25 Ej.nil.cs::l))):
 Calls prog 89 #[.pointer (some ⟨B+1,0,none⟩),.pointer (some ⟨g,0,none⟩)] w (Nu B s (Rsch w0 s B g l (GU s) cZ)):=by
 have HT:=Aa (XG (B+1) s s w (h.Fv 0 rfl));have H:=Aa h;clear h;go_enter func89,ntmps89;go_wp2_with fail;cases ho:GU s with
 |error k=>
  have Ho:=Aa ho;rw [ho] at HT;refine HT.mono ?_;rintro e w1 ⟨rfl,hg,l1,hr⟩;have H1:SL No w0 w1 (Kl B s l1 (Aw g 25 Ej.nil.cs::(l++[Kj Ej.nil]))):=(H.readAll hg hr).add (Ai.refl _) _ (Ko w1) Mv;clear ho hg hr H;go_wp2_with fail;refine ⟨rfl,?_⟩;exact SL.err H1 ⟨rfl,Ej.nil,l1,H1,fun _ _ h=>by cases h⟩
 |ok q=>
  obtain ⟨d,l1⟩:=q;have Ho:=Aa ho;rw [ho] at HT;refine HT.mono ?_;rintro e w1 ⟨D,rfl,EW,hg,hr,hnew⟩;have OU:=Aa EW;have H1:SL No w0 w1 (Kl B s l1 (Aw g 25 Ej.nil.cs::(l++[Kj D]))):=H.ZR hg hr (Kj D) hnew.1 hnew.2;clear ho hg hr H EW hnew HT;go_wp2_with ((with_reducible refine OS 1 ?_);refine Ae rfl Bb (.tmp 1) (.tmp 4) rfl g rfl (H1.blk 3 rfl) rfl D.cs rfl rfl (FE D) ?_;intro w2 b2 hg2);go_end0;have H2:SL No w0 w2 (Kl B s l1 (Aw g 25 D.cs::(l++[Kj D]))):=H1.AA 3 rfl hg2 b2;exact SL.ok H2 ⟨by rw [Ho.Ab];(try rfl),D,l1,H2,fun d' r' h=>by rw [Ho.Ab] at h;injection h with h;injection h with h _;exact OU.trans h⟩
def Ex (s:List UInt8):SC × Int:=
 match GU s with
 |.error k=>(SC.nil,k)
 |.ok (t,l)=>if l=[] then (t,0) else (SC.nil,3)
def Aw8 (r:SC × Int) (w:World) (e:Ending) (w':World):Prop:=∃ D:Ej,e=.returned (.tuple #[.agg D.cs,.int .i64 r.2])∧D.Ac=r.1∧Ai w w'∧UY w w' (Kj D)
theorem Zo6 {p:Prop} (h:p:=by go_wp2_with ((with_reducible refine OS 2 ?_);(refine Cj Bb H 1 rfl (#[.slice none 0 0,.slice none 0 0]) Za2 ?_;clear H;intro wq H;(try simp only [LS] at H)));refine Bc (Au rfl Bb rfl (H.blk 1 rfl) rfl) rfl ?_;rw [HT.Ab];exact ⟨Ej.nil,rfl,rfl,H.to,Ko _,Mv⟩):p:=h
theorem oH (s:List UInt8) (w:World) (hs:s.length≤140737488351232):
 Calls prog 56 #[.string ⟨s.toArray⟩] w (Aw8 (Ex s) w):=by
 have hmf:∀ (fn:Fn) (first cap:Array Value) (w:World),(Instr.makeFunc fn first cap).run prog w=.ok (.func fn first cap) w:=fun _ _ _ _=>rfl
 have H:=Aa (((SL.start No w).alloc #[.slice none 0 0,.slice none 0 0] 25).alloc #[.slice none 0 0,.slice none 0 0] 25);(try simp only [LS] at H);go_enter func56,ntmps56;go_wp2_with fail;replace H:=Aa (H.Fg [1,0] Za1 uH);(try simp only [LS] at H);generalize hzg:w.heap.size+1=g at *;clear hzg;generalize w.heap.size=z at *;generalize (w.alloc (.cells #[.slice none 0 0,.slice none 0 0] 25)).alloc (.cells #[.slice none 0 0,.slice none 0 0] 25)=W at *;refine (YP 89 #[.pointer (some ⟨g,0,none⟩)] s W hs (Rsch w s W.heap.size g [Aw z 25 #[.slice none 0 0,.slice none 0 0]] (GU s) cZ) (mH func89 Za0 Za0) (fun w4 h1 h2 h3 h4 h5=>kQ w W.heap.size g s w4 _ (H.begin h1 h3 h4 h5))).mono ?_;rintro e w5 ⟨k,w4,rfl,⟨hk,D,q,hS,hD⟩,Gn,_⟩;replace H:=Aa (hS.ended Gn);(try simp only [LS] at H);clear hS Gn;generalize W.heap.size=B at *;cases hT:GU s with
 |error k'=>
  have HT:Hid (Ex s=(SC.nil,k')):=by show _=_;unfold Ex;rw [hT]
  have hk':=ZY hT;rw [hT] at hk;have hk2:k=k':=hk;subst hk2;have dk:(k==0)=false:=by simpa using hk'
  have dk2:(k !=0)=true:=by simpa using hk'
  clear hT hk hk' hD;exact Zo6
 |ok q=>
  obtain ⟨t,l⟩:=q;rw [hT] at hk;obtain rfl:=hD _ _ hT;by_cases hl:l=[]
  ·have HT:Hid (Ex s=(D.Ac,0)):=by show _=_;unfold Ex;rw [hT];simp [hl]
   have hk2:k=0:=by rw [hk];show (if l=[] then (0:Int) else 3)=0;rw [Al hl]
   subst hk2;clear hT hk hl hD;go_wp2_with (first|((with_reducible refine OP 13 ?_);(refine Bf Bb (H.blk 0 rfl) ?_))|((with_reducible refine OS 2 ?_);(refine Cj Bb H 1 rfl (D.cs) (FE D) ?_;clear H;intro wq H;(try simp only [LS] at H))));refine Bc (Au rfl Bb rfl (H.blk 1 rfl) rfl) rfl ?_;rw [HT.Ab];exact ⟨D,rfl,rfl,H.to,H.get 2 rfl,H.new 2 rfl⟩
  ·have HT:Hid (Ex s=(SC.nil,3)):=by show _=_;unfold Ex;rw [hT];simp [hl]
   have hk2:k=3:=by rw [hk];show (if l=[] then (0:Int) else 3)=3;rw [Ak hl]
   subst hk2;clear hT hk hl hD;exact Zo6
section
variable {P : Program} {w : World}
theorem Je {ops:Array Oper} {o:Oper} {a:Act} {K:Act→World→Prop} {Q:Exit→Act→World→Prop} {X:Prop} (hgd:o.guard=none) {ty:TypeId} {n:Nat} (R:Ep P ty n) (x:Operand) (ho:o.op=.load ty x)
 (g:Nat) (hx:a.eval x=.pointer (some ⟨g,0,none⟩)) {t:TypeId} {cs:Array Value} (hb:Bh w g t cs) (hn:cs.size=n)
 (h:K (a.put o.dst (.agg cs)) w):if Region.wanted o (yielded ops a.tmps)=true then Oper.wp P o a w K Q else X:=by
 have hw:Region.wanted o (yielded ops a.tmps)=true:=by simp [Region.wanted,hgd]
 rw [Al hw];obtain ⟨d,hu,hd⟩:=R.hu;exact wp_load_mid ty x ho g 0 hx cs.toList d hb.range hu hd Zb6 Zb3
end
theorem At7 {S:Nat→Prop} {w0 w:World} {l:List FM} (H:SL S w0 w l) (i j k m:Nat) {g0 g1 g2 g3:Nat} (h0:l[i]?=some (Aw g0 9 #[.string ⟨#[97]⟩]))
 (h1:l[j]?=some (Aw g1 75 #[.string ⟨#[116]⟩,.slice (some ⟨g0,0,none⟩) 1 1,.slice none 0 0])) (h2:l[k]?=some (Aw g2 73 #[.string ⟨#[100]⟩,.slice (some ⟨g1,0,none⟩) 1 1])) (h3:l[m]?=some (Aw g3 9 #[.string ⟨#[109]⟩])):
 (Ej.mk ⟨some ⟨g2,0,none⟩,1,1,[⟨[100],⟨some ⟨g1,0,none⟩,1,1,[⟨[116],⟨some ⟨g0,0,none⟩,1,1,[[97]]⟩,⟨none,0,0,[]⟩⟩]⟩⟩]⟩ ⟨some ⟨g3,0,none⟩,1,1,[[109]]⟩).rd w:=by
 refine ⟨⟨AV (m:=1) (H.blk k h2) rfl,fun D hD=>?_,by show (1:Nat)≤_;omega⟩,⟨?_,fun t ht=>?_,by show (1:Nat)≤_;omega⟩⟩
 ·rw [Ee] at hD;subst hD;exact At8 H i j (m:=1) (nm:=[100]) (tn:=[116]) (ts:=[[97]]) h0 rfl rfl h1 uH uH (by intro t ht;simp at ht;subst ht;simp) Xl
 ·have:=AV (m:=1) (size:=1) (H.blk m h3) rfl;rw [IQ];exact this
 ·simp at ht;subst ht;show ([109]:List UInt8).length≤_;simp
abbrev exDC:DC:=⟨[100],[⟨[116],[[97]],[]⟩]⟩
theorem Aj7:Ay ⟨[exDC],[[109]]⟩=0:=by decide+kernel
theorem oJ (a b:DC):Oy a b=(a==b):=by
 obtain ⟨n1,t1⟩:=a;obtain ⟨n2,t2⟩:=b;unfold Oy;rw [Wy];simp
theorem q9 {α:Type} [BEq α] {xs ys:List α} {k:Nat} {a b:α} (ha:xs[k]?=some a) (hb:ys[k]?=some b):(xs.drop k==ys.drop k)=((a==b) && (xs.drop (k+1)==ys.drop (k+1))):=by
 obtain ⟨h1,rfl⟩:=CB.1 ha;obtain ⟨h2,rfl⟩:=CB.1 hb;rw [Eg h1,Eg h2]
 rfl
def Ld (a b:SC):Bool:=(a.Dx==b.Dx) && (a.ms==b.ms)
theorem Ah3 {α:Type} [BEq α] [LawfulBEq α] {xs ys:List α} (h:xs.length≠ys.length):(xs==ys)=false:=by
 rw [Xt];intro e;exact h (by rw [e])
theorem oI (s t:Ej) (w:World) (hs:s.rd w) (ht:t.rd w):
 Calls prog 80 #[.agg s.cs,.agg t.cs] w fun e w'=>e=.returned (.bool (Ld s.Ac t.Ac))∧Ai w w':=by
 have hl1:Hid (s.dm.l.length=s.dm.n):=hs.dm.len;have hl2:Hid (s.ms.l.length=s.ms.n):=hs.ms.len;have hl3:Hid (t.dm.l.length=t.dm.n):=ht.dm.len;have hl4:Hid (t.ms.l.length=t.ms.n):=ht.ms.len;have HD:=Aa hs.dm;have HM:=Aa hs.ms;have HE:=Aa ht.dm;have HO:=Aa ht.ms;have n63:=hs.dm.n63;have m63:=hs.ms.n63;have H:=Aa (((SL.start No w).alloc s.cs 25).alloc t.cs 25);(try simp only [LS] at H);obtain ⟨⟨A,n,c,ds⟩,⟨A2,n2,c2,ms⟩⟩:=s;obtain ⟨⟨B,m,d,es⟩,⟨B2,m2,d2,os⟩⟩:=t;simp only [Ej.cs,Ej.Ac] at *;clear hs ht;go_enter func80,ntmps80;have Gc:=(H.blk 0 rfl).Ap 0;have Xi:=(H.blk 1 rfl).Ap 0;have XZ:=(H.blk 0 rfl).Ap 1;have cc3:=(H.blk 1 rfl).Ap 1;by_cases h1:n=m
 ·subst h1;by_cases h2:n2=m2
  ·subst h2;go_wp2_with fail;clear Gc Xi XZ cc3;generalize w.heap.size+1=y at *;generalize w.heap.size=x at *;have HN:Hid (Ld ⟨ds.map Dm.Ac,ms⟩ ⟨es.map Dm.Ac,os⟩=(((ds.map Dm.Ac).drop 0==(es.map Dm.Ac).drop 0) && (ms==os))):=rfl;go_loopg [26] n (fun gg i wr=>∃ k:Nat,gg=n - k∧k≤n∧i=.int .i64 k∧Hid (SL No w wr [Aw x 25 #[.slice A n c,.slice A2 n2 c2],Aw y 25 #[.slice B n d,.slice B2 n2 d2]])∧Hid (Ld ⟨ds.map Dm.Ac,ms⟩ ⟨es.map Dm.Ac,os⟩=(((ds.map Dm.Ac).drop k==(es.map Dm.Ac).drop k) && (ms==os))));case atStart=>exact ⟨0,rfl,Xl,rfl,H,HN⟩
   case round=>
    clear H HN;obtain ⟨k,BR,hk,rfl,H,HN⟩:=hrel;have Cs:=Aa BR;clear BR;by_cases hlt:k<n
    ·obtain ⟨b1,o1,p,hA,hb1,hpk,hpr,hrg1⟩:=(HD.mono H.to).Sd (k:=k) hlt;simp only at hA;subst hA;obtain ⟨b2,o2,q,hB,hb2,hqk,hqr,hrg2⟩:=(HE.mono H.to).Sd (k:=k) hlt;simp only at hB;subst hB;have hpc:(ds.map Dm.Ac)[k]?=some p.Ac:=by rw [Ed,hpk];(try rfl)
     have hqc:(es.map Dm.Ac)[k]?=some q.Ac:=by rw [Ed,hqk];(try rfl)
     have Jn:=Aa (q9 hpc hqc);have HR1:=Aa hrg1;have HR2:=Aa hrg2;have jT:=Aa hpr;have HQR:=Aa hqr;have i0:(0:Int)≤k:=by omega
     have i1:(k:Int)<n:=by omega
     have Gc:=(H.blk 0 rfl).Ap 0;have Xi:=(H.blk 1 rfl).Ap 0;clear hpk hqk hrg1 hrg2 hpc hqc hpr hqr;go_upto_region 6 with fail;have f0:=fun u:Over wr=>Over.cell Gc u
     have f1:=fun u:Over wr=>Over.cell Xi u
     refine Am ?_;repeat (first
      |((with_reducible show wpQuiet _ _ _ _ (⟨some 33,_,_,_,_,_⟩::_) _);refine Ah rfl CX (.tmp 32) rfl b1 (o1+k * 2) rfl p.cs rfl hb1 HR1.Ab ?_;simp only [Act.put,LP])
      |((with_reducible show wpQuiet _ _ _ _ (⟨some 38,_,_,_,_,_⟩::_) _);refine Ah rfl CX (.tmp 37) rfl b2 (o2+k * 2) rfl q.cs rfl hb2 HR2.Ab ?_;simp only [Act.put,LP])
      |go_big_quiet_step ((go_at_call 121;rename_i u;exact AB (yI p q _ (jT.mono u.Av) (HQR.mono u.Av)))))
     refine CS ?_;rintro _ ⟨⟨w5,Gd⟩,rfl⟩;replace H:=Aa (H.Av Gd);clear Gd f0 f1 Gc Xi;cases heq:Oy p.Ac q.Ac with
     |false=>
      have HR:Hid (Ld ⟨ds.map Dm.Ac,ms⟩ ⟨es.map Dm.Ac,os⟩=false):=by show _=_;rw [HN.Ab,Jn.Ab,←oJ,heq];(try rfl)
      go_wp2;go_ret;rw [HR.Ab];exact ⟨rfl,H.to⟩
     |true=>
      have Vh:Hid (Ld ⟨ds.map Dm.Ac,ms⟩ ⟨es.map Dm.Ac,os⟩=(((ds.map Dm.Ac).drop (k+1)==(es.map Dm.Ac).drop (k+1)) && (ms==os))):=by show _=_;rw [HN.Ab,Jn.Ab,←oJ,heq,YT]
      clear HN Jn;go_wp2;go_roundg (n - (k+1));case rel=>exact ⟨k+1,rfl,Xl,by go_num,H,Vh⟩
      case measure=>rw [Cs.Ab];omega
    ·have Yz:Hid (Ld ⟨ds.map Dm.Ac,ms⟩ ⟨es.map Dm.Ac,os⟩=(ms.drop 0==os.drop 0)):=by
      show _=_;rw [HN.Ab,EN (by have:=hl1.Ab;simp;omega),EN (by have:=hl3.Ab;simp;omega)]
      rfl
     have cc4:=(H.blk 0 rfl).Ap 1;clear HN;go_wp2_with fail;clear cc4;go_loopg [45] n2 (fun gg i wr=>∃ k:Nat,gg=n2 - k∧k≤n2∧i=.int .i64 k∧Hid (SL No w wr [Aw x 25 #[.slice A n c,.slice A2 n2 c2],Aw y 25 #[.slice B n d,.slice B2 n2 d2]])∧Hid (Ld ⟨ds.map Dm.Ac,ms⟩ ⟨es.map Dm.Ac,os⟩=(ms.drop k==os.drop k)));case atStart=>exact ⟨0,rfl,Xl,rfl,H,Yz⟩
     case round=>
      clear H Yz;obtain ⟨j,hgj,hj,rfl,H,HN⟩:=hrel;have Lt:=Aa hgj;clear hgj;by_cases hlt2:j<n2
      ·obtain ⟨b1,o1,p,hA,hpk,hpl,e1⟩:=(HM.mono H.to).GR (k:=j) hlt2;simp only at hA;subst hA;obtain ⟨b2,o2,q,hB,hqk,hql,e2⟩:=(HO.mono H.to).GR (k:=j) hlt2;simp only at hB;subst hB;have Jn:=Aa (q9 (xs:=ms) (ys:=os) hpk hqk);have i0:(0:Int)≤j:=by omega
       have i1:(j:Int)<n2:=by omega
       have XZ:=(H.blk 0 rfl).Ap 1;have cc3:=(H.blk 1 rfl).Ap 1;clear hpk hqk;cases heq:(p==q) with
       |false=>
        have HR:Hid (Ld ⟨ds.map Dm.Ac,ms⟩ ⟨es.map Dm.Ac,os⟩=false):=by show _=_;rw [HN.Ab,Jn.Ab,heq];(try rfl)
        have hne:(p !=q)=true:=by rw [bne,heq];(try rfl)
        go_wp2_with fail;go_quiet (fail);go_wp2;go_ret;rw [HR.Ab];exact ⟨rfl,(H.drewN _).to⟩
       |true=>
        have Vh:Hid (Ld ⟨ds.map Dm.Ac,ms⟩ ⟨es.map Dm.Ac,os⟩=(ms.drop (j+1)==os.drop (j+1))):=by show _=_;rw [HN.Ab,Jn.Ab,heq,YT]
        have hne:(p !=q)=false:=by rw [bne,heq];(try rfl)
        clear HN Jn;go_wp2_with fail;go_quiet (fail);go_wp2;go_roundg (n2 - (j+1));case rel=>exact ⟨j+1,rfl,Xl,by go_num,H.drewN _,Vh⟩
        case measure=>rw [Lt.Ab];omega
      ·have HR:Hid (Ld ⟨ds.map Dm.Ac,ms⟩ ⟨es.map Dm.Ac,os⟩=true):=by
        show _=_;rw [HN.Ab,EN (by have:=hl2.Ab;omega),EN (by have:=hl4.Ab;omega)]
        rfl
       clear HN;go_wp2;go_ret;rw [HR.Ab];exact ⟨rfl,H.to⟩
  ·have HR:Hid (Ld ⟨ds.map Dm.Ac,ms⟩ ⟨es.map Dm.Ac,os⟩=false):=by show _=_;unfold Ld;rw [show (ms==os)=false from Ah3 (xs:=ms) (ys:=os) (by have:=hl2.Ab;have:=hl4.Ab;omega),Bool.and_false]
   have g1:((n2:Int) !=(m2:Int))=true:=by simp<;>omega
   have g2:(n2 !=m2)=true:=by simp<;>omega
   go_wp2;go_ret;rw [HR.Ab];exact ⟨rfl,H.to⟩
 ·have HR:Hid (Ld ⟨ds.map Dm.Ac,ms⟩ ⟨es.map Dm.Ac,os⟩=false):=by show _=_;unfold Ld;rw [show (ds.map Dm.Ac==es.map Dm.Ac)=false from Ah3 (by have:=hl1.Ab;have:=hl3.Ab;simp;omega),Bool.false_and]
  have g1:((n:Int) !=(m:Int))=true:=by simp<;>omega
  have g2:(n !=m)=true:=by simp<;>omega
  go_wp2;go_ret;rw [HR.Ab];exact ⟨rfl,H.to⟩
def FewS (s:Ej):Prop:=s.dm.n≤20∧s.ms.n≤5∧∀ d ∈ s.dm.l,d.tr.n≤6∧∀ t ∈ d.tr.l,t.ts.n≤220∧t.up.n≤220
def Ox (s:SC):List UInt8 × Int:=if Ay s=0 then (Gh s,0) else ([],Ay s)
theorem Zo8 {p:Prop} (h:p:=by
 replace H:=Aa (H.Av hb5);replace H:=Aa (H.Fg [0] Za1 uH);(try simp only [LS] at H);clear hb5;go_wp2;go_roundg (n - (k+1));case rel=>exact ⟨k+1,l++DK d.Ac,rfl,Xl,by go_num,by simp only [Ch],by simp only [Cn];omega,H,HN⟩
 case measure=>rw [Cs.Ab];omega
):p:=h
theorem Zq8 {p:Prop} (h:p:=by
 replace H:=Aa (H.Av hb4);clear hb4 hc;go_wp2;go_roundg (n2 - (j+1));case rel=>exact ⟨j+1,l'++Dc m,rfl,Xl,by go_num,by simp only [Ch],by simp only [Cn];omega,H,HN⟩
 case measure=>rw [Cs.Ab];omega
):p:=h
theorem wD (s:Ej) (w:World) (hs:s.rd w) (hn:s.dm.n≤1000000) (hm:s.ms.n≤1000000) (hd:∀ d ∈ s.dm.l,d.tr.n≤1000000∧∀ t ∈ d.tr.l,t.up.n≤100000):
 Calls prog 122 #[.agg s.cs] w fun e w'=>e=.returned (.tuple #[.string ⟨(Ox s.Ac).1.toArray⟩,.int .i64 (Ox s.Ac).2])∧Ai w w':=by
 have hlen:Hid (s.dm.l.length=s.dm.n):=hs.dm.len;have OI:Hid (s.ms.l.length=s.ms.n):=hs.ms.len;have HD:=Aa hs.dm;have HMs:=Aa hs.ms;have HDD:=Aa hd;have HC:=Aa (fun w' (hb:Ai w w')=>GJ s w' (hs.mono hb) hn hm hd);have H:=Aa ((SL.start No w).alloc s.cs 25);(try simp only [LS] at H);obtain ⟨⟨A,n,c,ds⟩,⟨A2,n2,c2,ms⟩⟩:=s;simp only [Ej.cs,Ej.Ac] at *;clear hs hd;by_cases hE:Ay ⟨ds.map Dm.Ac,ms⟩=0
 ·obtain ⟨h1,h2,h3,h4,h5,h6⟩:=BH hE;simp only [CQ] at h1 h2 h3 h4 h5 h6;have KC:=Aa h3;have HNM:=Aa h6;have hn16:n≤16:=by have:=hlen.Ab;omega
  have hn3:n2≤3:=by have:=OI.Ab;omega
  have hpn:=Cc n;have hpn2:=Cc n2;have hV:Ox ⟨ds.map Dm.Ac,ms⟩=(Gh ⟨ds.map Dm.Ac,ms⟩,0):=by unfold Ox;rw [Al hE]
  have HV:=Aa hV;rw [hE] at HC;clear hV;clear h1 h2 h3 h4 h5 h6 hE;go_enter func122,ntmps122;go_wp2_with fail;generalize w.heap.size=x at *;generalize w.alloc (.cells #[.slice A n c,.slice A2 n2 c2] 25)=w1 at *;refine (HC _ H.to).mono ?_;rintro e w2 ⟨rfl,hb2⟩;replace H:=Aa (H.Av hb2);clear hb2 HC;have c0:=(H.blk 0 rfl).Ap 0;go_wp2_with fail;refine (Jt (n:Int) _ Xl Xl).mono ?_;rintro e w3 ⟨rfl,hb3⟩;replace H:=Aa (H.Av hb3);rw [Db];clear hb3 c0;have c0:=(H.blk 0 rfl).Ap 0;go_wp2_with fail;clear c0;have HL:Hid (Cx n=Cx n++((ds.map Dm.Ac).take 0).flatMap DK):=by show _=_;simp
  go_loopg [5,24] n (fun gg o i wr=>∃ (k:Nat) (l:List UInt8),gg=n - k∧k≤n∧i=.int .i64 k∧o=.string ⟨l.toArray⟩∧l.length≤10+50000 * k∧Hid (SL No w wr [Aw x 25 #[.slice A n c,.slice A2 n2 c2]])∧Hid (l=Cx n++((ds.map Dm.Ac).take k).flatMap DK));case atStart=>exact ⟨0,_,rfl,Xl,rfl,rfl,Xl,H,HL⟩
  case round=>
   clear H HL;obtain ⟨k,l,BR,hk,rfl,rfl,hll,H,HL⟩:=hrel;have Cs:=Aa BR;clear BR;by_cases hlt:k<n
   ·obtain ⟨bb,oo,d,hA,hbb,hdk,hdr,hrg⟩:=(HD.mono H.to).Sd (k:=k) hlt;simp only at hA;subst hA;have rO:(ds.map Dm.Ac)[k]?=some d.Ac:=by rw [Ed,hdk];(try rfl)
    have hE0:BD d.Ac=0:=KC d.Ac (CU rO);have hlen3:=UQ hE0;have HN:Hid (l++DK d.Ac=Cx n++((ds.map Dm.Ac).take (k+1)).flatMap DK):=by show _=_;rw [DR rO,EM,←Ef,←HL.Ab];simp
    have HR:=Aa hrg;have HRd:=Aa hdr;have Ng:=Aa hE0;obtain ⟨hu1,hu2⟩:=HDD d (CU hdk);have hPV:OJ d.Ac=(DK d.Ac,0):=by unfold OJ;rw [Al hE0]
    have HPV:=Aa hPV;clear hPV;clear hdk hdr hrg rO hbb HL hE0;go_wp2_with (first|((with_reducible refine OP 27 ?_);(refine Af rfl CX (.tmp 26) rfl bb (oo+k * 2) rfl d.cs rfl HR.Ab ?_))|((with_reducible refine OS 7 ?_);(refine DX CX (d.cs) (Qs d) ?_;replace H:=Aa (H.alloc (d.cs) 73);(try simp only [LS] at H)))|((with_reducible refine OP 29 ?_);(refine Bf CX (H.blk 1 rfl) ?_)));refine (Aa0 d _ (HRd.mono ((Ai.refl _).alloc _)) hu1 hu2).mono ?_;rintro e w5 ⟨rfl,hb5⟩;rw [HPV.Ab];dsimp only;exact Zo8
   ·have HL1:Hid (l=Cx n++(ds.map Dm.Ac).flatMap DK):=by show _=_;rw [HL.Ab,EU Zb1]
    have c0:=(H.blk 0 rfl).Ap 1;clear HL;go_wp2_with fail;refine (Jt (n2:Int) _ Xl Xl).mono ?_;rintro e w3 ⟨rfl,hb3⟩;replace H:=Aa (H.Av hb3);rw [Db];clear hb3 c0;have c0:=(H.blk 0 rfl).Ap 1;have HL2:Hid (l++Cx n2=l++Cx n2++(ms.take 0).flatMap Dc):=by show _=_;simp
    go_wp2_with fail;simp only [Ch];clear c0;go_loopg [5,46] n2 (fun gg o i wr=>∃ (j:Nat) (l':List UInt8),gg=n2 - j∧j≤n2∧i=.int .i64 j∧o=.string ⟨l'.toArray⟩∧l'.length≤900000+30 * j∧Hid (SL No w wr [Aw x 25 #[.slice A n c,.slice A2 n2 c2]])∧Hid (l'=l++Cx n2++(ms.take j).flatMap Dc));case atStart=>exact ⟨0,_,rfl,Xl,rfl,rfl,by simp only [Cn];omega,H,HL2⟩
    case round=>
     clear H HL2;obtain ⟨j,l',BR,hj,rfl,rfl,hll2,H,HL⟩:=hrel;have Cs:=Aa BR;clear BR;by_cases hlt2:j<n2
     ·obtain ⟨bb,oo,m,hA,hmk,WZ,hc⟩:=(HMs.mono H.to).GR (k:=j) hlt2;simp only at hA;subst hA;have hm12:=Ev (HNM m (CU hmk));have hpt:(Dc m).length≤30:=by unfold Dc;rw [Cn];have:=Cc m.length;omega
      have HN:Hid (l'++Dc m=l++Cx n2++(ms.take (j+1)).flatMap Dc):=by show _=_;rw [DR hmk,EM,←Ef,←HL.Ab];simp
      clear hmk HL;go_wp2_with fail;refine (OA m _ Xl).mono ?_;rintro e w4 ⟨rfl,hb4⟩;exact Zq8
     ·have HN:Hid (Gh ⟨ds.map Dm.Ac,ms⟩=l'):=by
       show _=_;rw [HL.Ab,EU Zd8,HL1.Ab];unfold Gh;simp only [CQ,hlen.Ab,OI.Ab,Ef]
      clear HL;go_wp2;go_ret2;rw [HV.Ab,HN.Ab];exact ⟨rfl,H.to⟩
 ·have hV:Ox ⟨ds.map Dm.Ac,ms⟩=([],Ay ⟨ds.map Dm.Ac,ms⟩):=by unfold Ox;rw [Ak hE]
  have dE:(Ay ⟨ds.map Dm.Ac,ms⟩==0)=false:=by simpa using hE
  have dE2:(Ay ⟨ds.map Dm.Ac,ms⟩ !=0)=true:=by simpa using hE
  rw [hV];generalize Ay ⟨ds.map Dm.Ac,ms⟩=E at *;clear hE hV;go_enter func122,ntmps122;go_wp2_with fail;refine (HC _ H.to).mono ?_;rintro e w2 ⟨rfl,hb2⟩;go_wp2;go_ret2;exact ⟨rfl,H.to.trans hb2⟩
theorem oP (s:Ej) (w:World) (hs:s.rd w) (hE:Ay s.Ac=0):
 Calls prog 13 #[.agg s.cs] w fun e w'=>e=.returned (.string ⟨(Gh s.Ac).toArray⟩)∧Ai w w':=by
 have hlen:Hid (s.dm.l.length=s.dm.n):=hs.dm.len;have OI:Hid (s.ms.l.length=s.ms.n):=hs.ms.len;have HD:=Aa hs.dm;have HMs:=Aa hs.ms;have H:=Aa ((SL.start No w).alloc s.cs 25);(try simp only [LS] at H);obtain ⟨⟨A,n,c,ds⟩,⟨A2,n2,c2,ms⟩⟩:=s;simp only [Ej.cs,Ej.Ac] at *;clear hs;obtain ⟨h1,h2,h3,h4,h5,h6⟩:=BH hE;simp only [CQ] at h1 h2 h3 h4 h5 h6;have KC:=Aa h3;have HNM:=Aa h6;have hn16:n≤16:=by have:=hlen.Ab;omega
 have hn3:n2≤3:=by have:=OI.Ab;omega
 have hpn:=Cc n;have hpn2:=Cc n2;clear h1 h2 h3 h4 h5 h6 hE;go_enter func13,ntmps13;have c0:=(H.blk 0 rfl).Ap 0;go_wp2_with fail;refine (Jr (n:Int) _ Xl Xl).mono ?_;rintro e w3 ⟨rfl,hb3⟩;replace H:=Aa (H.Av hb3);rw [Db];clear hb3 c0;have c0:=(H.blk 0 rfl).Ap 0;generalize w.heap.size=x at *;go_wp2_with fail;clear c0;have HL:Hid (Cx n=Cx n++((ds.map Dm.Ac).take 0).flatMap DK):=by show _=_;simp
 go_loopg [3,15] n (fun gg o i wr=>∃ (k:Nat) (l:List UInt8),gg=n - k∧k≤n∧i=.int .i64 k∧o=.string ⟨l.toArray⟩∧l.length≤10+50000 * k∧Hid (SL No w wr [Aw x 25 #[.slice A n c,.slice A2 n2 c2]])∧Hid (l=Cx n++((ds.map Dm.Ac).take k).flatMap DK));case atStart=>exact ⟨0,_,rfl,Xl,rfl,rfl,Xl,H,HL⟩
 case round=>
  clear H HL;obtain ⟨k,l,BR,hk,rfl,rfl,hll,H,HL⟩:=hrel;have Cs:=Aa BR;clear BR;by_cases hlt:k<n
  ·obtain ⟨bb,oo,d,hA,hbb,hdk,hdr,hrg⟩:=(HD.mono H.to).Sd (k:=k) hlt;simp only at hA;subst hA;have rO:(ds.map Dm.Ac)[k]?=some d.Ac:=by rw [Ed,hdk];(try rfl)
   have hE0:BD d.Ac=0:=KC d.Ac (CU rO);have hlen3:=UQ hE0;have HN:Hid (l++DK d.Ac=Cx n++((ds.map Dm.Ac).take (k+1)).flatMap DK):=by show _=_;rw [DR rO,EM,←Ef,←HL.Ab];simp
   have HR:=Aa hrg;have HRd:=Aa hdr;have Ng:=Aa hE0;clear hdk hdr hrg rO hbb HL hE0;go_wp2_with (first|((with_reducible refine OP 18 ?_);(refine Af rfl CX (.tmp 17) rfl bb (oo+k * 2) rfl d.cs rfl HR.Ab ?_))|((with_reducible refine OS 5 ?_);(refine DX CX (d.cs) (Qs d) ?_;replace H:=Aa (H.alloc (d.cs) 73);(try simp only [LS] at H)))|((with_reducible refine OP 20 ?_);(refine Bf CX (H.blk 1 rfl) ?_)));refine (wQ d _ (HRd.mono ((Ai.refl _).alloc _)) Ng.Ab).mono ?_;rintro e w5 ⟨rfl,hb5⟩;exact Zo8
  ·have HL1:Hid (l=Cx n++(ds.map Dm.Ac).flatMap DK):=by show _=_;rw [HL.Ab,EU Zb1]
   have c0:=(H.blk 0 rfl).Ap 1;clear HL;go_wp2_with fail;refine (Jr (n2:Int) _ Xl Xl).mono ?_;rintro e w3 ⟨rfl,hb3⟩;replace H:=Aa (H.Av hb3);rw [Db];clear hb3 c0;have c0:=(H.blk 0 rfl).Ap 1;have HL2:Hid (l++Cx n2=l++Cx n2++(ms.take 0).flatMap Dc):=by show _=_;simp
   go_wp2_with fail;simp only [Ch];clear c0;go_loopg [3,33] n2 (fun gg o i wr=>∃ (j:Nat) (l':List UInt8),gg=n2 - j∧j≤n2∧i=.int .i64 j∧o=.string ⟨l'.toArray⟩∧l'.length≤900000+30 * j∧Hid (SL No w wr [Aw x 25 #[.slice A n c,.slice A2 n2 c2]])∧Hid (l'=l++Cx n2++(ms.take j).flatMap Dc));case atStart=>exact ⟨0,_,rfl,Xl,rfl,rfl,by simp only [Cn];omega,H,HL2⟩
   case round=>
    clear H HL2;obtain ⟨j,l',BR,hj,rfl,rfl,hll2,H,HL⟩:=hrel;have Cs:=Aa BR;clear BR;by_cases hlt2:j<n2
    ·obtain ⟨bb,oo,m,hA,hmk,WZ,hc⟩:=(HMs.mono H.to).GR (k:=j) hlt2;simp only at hA;subst hA;have hm12:=Ev (HNM m (CU hmk));have hpt:(Dc m).length≤30:=by unfold Dc;rw [Cn];have:=Cc m.length;omega
     have HN:Hid (l'++Dc m=l++Cx n2++(ms.take (j+1)).flatMap Dc):=by show _=_;rw [DR hmk,EM,←Ef,←HL.Ab];simp
     clear hmk HL;go_wp2_with fail;refine (Nj m _ Xl).mono ?_;rintro e w4 ⟨rfl,hb4⟩;exact Zq8
    ·have HN:Hid (Gh ⟨ds.map Dm.Ac,ms⟩=l'):=by
      show _=_;rw [HL.Ab,EU Zd8,HL1.Ab];unfold Gh;simp only [CQ,hlen.Ab,OI.Ab,Ef]
     clear HL;go_wp2;go_ret;rw [HN.Ab];exact ⟨rfl,H.to⟩
theorem FewS.hn {s:Ej} (h:FewS s):s.dm.n≤1000000:=by have:=h.1;omega
theorem FewS.hm {s:Ej} (h:FewS s):s.ms.n≤1000000:=by have:=h.2.1;omega
theorem FewS.hd {s:Ej} (h:FewS s):∀ d ∈ s.dm.l,d.tr.n≤1000000∧∀ t ∈ d.tr.l,t.up.n≤100000:=fun d hd=>⟨by have:=(h.2.2 d hd).1;omega,fun t ht=>by have:=((h.2.2 d hd).2 t ht).2;omega⟩
theorem Uh {d:SC} (h:Ay d=0):(Gh d).length≤900000:=by
 obtain ⟨h1,h2,h3,h4,h5,h6⟩:=BH h;have h7:=Cc d.Dx.length;have h8:=Cc d.ms.length;have h9:(d.Dx.flatMap DK).length≤50000 * d.Dx.length:=VS fun x hx=>UQ (h3 x hx)
 have h10:(d.ms.flatMap Dc).length≤30 * d.ms.length:=VS fun x hx=>by
  have:=Ev (h6 x hx);have:=Cc x.length;unfold Dc;rw [Cn];omega
 unfold Gh;simp only [Cn];omega
def FH {α:Type} (s:List UInt8) (o:PR (List α)) (p:List UInt8→PR α) (n k:Nat) (acc:List α) (t kk:Int):Prop:=
 (kk≠0∧o=.error kk)∨(kk=0∧∃ tn:Nat,t=tn∧tn≤s.length∧o=Bw p (n - k) acc (s.drop tn))
section
variable {α : Type} {s : List UInt8} {o : PR (List α)} {p : List UInt8 → PR α} {n k : Nat} {acc : List α} {t kk : Int}
theorem FH.bad (h:FH s o p n k acc t kk) (hk:kk≠0):o=.error kk:=h.elim (fun h=>h.2) (fun h=>absurd h.1 hk)
theorem FH.good (h:FH s o p n k acc t 0):∃ tn:Nat,t=tn∧tn≤s.length∧o=Bw p (n - k) acc (s.drop tn):=h.elim (fun h=>absurd rfl h.1) (fun h=>h.2)
theorem FH.step {tn:Nat} {x:α} (hk:k<n) (h:o=Bw p (n - k) acc (s.drop tn)) (h2:El s (p (s.drop tn)) t kk x):FH s o p n (k+1) (acc++[x]) t kk:=by
 rw [GX hk] at h;rcases h2 with ⟨h1,h2⟩|⟨h1,m,h3,h4,h2⟩
 ·exact .inl ⟨h1,by rw [h,h2]⟩
 ·exact .inr ⟨h1,m,h3,h4,by rw [h,h2]⟩
theorem FH.done (h:FH s o p n k acc t kk) (hk:kk≠0∨n≤k):El s o t kk acc:=by
 rcases h with ⟨h1,h2⟩|⟨h1,tn,h3,h4,h2⟩
 ·exact .inl ⟨h1,h2⟩
 ·rcases hk with hk|hk
  ·exact absurd h1 hk
  ·exact .inr ⟨h1,tn,h3,h4,by rw [h2,show n - k=0 by omega];(try rfl)⟩
end
def OG (l:List UInt8):PR (List DC):=match DD 16 l with|.error k=>.error k|.ok (n,r)=>Bw FY n [] r
def NU (l:List UInt8):PR (List (List UInt8)):=match Pp (OG l) (DD 3) with|.error k=>.error k|.ok ((_,m),r)=>Bw (Dp 12) m [] r
theorem SE {l:List UInt8} {k:Int} (h:NU l=.error k):GU l=.error k:=by
 unfold NU Pp OG at h;unfold GU;cases h1:DD 16 l with
 |error e=>rw [h1] at h;simpa using h
 |ok q=>
  obtain ⟨n,r⟩:=q;rw [h1] at h;simp only [aA] at h ⊢;cases h2:Bw FY n [] r with
  |error e=>rw [h2] at h;simpa using h
  |ok q=>
   obtain ⟨ds,r2⟩:=q;rw [h2] at h;simp only [VD] at h ⊢;cases h3:DD 3 r2 with
   |error e=>rw [h3] at h;simpa using h
   |ok q=>
    obtain ⟨m,r3⟩:=q;rw [h3] at h;simp only [ZZ] at h ⊢;rw [h]
theorem kZ {l r r1:List UInt8} {ds:List DC} {ms:List (List UInt8)} (hD:OG l=.ok (ds,r1)) (h:NU l=.ok (ms,r)):GU l=OB ⟨ds,ms⟩ r:=by
 unfold NU Pp at h;rw [hD] at h;unfold OG at hD;unfold GU;cases h1:DD 16 l with
 |error e=>rw [h1] at hD;cases hD
 |ok q=>
  obtain ⟨n,r2⟩:=q;rw [h1] at hD;simp only at hD h ⊢;rw [hD];simp only [aA,VD];cases h3:DD 3 r1 with
  |error e=>rw [h3] at h;cases h
  |ok q=>
   obtain ⟨m,r3⟩:=q;rw [h3] at h;simp only [ZZ] at h ⊢;rw [h]
theorem aM {s l r:List UInt8} {ms:List (List UInt8)} {t kk:Int} {ds:List DC} (h:NU l=.ok (ms,r)) (hS:El s (OG l) t kk ds):kk=0∧∃ r1,OG l=.ok (ds,r1):=by
 rcases hS with ⟨_,h2⟩|⟨h1,tn,_,_,h2⟩
 ·unfold NU Pp at h;rw [h2] at h;cases h
 ·exact ⟨h1,_,h2⟩
theorem FH.As2 {s l:List UInt8} {t k:Int} {n:Nat} (h:El s (DD 16 l) t k n):FH s (OG l) FY n 0 [] t k:=by
 rcases h with ⟨h1,h2⟩|⟨h1,tn,h3,h4,h2⟩
 ·exact .inl ⟨h1,by unfold OG;rw [h2]⟩
 ·exact .inr ⟨h1,tn,h3,h4,by unfold OG;rw [h2];(try rfl)⟩
theorem FH.vV {s l:List UInt8} {t k:Int} {m:Nat} {ds:List DC} (h:El s (Pp (OG l) (DD 3)) t k (ds,m)):FH s (NU l) (Dp 12) m 0 [] t k:=by
 rcases h with ⟨h1,h2⟩|⟨h1,tn,h3,h4,h2⟩
 ·exact .inl ⟨h1,by unfold NU;rw [h2]⟩
 ·exact .inr ⟨h1,tn,h3,h4,by unfold NU;rw [h2];(try rfl)⟩
def Ak9 (s:List UInt8) (o:PR SC) (w:World) (e:Ending) (w':World):Prop:=
 ∃ (t k:Int) (D:Ej),e=.returned (.tuple #[Iz s t k,.agg D.cs])∧Ai w w'∧Hid (El s o t k D.Ac)∧(k=0→UY w w' (Kj D))
theorem Zk8 {p:Prop} (h:p:=by
 obtain ⟨D,hD⟩:∃ D:Ej,D=⟨⟨A,k,c,acc⟩,⟨B,j,d,ms⟩⟩:=⟨_,rfl⟩;have hDs:D.cs=#[.slice A k c,.slice B j d]:=by rw [hD]
 have Oe:Hid (El s (GU l0) t2 k2 D.Ac):=.inl ⟨Kq,SE (HI.bad Kq)⟩;have HKK:=Aa Kq;rw [←hDs] at H;clear hD hDs Kq HI;go_upto_region 18 with fail;clear c2 f2 hk3;refine Cv Za0 ⟨by kernel_rfl,by kernel_rfl,by kernel_rfl,by kernel_rfl,by kernel_rfl,by kernel_rfl,by kernel_rfl,by kernel_rfl⟩ Ar Bb (.tmp 1) (.tmp 4) (.tmp 2) (.tmp 3) (.tmp 72) (.tmp 73) rfl rfl rfl rfl rfl rfl rfl rfl rfl rfl _ _ _ _ (H.blk 0 rfl) (H.blk 3 rfl) (H.blk 1 rfl) (H.blk 2 rfl) rfl rfl rfl rfl (AU _ _ _) (FE D) (H.ne 1 2 Za1 rfl rfl) (H.ne 0 1 Za1 rfl rfl) (H.ne 0 2 Za1 rfl rfl) (H.ne 3 1 Za1 rfl rfl) (H.ne 3 2 Za1 rfl rfl) rfl rfl rfl rfl rfl rfl Za7 Za7 ?_;intro gB Oj Og Gn;replace H:=Aa (H.Tm 1 2 Za1 rfl rfl Gn Oj Og);(try simp only [LS] at H);go_wp2_with fail;refine Bc (Ba rfl Ar Bb rfl rfl Oj Og rfl rfl) rfl ?_;exact ⟨t2,k2,D,rfl,H.to,Oe,fun h=>absurd h HKK.Ab⟩
):p:=h
theorem Zh9 {p:Prop} (h:p:=by
 clear H HI TW;obtain ⟨j,ms,B,d,t2,k2,hgj,hj,rfl,hmc,TW,H,HI⟩:=hrel;have Lt:=Aa hgj;have hj3:j≤3:=by omega
 clear hgj;have c2:=(H.blk 0 rfl).Ap 2;have f2:=(H.blk 0 rfl).frozen 2;by_cases Kq:k2=0
 ·subst Kq;obtain ⟨tn,rfl,htn,hE⟩:=HI.good;by_cases hlt2:j<m
  ·have Kv:=Aa (fun x t' k' (hS:El s (Dp 12 (s.drop tn)) t' k' x)=>FH.step hlt2 hE hS);clear hE HI;go_wp2_with ((with_reducible refine OP 55 ?_);(refine Bf Ar (H.blk 0 rfl) ?_));refine (NN s tn 12 hs htn Xl Xl _).mono ?_;rintro e w7 ⟨t',k',x,rfl,Pz,hx12,hS⟩;replace H:=Aa (H.Av Pz);have HI:=Aa (Kv _ _ _ hS.Ab);have nD:Hid (∀ y ∈ ms++[x],y.length≤12):=by
    intro y hy;rcases Eb.1 hy with hy|hy
    ·exact TW y hy
    ·rw [Ee] at hy;subst hy;omega
   clear Pz hS Kv c2 f2;go_wp2_with (first|((with_reducible refine OS 10 ?_);(refine DX Ar (DY s t' k') (AU _ _ _) ?_;replace H:=Aa (H.alloc (DY s t' k') 141);(try simp only [LS] at H)))|((with_reducible refine OP 59 ?_);(refine Bf Ar (H.blk 7 rfl) ?_))|((with_reducible refine OS 1 ?_);(refine Cj Ar H 0 rfl (DY s t' k') (AU _ _ _) ?_;clear H;intro wq H;(try simp only [LS] at H);have c1:=(H.blk 3 rfl).Ap 1))|((with_reducible refine OP 64 ?_);(replace H:=Aa (H.alloc #[.string ⟨x.toArray⟩] 9);(try simp only [LS] at H);refine Az rfl (.tmp 61) (.tmp 63) _ rfl FB 0 (Bj _) _ j _ rfl (H.row 6 rfl) _ 1 1 [.string ⟨x.toArray⟩] rfl (AV (H.blk 8 rfl) rfl) Za2 Za4 Xl ?_;intro vq wq AJ Aq AQ;replace H:=Aa (H.setRow 6 rfl Aq AJ AQ);(try simp only [LS] at H);clear AJ Aq AQ;obtain ⟨B2,d2,rfl,_⟩:=Ao (H.row 6 rfl);clear c1;have c1:=(H.blk 3 rfl).Ap 1;have f1:=(H.blk 3 rfl).frozen 1)));replace H:=Aa (H.setCell 3 rfl 1 (.slice B2 (j+1) d2));(try simp only [LS] at H);replace H:=Aa (H.Fg [0,1,2,3,4,5,6] Za1 uH);(try simp only [LS] at H);clear c1 f1;go_wp2_with fail;go_roundg (m - (j+1));case rel=>exact ⟨j+1,ms++[x],B2,d2,t',k',rfl,Xl,by go_num,by show _=_;rw [Cn,hmc.Ab];(try rfl),nD,by rw [Cf];exact H,HI⟩
   case measure=>rw [Lt.Ab];omega
  ·have hoM:NU l0=.ok (ms,s.drop tn):=by rw [hE,show m - j=0 by omega];(try rfl)
   obtain ⟨bH,r1,hoD⟩:=aM hoM zI.Ab;have HN:Hid (GU l0=OB ⟨acc.map Dm.Ac,ms⟩ (s.drop tn)):=kZ hoD hoM;replace H:=Aa (H.both 4 5 Xl rfl rfl (rX acc A k c) (VO (H.get 4 rfl) (CF (H.get 5 rfl) (by first|trivial|exact bH))) (fun g hg=>hg.imp (fun h=>h) (fun h=>⟨by first|trivial|exact bH,h⟩)));(try simp only [LS] at H);replace H:=Aa (H.both 4 5 Xl rfl rfl (Kj ⟨⟨A,k,c,acc⟩,⟨B,j,d,ms⟩⟩) (NB (fA (H.get 4 rfl)).1 (fA (H.get 4 rfl)).2 (H.get 5 rfl) TW rH hj3) (fun g hg=>hg.elim (fun h=>.inl (.inl h)) (fun h=>h.elim (fun h=>.inl (.inr h)) .inr)));(try simp only [LS] at H);obtain ⟨D,hD⟩:∃ D:Ej,D=⟨⟨A,k,c,acc⟩,⟨B,j,d,ms⟩⟩:=⟨_,rfl⟩;have hDs:D.cs=#[.slice A k c,.slice B j d]:=by rw [hD]
   have EW:D.Ac=⟨acc.map Dm.Ac,ms⟩:=by rw [hD]
   rw [←hD,←hDs] at H;rw [←EW] at HN;clear hD hDs EW hE HI hoM hoD zI bH;go_wp2_with ((with_reducible refine OP 69 ?_);(refine Bf Bb (H.blk 3 rfl) ?_));refine (GI D _ (H.at_ 4 rfl).rd (by have:=(H.at_ 4 rfl).dn;omega) (by have:=(H.at_ 4 rfl).mn;omega) (fun d hd=>((H.at_ 4 rfl).small d hd).1)).mono ?_;rintro e w8 ⟨rfl,iY⟩;replace H:=Aa (H.Av iY);clear iY c2 f2;have Oe:Hid (El s (GU l0) tn (Ay D.Ac) D.Ac):=by
    show El _ _ _ _ _;rw [HN.Ab];unfold OB;by_cases h0:Ay D.Ac=0
    ·rw [Al h0];exact .inr ⟨h0,tn,rfl,htn,rfl⟩
    ·rw [Ak h0];exact .inl ⟨h0,rfl⟩
   generalize Ay D.Ac=E at *;have c2:=(H.blk 0 rfl).Ap 2;have f2:=(H.blk 0 rfl).frozen 2;go_upto_region 18 with fail;replace H:=Aa (H.setCell 0 rfl 2 (.int .i64 E));(try simp only [LS] at H);clear c2 f2;refine Cv Za0 ⟨by kernel_rfl,by kernel_rfl,by kernel_rfl,by kernel_rfl,by kernel_rfl,by kernel_rfl,by kernel_rfl,by kernel_rfl⟩ Ar Bb (.tmp 1) (.tmp 4) (.tmp 2) (.tmp 3) (.tmp 72) (.tmp 73) rfl rfl rfl rfl rfl rfl rfl rfl rfl rfl _ _ _ _ (H.blk 0 rfl) (H.blk 3 rfl) (H.blk 1 rfl) (H.blk 2 rfl) rfl rfl rfl rfl (AU _ _ _) (FE D) (H.ne 1 2 Za1 rfl rfl) (H.ne 0 1 Za1 rfl rfl) (H.ne 0 2 Za1 rfl rfl) (H.ne 3 1 Za1 rfl rfl) (H.ne 3 2 Za1 rfl rfl) rfl rfl rfl rfl rfl rfl Za7 Za7 ?_;intro gB Oj Og Gn;replace H:=Aa (H.Tm 1 2 Za1 rfl rfl Gn Oj Og);(try simp only [LS] at H);go_wp2_with fail;refine Bc (Ba rfl Ar Bb rfl rfl Oj Og rfl rfl) rfl ?_;exact ⟨tn,E,D,rfl,H.to,Oe,fun h=>⟨H.get 4 rfl,H.new 4 rfl⟩⟩
 ·have hk3:(k2==0)=false:=by simpa using Kq
  by_cases hlt2:j<m
  ·exact Zk8
  ·exact Zk8
):p:=h
theorem Zk5 {p:Prop} (h:p:=by
 go_wp2_with ((with_reducible refine OP 40 ?_);(refine Bf Ar (H.blk 0 rfl) ?_));refine (Sy s (OG l0) t kk (acc.map Dm.Ac) zI.Ab 3 hs Xl Xl _).mono ?_;rintro e w6 ⟨t2,k2,m,rfl,hb6,Y0,HS2⟩;replace H:=Aa (H.Av hb6);have HI:=Aa (FH.vV HS2.Ab);clear hb6 HS2;go_wp2_with ((with_reducible refine OS 1 ?_);(refine Cj Ar H 0 rfl (DY s t2 k2) (AU _ _ _) ?_;clear H;intro wq H;(try simp only [LS] at H)));replace H:=Aa (H.Dw 9 1);(try simp only [LS] at H);have TW:Hid (∀ x ∈ ([]:List (List UInt8)),x.length≤12):=by show ∀ x ∈ ([]:List (List UInt8)),_;intro x hx;cases hx
 go_loopg [9] m (fun gg s9 wr=>∃ (j:Nat) (ms:List (List UInt8)) (B:Option Addr) (d:Nat) (t2 k2:Int),gg=m - j∧j≤m∧s9=.int .i64 j∧Hid (ms.length=j)∧Hid (∀ x ∈ ms,x.length≤12)∧Hid (SL No w wr [Aw a 141 (DY s t2 k2),Aw r 141 (DY [] 0 0),Aw z 25 #[.slice none 0 0,.slice none 0 0],Aw g 25 #[.slice A k c,.slice B j d],Ce 73 2 (.slice A k c) k (acc.flatMap AY.cells),Um (kk=0) (BS Vb acc),Ce 9 1 (.slice B j d) j (ms.map tx)])∧Hid (FH s (NU l0) (Dp 12) m j ms t2 k2));case atStart=>exact ⟨0,[],none,0,t2,k2,rfl,Xl,rfl,rfl,TW,H,HI⟩
 case round=>
  exact Zh9
):p:=h
theorem kR (s:List UInt8) (t0:Nat) (w:World) (hs:s.length≤140737488351232) (ht0:t0≤s.length):
 Calls prog 70 #[Iz s t0 0] w (Ak9 s (GU (s.drop t0)) w):=by
 obtain ⟨l0,hl0⟩:∃ l0,l0=s.drop t0:=⟨_,rfl⟩;have HT:=Aa (fun w=>Qg s t0 16 hs ht0 Xl Xl w);rw [←hl0] at HT;rw [←hl0];clear hl0;have H:=Aa (((((SL.start No w).alloc (DY s t0 0) 141).alloc (DY [] 0 0) 141).alloc #[.slice none 0 0,.slice none 0 0] 25).alloc #[.slice none 0 0,.slice none 0 0] 25);(try simp only [LS] at H);go_enter func70,ntmps70;go_wp2_with fail;generalize w.heap.size+1+1+1=g at *;generalize w.heap.size+1+1=z at *;generalize w.heap.size+1=r at *;generalize w.heap.size=a at *;refine (HT _).mono ?_;rintro e w1 ⟨t,k,n,rfl,hb1,hn16,HS⟩;replace H:=Aa (H.Av hb1);have HI:=Aa (FH.As2 HS.Ab);clear hb1 HT HS;go_wp2_with ((with_reducible refine OS 1 ?_);(refine Cj Ar H 0 rfl (DY s t k) (AU _ _ _) ?_;clear H;intro wq H;(try simp only [LS] at H)));replace H:=Aa (H.Dw 73 2);(try simp only [LS] at H);replace H:=Aa (H.add (Ai.refl _) (Um (k=0) (BS Vb [])) (EZ fun _=>Dk _ _) (fun g hg=>GZ g hg.2));(try simp only [LS] at H);go_loopg [6] n (fun gg s6 wr=>∃ (k:Nat) (acc:List Dm) (A:Option Addr) (c:Nat) (t kk:Int),gg=n - k∧k≤n∧s6=.int .i64 k∧Hid (acc.length=k)∧Hid (SL No w wr [Aw a 141 (DY s t kk),Aw r 141 (DY [] 0 0),Aw z 25 #[.slice none 0 0,.slice none 0 0],Aw g 25 #[.slice A k c,.slice none 0 0],Ce 73 2 (.slice A k c) k (acc.flatMap AY.cells),Um (kk=0) (BS Vb acc)])∧Hid (FH s (OG l0) FY n k (acc.map Dm.Ac) t kk));case atStart=>exact ⟨0,[],none,0,t,k,rfl,Xl,rfl,rfl,H,HI⟩
 case round=>
  clear H HI;obtain ⟨k,acc,A,c,t,kk,BR,hk,rfl,hac,H,HI⟩:=hrel;have Cs:=Aa BR;have rH:k≤16:=by omega
  clear BR;have c0:=(H.blk 0 rfl).Ap 2;have f0:=(H.blk 0 rfl).frozen 2;by_cases hkk:kk=0
  ·subst hkk;by_cases hlt:k<n
   ·obtain ⟨tn,rfl,htn,hE⟩:=HI.good;have Kv:=Aa (fun x t' k' (hS:El s (FY (s.drop tn)) t' k' x)=>FH.step hlt hE hS);clear hE HI;go_wp2_with ((with_reducible refine OP 28 ?_);(refine Bf Ar (H.blk 0 rfl) ?_));refine (pM s tn _ hs htn).mono ?_;rintro e w5 ⟨t',k',D,rfl,hb5,hS,hO⟩;replace H:=Aa (H.add hb5 (Um (k'=0) (Vb D)) (EZ fun h=>(hO h).1) (fun g hg=>(hO hg.1).2 g hg.2));(try simp only [LS] at H);have HI:=Aa (Kv _ _ _ hS.Ab);clear hb5 hS hO Kv c0 f0;go_wp2_with (first|((with_reducible refine OS 7 ?_);(replace H:=Aa ((H.alloc (DY [] 0 0) 141).alloc #[.string ⟨#[]⟩,.slice none 0 0] 73);(try simp only [LS] at H);refine Cj Ar H 7 rfl (DY s t' k') (AU _ _ _) ?_;clear H;intro wq H;(try simp only [LS] at H)))|((with_reducible refine OS 8 ?_);(refine Cj CX H 8 rfl (D.cs) (Qs D) ?_;clear H;intro wq H;(try simp only [LS] at H)))|((with_reducible refine OP 32 ?_);(refine Bf Ar (H.blk 7 rfl) ?_))|((with_reducible refine OS 1 ?_);(refine Cj Ar H 0 rfl (DY s t' k') (AU _ _ _) ?_;clear H;intro wq H;(try simp only [LS] at H);have c1:=(H.blk 3 rfl).Ap 0))|((with_reducible refine OP 35 ?_);(refine Bf CX (H.blk 8 rfl) ?_))|((with_reducible refine OP 36 ?_);(refine AP rfl fV (.tmp 35) rfl (D.cs) rfl rfl Xl ?_;replace H:=Aa (H.Co ((Ai.refl _).alloc _) (CE _ 73 (D.cs) _ rfl));(try simp only [LS] at H);clear c1;have c1:=(H.blk 3 rfl).Ap 0))|((with_reducible refine OP 37 ?_);(refine Az rfl (.tmp 34) (.tmp 36) _ rfl fV 0 (Bj _) _ k _ rfl (H.row 4 rfl) _ 1 1 _ rfl (Rd.BC (H.row 9 rfl)) (VV D) Za4 Xl ?_;intro vq wq AJ Aq AQ;replace H:=Aa (H.setRow 4 rfl Aq AJ AQ);(try simp only [LS] at H);clear AJ Aq AQ;obtain ⟨A2,c2,rfl,_⟩:=Ao (H.row 4 rfl);clear c1;have c1:=(H.blk 3 rfl).Ap 0;have f1:=(H.blk 3 rfl).frozen 0)));replace H:=Aa (H.setCell 3 rfl 0 (.slice A2 (k+1) c2));(try simp only [LS] at H)
    replace H:=Aa (H.both 5 6 Xl rfl rfl (Um (k'=0) (BS Vb (acc++[D]))) (EZ fun h=>Bl (CF (H.get 5 rfl) (by trivial)) (CF (H.get 6 rfl) h)) (fun g hg=>(Cg g hg.2).imp (fun h=>⟨by trivial,h⟩) (fun h=>⟨hg.1,h⟩)));(try simp only [LS] at H);replace H:=Aa (H.Fg [0,1,2,3,4,5] Za1 uH);(try simp only [LS] at H);clear c1 f1;go_wp2_with fail;go_roundg (n - (k+1));case rel=>exact ⟨k+1,acc++[D],A2,c2,t',k',rfl,Xl,by go_num,by show _=_;rw [Cn,hac.Ab];(try rfl),by rw [EM,Df,Gt,EO];exact H,by rw [Cf];exact HI⟩
    case measure=>rw [Cs.Ab];omega
   ·have zI:=Aa (HI.done (.inr Xl));clear HI c0 f0;go_wp2_with ((with_reducible refine OP 40 ?_);(refine Bf Ar (H.blk 0 rfl) ?_));refine (Sy s (OG l0) t 0 (acc.map Dm.Ac) zI.Ab 3 hs Xl Xl _).mono ?_;rintro e w6 ⟨t2,k2,m,rfl,hb6,Y0,HS2⟩;replace H:=Aa (H.Av hb6);have HI:=Aa (FH.vV HS2.Ab);clear hb6 HS2;go_wp2_with ((with_reducible refine OS 1 ?_);(refine Cj Ar H 0 rfl (DY s t2 k2) (AU _ _ _) ?_;clear H;intro wq H;(try simp only [LS] at H)));replace H:=Aa (H.Dw 9 1);(try simp only [LS] at H);have TW:Hid (∀ x ∈ ([]:List (List UInt8)),x.length≤12):=by show ∀ x ∈ ([]:List (List UInt8)),_;intro x hx;cases hx
    go_loopg [9] m (fun gg s9 wr=>∃ (j:Nat) (ms:List (List UInt8)) (B:Option Addr) (d:Nat) (t2 k2:Int),gg=m - j∧j≤m∧s9=.int .i64 j∧Hid (ms.length=j)∧Hid (∀ x ∈ ms,x.length≤12)∧Hid (SL No w wr [Aw a 141 (DY s t2 k2),Aw r 141 (DY [] 0 0),Aw z 25 #[.slice none 0 0,.slice none 0 0],Aw g 25 #[.slice A k c,.slice B j d],Ce 73 2 (.slice A k c) k (acc.flatMap AY.cells),Um (True) (BS Vb acc),Ce 9 1 (.slice B j d) j (ms.map tx)])∧Hid (FH s (NU l0) (Dp 12) m j ms t2 k2));case atStart=>exact ⟨0,[],none,0,t2,k2,rfl,Xl,rfl,rfl,TW,H,HI⟩
    case round=>
     exact Zh9
  ·have hk0:(kk==0)=false:=by simpa using hkk
   have zI:=Aa (HI.done (.inl hkk));clear HI hkk;by_cases hlt:k<n
   ·exact Zk5
   ·exact Zk5
theorem RY (a:List UInt8):Op.bytesLess a a=false:=by
 induction a with
 |nil=>rfl
 |cons x r ih=>simp [Op.bytesLess,ih]
theorem Ql {a b c:List UInt8} (h1:Op.bytesLess a b=true) (h2:Op.bytesLess b c=true):Op.bytesLess a c=true:=by
 induction a generalizing b c with
 |nil=>
  cases b with
  |nil=>simp [Op.bytesLess] at h1
  |cons y r=>
   cases c with
   |nil=>simp [Op.bytesLess] at h2
   |cons z s=>rfl
 |cons x r ih=>
  cases b with
  |nil=>simp [Op.bytesLess] at h1
  |cons y s=>
   cases c with
   |nil=>simp [Op.bytesLess] at h2
   |cons z t=>
    simp only [Op.bytesLess,Bool.or_eq_true,Rb,Vj,Ua] at h1 h2 ⊢;rcases h1 with h1|⟨rfl,h1⟩
    ·rcases h2 with h2|⟨rfl,h2⟩
     ·exact .inl (UInt8.lt_trans h1 h2)
     ·exact .inl h1
    ·rcases h2 with h2|⟨rfl,h2⟩
     ·exact .inl h2
     ·exact .inr ⟨rfl,ih h1 h2⟩
def Nf (ts:List (List UInt8)):Prop:=ts.Pairwise (fun a b=>Op.bytesLess a b=true)
theorem wO {ts:List (List UInt8)}:∀ {p:Option (List UInt8)},rowFrom p ts=0→Nf ts∧∀ q,p=some q→∀ t ∈ ts,Op.bytesLess q t=true:=by
 induction ts with
 |nil=>intro p _;exact ⟨List.Pairwise.nil,fun q _ t ht=>by cases ht⟩
 |cons t r ih=>
  intro p h;rw [rowFrom] at h;split at h
  ·split at h
   ·cases h
   ·rename_i h1 h2;obtain ⟨i1,i2⟩:=ih h;have i3:=i2 t rfl;refine ⟨List.Pairwise.cons i3 i1,fun q hq u hu=>?_⟩;subst hq;have hqt:Op.bytesLess q t=true:=by simpa using h2
    rcases FJ.1 hu with rfl|hu
    ·exact hqt
    ·exact Ql hqt (i3 u hu)
  ·cases h
theorem WO {ts:List (List UInt8)} (h:Cr ts=0):Nf ts:=(wO h).1
theorem Nf.lt {ts:List (List UInt8)} (h:Nf ts) {i j:Nat} {a b:List UInt8} (hij:i<j) (ha:ts[i]?=some a) (hb:ts[j]?=some b):Op.bytesLess a b=true:=by
 obtain ⟨h1,rfl⟩:=CB.1 ha;obtain ⟨h2,rfl⟩:=CB.1 hb;exact List.pairwise_iff_getElem.1 h i j h1 h2 hij
def posOf (s:List UInt8):List (List UInt8)→Option Nat
 |[]=>none
 |t::r=>if t==s then some 0 else (posOf s r).map (·+1)
theorem aD {s:List UInt8} {ts:List (List UInt8)} (h:∀ (k:Nat) t,ts[k]?=some t→(t==s)=false):posOf s ts=none:=by
 induction ts with
 |nil=>rfl
 |cons t r ih=>
  rw [posOf,h 0 t rfl,ih fun k u hu=>h (k+1) u hu]
  rfl
theorem aC {s:List UInt8} {ts:List (List UInt8)}:∀ {i:Nat} {t:List UInt8},ts[i]?=some t→(t==s)=true→(∀ (k:Nat) u,k<i→ts[k]?=some u→(u==s)=false)→posOf s ts=some i:=by
 induction ts with
 |nil=>intro i t h;simp at h
 |cons a r ih=>
  intro i t h he hn;cases i with
  |zero=>
   injection h with h;subst h;rw [posOf,he]
   rfl
  |succ i=>
   rw [posOf,hn 0 a Xl rfl,ih h he fun k u hk hu=>hn (k+1) u Xl hu]
   rfl
theorem VF {s:List UInt8} {ts:List (List UInt8)}:∀ {i:Nat},posOf s ts=some i→i<ts.length:=by
 induction ts with
 |nil=>intro i h;cases h
 |cons a r ih=>
  intro i h;rw [posOf] at h;split at h
  ·injection h with h;subst h;simp
  ·cases hp:posOf s r with
   |none=>rw [hp] at h;cases h
   |some j=>rw [hp] at h;simp at h;have:=ih hp;simp;omega
def zN (s:List UInt8) (ts:List (List UInt8)) (k:Nat) (b:Bool):Prop:=k≤ts.length∧(b=true→posOf s ts=some k)∧(b=false→posOf s ts=none)
theorem Y5 {s t:List UInt8} {ts:List (List UInt8)} {i:Nat} (h1:∀ (m:Nat) u,m<i→ts[m]?=some u→Op.bytesLess u s=true) (ht:ts[i]?=some t) (he:(t==s)=true):zN s ts i true:=by
 refine ⟨Nat.le_of_lt (CB.1 ht).1,fun _=>aC ht he fun k u hk hu=>?_,fun h=>by cases h⟩;rw [Xt];rintro rfl;have:=h1 k u hk hu;rw [RY] at this;cases this
theorem sG {s:List UInt8} {ts:List (List UInt8)} {i:Nat} (hr:Nf ts) (hi:i≤ts.length) (h1:∀ (m:Nat) u,m<i→ts[m]?=some u→Op.bytesLess u s=true) (h2:∀ (m:Nat) u,i≤m→ts[m]?=some u→Op.bytesLess u s=false) (h3:∀ u,ts[i]?=some u→(u==s)=false):zN s ts i false:=by
 refine ⟨hi,(fun h=>by cases h),fun _=>aD fun k u hu=>?_⟩;rcases kC k i with hk|hk|hk
 ·rw [Xt];rintro rfl;have:=h1 k u hk hu;rw [RY] at this;cases this
 ·subst hk;exact h3 u hu
 ·rw [Xt];rintro rfl;have hk2:=(CB.1 hu).1;have:=hr.lt hk (Fp (by omega:i<ts.length)) hu;have h4:=h2 i _ (Ci _) (Fp (by omega:i<ts.length));rw [this] at h4;cases h4
theorem Ak0 (s:List UInt8) (w:World):Calls prog 203 #[.string ⟨s.toArray⟩] w fun e w'=>e=.returned (.bool false)∧w=w':=by
 have h:(s !=s)=false:=by simp
 go_enter func203,ntmps203;go_wp2;go_ret;exact ⟨rfl,rfl⟩
theorem Ad3 (s:List UInt8) (w:World):Calls prog 197 #[.string ⟨s.toArray⟩] w fun e w'=>e=.returned (.bool false)∧w=w':=by
 have h:(s !=s)=false:=by simp
 go_enter func197,ntmps197;go_wp2;go_ret;exact ⟨rfl,rfl⟩
theorem J9 (a b:List UInt8) (w:World):Calls prog 196 #[.string ⟨a.toArray⟩,.string ⟨b.toArray⟩] w fun e w'=>e=.returned (.bool (Op.bytesLess a b))∧w=w':=by
 go_enter func196,ntmps196;go_wp2_with fail;refine (Ak0 a _).mono ?_;rintro e w1 ⟨rfl,rfl⟩;go_wp2;go_ret;exact ⟨rfl,rfl⟩
def uG (s:List UInt8) (ts:List (List UInt8)) (w:World) (e:Ending) (w':World):Prop:=∃ (k:Nat) (b:Bool),e=.returned (.tuple #[.int .i64 k,.bool b])∧w=w'∧zN s ts k b
theorem Ad9 (x:Row (List UInt8)) (s:List UInt8) (w:World) (hx:x.rd w) (hr:Nf x.l) (hn:x.n≤1000000):
 Calls prog 176 #[.slice x.A x.n x.c,.string ⟨s.toArray⟩] w (uG s x.l w):=by
 have hlen:Hid (x.l.length=x.n):=hx.len;have HX:=Aa hx;have HR:=Aa hr;obtain ⟨A,n,c,ts⟩:=x;simp only at *;clear hx hr;go_enter func176,ntmps176;go_wp2_with fail;have HF:Hid ((∀ (m:Nat) u,m<0→ts[m]?=some u→Op.bytesLess u s=true)∧(∀ (m:Nat) u,n≤m→ts[m]?=some u→Op.bytesLess u s=false)):=⟨fun m u h=>absurd h Xl,fun m u hm hu=>by
  have:=(CB.1 hu).1;have:=hlen.Ab;omega⟩
 go_loopg [7,8] n (fun gg s7 s8 wr=>∃ i j:Nat,gg=j - i∧i≤j∧j≤n∧s7=.int .i64 i∧s8=.int .i64 j∧w=wr∧Hid ((∀ (m:Nat) u,m<i→ts[m]?=some u→Op.bytesLess u s=true)∧(∀ (m:Nat) u,j≤m→ts[m]?=some u→Op.bytesLess u s=false)));case atStart=>exact ⟨0,n,Xl,Xl,Xl,rfl,rfl,rfl,HF⟩
 case round=>
  clear HF;obtain ⟨i,j,BR,hij,hj,rfl,rfl,rfl,HF⟩:=hrel;have Cs:=Aa BR;clear BR;by_cases hlt:i<j
  ·obtain ⟨b,o,t,hA,ht,htl,hc⟩:=HX.GR (k:=(i+j) / 2) (by show _<n;omega);simp only at hA;subst hA;have HT:=Aa ht;clear ht;go_wp2_with fail;refine (J9 t s _).mono ?_;rintro e w1 ⟨rfl,rfl⟩;cases hL:Op.bytesLess t s with
   |true=>
    have HN:Hid ((∀ (m:Nat) u,m<(i+j) / 2+1→ts[m]?=some u→Op.bytesLess u s=true)∧(∀ (m:Nat) u,j≤m→ts[m]?=some u→Op.bytesLess u s=false)):=by
     refine ⟨fun m u hm hu=>?_,HF.2⟩;rcases (show m<(i+j) / 2∨m=(i+j) / 2 by omega) with h|h
     ·exact Ql (HR.lt h hu HT.Ab) hL
     ·subst h;rw [HT.Ab] at hu;injection hu with hu;subst hu;exact hL
    clear HF hL;go_wp2;go_roundg (j - ((i+j) / 2+1));case rel=>exact ⟨(i+j) / 2+1,j,rfl,Xl,hj,by go_num,rfl,rfl,HN⟩
    case measure=>rw [Cs.Ab];omega
   |false=>
    have HN:Hid ((∀ (m:Nat) u,m<i→ts[m]?=some u→Op.bytesLess u s=true)∧(∀ (m:Nat) u,(i+j) / 2≤m→ts[m]?=some u→Op.bytesLess u s=false)):=by
     refine ⟨HF.1,fun m u hm hu=>?_⟩;rcases (show (i+j) / 2<m∨m=(i+j) / 2 by omega) with h|h
     ·cases hq:Op.bytesLess u s with
      |false=>rfl
      |true=>rw [Ql (HR.lt h HT hu) hq] at hL;cases hL
     ·subst h;rw [HT.Ab] at hu;injection hu with hu;subst hu;exact hL
    clear HF hL;go_wp2;go_roundg ((i+j) / 2 - i);case rel=>exact ⟨i,(i+j) / 2,rfl,Xl,Xl,rfl,by go_num,rfl,HN⟩
    case measure=>rw [Cs.Ab];omega
  ·obtain rfl:i=j:=by omega
   by_cases hin:i<n
   ·obtain ⟨b,o,t,hA,ht,htl,hc⟩:=HX.GR (k:=i) hin;simp only at hA;subst hA;have HT:=Aa ht;clear ht;cases hE:(t==s) with
    |true=>
     have HP:=Aa (Y5 HF.1 HT hE);clear HF;go_wp2;go_ret2;exact ⟨i,true,rfl,rfl,HP.Ab⟩
    |false=>
     have HP:=Aa (sG HR Za9 HF.1 HF.2 (fun u hu=>by rw [HT.Ab] at hu;injection hu with hu;subst hu;exact hE));clear HF;go_wp2_with fail;refine (Ad3 t _).mono ?_;rintro e w1 ⟨rfl,rfl⟩;go_wp2;go_ret2;exact ⟨i,false,rfl,rfl,HP.Ab⟩
   ·have HP:=Aa (sG HR Za9 HF.1 HF.2 (fun u hu=>by have:=(CB.1 hu).1;have:=hlen.Ab;omega));clear HF;go_wp2;go_ret2;exact ⟨i,false,rfl,rfl,HP.Ab⟩
theorem WI (x:Row (List UInt8)) (s:List UInt8) (w:World) (hx:x.rd w) (hr:Nf x.l) (hn:x.n≤1000000):
 Calls prog 144 #[.slice x.A x.n x.c,.string ⟨s.toArray⟩] w (uG s x.l w):=by
 have HB:=Aa (Ad9 x s w hx hr hn);go_enter func144,ntmps144;go_wp2_with fail;refine HB.mono ?_;rintro e w1 ⟨k,b,rfl,rfl,hF⟩;have HF:=Aa hF;clear hF;go_wp2;go_ret2;exact ⟨k,b,rfl,rfl,HF.Ab⟩
def Sl (s:List UInt8) (ts:List (List UInt8)):Int:=match posOf s ts with|some k=>k|none=>-1
theorem kU (x:Row (List UInt8)) (s:List UInt8) (w:World) (hx:x.rd w):
 Calls prog 51 #[.slice x.A x.n x.c,.string ⟨s.toArray⟩] w fun e w'=>e=.returned (.int .i64 (Sl s x.l))∧w=w':=by
 have hlen:Hid (x.l.length=x.n):=hx.len;have HX:=Aa hx;have n63:=hx.n63;obtain ⟨A,n,c,ts⟩:=x;simp only at *;clear hx;go_enter func51,ntmps51;go_wp2_with fail;have HF:Hid (∀ (k:Nat) u,k<0→ts[k]?=some u→(u==s)=false):=fun m u h=>absurd h Xl
 go_loopg [5] n (fun gg s5 wr=>∃ i:Nat,gg=n - i∧i≤n∧s5=.int .i64 i∧w=wr∧Hid (∀ (k:Nat) u,k<i→ts[k]?=some u→(u==s)=false));case atStart=>exact ⟨0,rfl,Xl,rfl,rfl,HF⟩
 case round=>
  clear HF;obtain ⟨i,BR,hi,rfl,rfl,HF⟩:=hrel;have Cs:=Aa BR;clear BR;by_cases hlt:i<n
  ·obtain ⟨b,o,t,hA,ht,htl,hc⟩:=HX.GR (k:=i) hlt;simp only at hA;subst hA;have HT:=Aa ht;have i0:(0:Int)≤i:=by omega
   have i1:(i:Int)<n:=by omega
   clear ht;cases hE:(t==s) with
   |true=>
    have HP:Hid (Sl s ts=i):=by show _=_;unfold Sl;rw [aC HT hE HF.Ab]
    clear HF;go_wp2;go_ret;rw [HP.Ab];exact ⟨rfl,rfl⟩
   |false=>
    have HN:Hid (∀ (k:Nat) u,k<i+1→ts[k]?=some u→(u==s)=false):=by
     intro k u hk hu;rcases (show k<i∨k=i by omega) with h|h
     ·exact HF k u h hu
     ·subst h;rw [HT.Ab] at hu;injection hu with hu;subst hu;exact hE
    clear HF;go_wp2;go_roundg (n - (i+1));case rel=>exact ⟨i+1,rfl,Xl,by go_num,rfl,HN⟩
    case measure=>rw [Cs.Ab];omega
  ·have HP:Hid (Sl s ts=-1):=by
    show _=_;unfold Sl;rw [aD fun k u hu=>HF k u (by have:=(CB.1 hu).1;have:=hlen.Ab;omega) hu]
   clear HF;go_wp2;go_ret;rw [HP.Ab];exact ⟨rfl,rfl⟩
end Go.Proofs.YtijplolmkcdflaaGreat
namespace Go.Proofs.YtijplolmkcdflaaGreat
open Tryz
open Go.RowKit Go.ChangeShapes Go.WideShapes Go.Deep
structure Rw where
 ts:Row (List UInt8)
 vs:Row Int
abbrev Rw.cs (r:Rw):Array Value:=#[.slice r.ts.A r.ts.n r.ts.c,.slice r.vs.A r.vs.n r.vs.c]
structure Rw.rd (w:World) (r:Rw):Prop where
 ts:r.ts.rd w
 vs:r.vs.rd w
theorem Rw.rd.mono {w w':World} {s:Rw} (h:s.rd w) (hb:Ai w w'):s.rd w':=⟨h.ts.mono hb,h.vs.mono hb⟩
instance Av0:AY Rw where
 size:=2
 bytes:=48
 cells s:=s.cs.toList
 ok w s:=s.rd w
 len _:=rfl
 pos:=by omega
 mono hb h:=h.mono hb
structure RC where
 ts:List (List UInt8)
 vs:List Int
deriving DecidableEq
abbrev Rw.Ac (r:Rw):RC:=⟨r.ts.l,r.vs.l⟩
theorem Ui (r:Rw):r.cs.all (·.oneCell')=true:=by simp [Value.oneCell']
theorem KL:Ep prog 38 2:=⟨⟨_,underlying38,rfl⟩,by kernel_rfl⟩
theorem fU:Cy prog 26 38 2 48:=Cy.mk' (z:=.agg #[.slice none 0 0,.slice none 0 0]) underlying26 Za0 rfl Xl
theorem Yl:Cy prog 36 2 1 8:=Cy.mk' (z:=.int .i64 0) underlying36 Za0 rfl Xl
theorem Row.rd.K8 {w:World} {x:Row Rw} (h:x.rd w) {k:Nat} (hk:k<x.n):∃ b o t,x.A=some ⟨b,o,none⟩∧b<w.heap.size∧x.l[k]?=some t∧t.rd w∧w.rangeAt b (o+k * 2) t.cs.toList:=by
 obtain ⟨b,o,t,e,hb,ht,hc⟩:=NP h.r hk;exact ⟨b,o,t,e,hb,ht,h.all t (CU ht),hc⟩
def Ec:List DC→List (List UInt8)→Except Int (List Int)
 |d::ds,t::ts=>
  match d.Bi with
  |[]=>.error 2
  |tr::_=>
   match posOf t tr.ts with
   |none=>.error 13
   |some k=>
    match Ec ds ts with
    |.error e=>.error e
    |.ok ks=>.ok ((k:Int)::ks)
 |_,_=>.ok []
def rowOf (s:SC) (r:RC):Except Int (List Int):=if r.ts.length≠s.Dx.length∨r.vs.length≠s.ms.length then .error 2 else Ec s.Dx r.ts
def Ji (acc:List Int) (o:Except Int (List Int)):Except Int (List Int):=match o with|.error e=>.error e|.ok ks=>.ok (acc++ks)
theorem dQ (o:Except Int (List Int)):Ji [] o=o:=by cases o<;>rfl
theorem Yf {acc:List Int} {k:Int} {o:Except Int (List Int)}:Ji acc (match o with|.error e=>.error e|.ok ks=>.ok (k::ks))=Ji (acc++[k]) o:=by cases o<;>simp [Ji]
theorem Vx {ds:List DC} {ts:List (List UInt8)} {k:Nat} {d:DC} {t:List UInt8} (hd:ds[k]?=some d) (ht:ts[k]?=some t):Ec (ds.drop k) (ts.drop k)=match d.Bi with|[]=>.error 2|tr::_=>match posOf t tr.ts with|none=>.error 13|some p=>match Ec (ds.drop (k+1)) (ts.drop (k+1)) with|.error e=>.error e|.ok ks=>.ok ((p:Int)::ks):=by
 obtain ⟨h1,rfl⟩:=CB.1 hd;obtain ⟨h2,rfl⟩:=CB.1 ht;rw [Eg h1,Eg h2,Ec]
theorem TJ {ds:List DC} {ts:List (List UInt8)} {k:Nat} {d:DC} {t:List UInt8} (hd:ds[k]?=some d) (ht:ts[k]?=some t) (h:d.Bi=[]):Ec (ds.drop k) (ts.drop k)=.error 2:=by rw [Vx hd ht,h]
theorem Mh {ds:List DC} {ts:List (List UInt8)} {k:Nat} {d:DC} {t:List UInt8} {tr:TC} {r:List TC} (hd:ds[k]?=some d) (ht:ts[k]?=some t) (h:d.Bi=tr::r):Ec (ds.drop k) (ts.drop k)=match posOf t tr.ts with|none=>.error 13|some p=>match Ec (ds.drop (k+1)) (ts.drop (k+1)) with|.error e=>.error e|.ok ks=>.ok ((p:Int)::ks):=by rw [Vx hd ht,h]
def D7 (o:Except Int (List Int)) (w:World) (e:Ending) (w':World):Prop:=
 match o with
 |.error k=>e=.returned (.tuple #[.slice none 0 0,.int .i64 k])∧Ai w w'
 |.ok ks=>∃ (A:Option Addr) (c:Nat),e=.returned (.tuple #[.slice A ks.length c,.int .i64 0])∧Ai w w'∧w'.ownsRow w.heap.size 3 1 (.slice A ks.length c) ks.length (ks.map (Value.int .i64))
theorem Zn1 {p:Prop} (h:p:=by
 have HN:Hid (rowOf ⟨ds.map Dm.Ac,ms⟩ ⟨ts,vs⟩=.error 2):=by
  show _=_;rw [HE.Ab,TJ OU HTk (by show D.tr.l.map Bt.Ac=[];rw [LD (l:=D.tr.l) (by rw [htrl.Ab];exact hz)];(try rfl))]
  rfl
 have z1:((D.tr.n:Int)==0)=true:=by simp [hz]
 have z2:(D.tr.n==0)=true:=by simp [hz]
 clear HE OU HTk;rw [hz] at q1;clear hz z1 z2;go_wp2;go_ret2;rw [HN.Ab];exact ⟨rfl,H.to⟩
):p:=h
theorem Zo3 {p:Prop} (h:p:=by
 have HN:Hid (rowOf ⟨ds.map Dm.Ac,ms⟩ ⟨ts,vs⟩=.ok ks):=by
  show _=_;rw [HE.Ab,EN (by have:=hl1.Ab;simp;omega)];show Ji ks (.ok [])=_;unfold Ji;simp
 have hks:=hkc.Ab;clear HE;go_wp2;go_ret2;rw [HN.Ab];refine ⟨B,d,?_,H.to,?_⟩
 ·rw [hks];(try rfl)
 ·rw [hks];exact H.M7 2 rfl
):p:=h
theorem Zo4 {p:Prop} (h:p:=by
 have HE:Hid (rowOf ⟨ds.map Dm.Ac,ms⟩ ⟨ts,vs⟩=.error 2):=by show _=_;unfold rowOf;rw [Al (.inr (by have:=hl2.Ab;have:=hl4.Ab;simp;omega))]
 have g1:((n4:Int) !=(n2:Int))=true:=by simp<;>omega
 have g2:(n4 !=n2)=true:=by simp<;>omega
 go_wp2;go_ret2;rw [HE.Ab];exact ⟨rfl,H.to⟩
):p:=h
theorem Zo7 {p:Prop} (h:p:=by
 have HE:Hid (rowOf ⟨ds.map Dm.Ac,ms⟩ ⟨ts,vs⟩=.error 2):=by show _=_;unfold rowOf;rw [Al (.inl (by have:=hl1.Ab;have:=hl3.Ab;simp;omega))]
 have g1:((n3:Int) !=(n:Int))=true:=by simp<;>omega
 have g2:(n3 !=n)=true:=by simp<;>omega
 go_wp2;go_ret2;rw [HE.Ab];exact ⟨rfl,H.to⟩
):p:=h
theorem Zp2 {p:Prop} (h:p:=by
 replace H:=Aa (H.Fg [0,1,2] Za1 uH);(try simp only [LS] at H);go_roundg (n3 - (k+1));case rel=>exact ⟨k+1,ks++[(p:Int)],A9,c9,rfl,Xl,by go_num,rfl,by show _=_;rw [Cn,hkc.Ab];(try rfl),by rw [Cf];exact H,HN⟩
 case measure=>rw [Cs.Ab];omega
):p:=h
theorem Zw4 {p:Prop} (h:p:=by have:=hl1.Ab;have:=hl2.Ab;have:=hl3.Ab;have:=hl4.Ab;simp;omega):p:=h
theorem ZG (s:Ej) (r:Rw) (w:World) (hs:s.rd w) (hrw:r.rd w) (hn:s.dm.n≤1000000) (hr:∀ d ∈ s.dm.l,∀ t ∈ d.tr.l,Nf t.ts.l∧t.ts.n≤1000000):
 Calls prog 99 #[.agg s.cs,.agg r.cs] w (D7 (rowOf s.Ac r.Ac) w):=by
 have hl1:Hid (s.dm.l.length=s.dm.n):=hs.dm.len;have hl2:Hid (s.ms.l.length=s.ms.n):=hs.ms.len;have hl3:Hid (r.ts.l.length=r.ts.n):=hrw.ts.len;have hl4:Hid (r.vs.l.length=r.vs.n):=hrw.vs.len;have HD:=Aa hs.dm;have HT:=Aa hrw.ts;have Ic:=Aa hr;have n63:=hs.dm.n63;have m63:=hrw.vs.n63;have t63:=hrw.ts.n63;have e63:=hs.ms.n63;have H:=Aa (((SL.start No w).alloc s.cs 25).alloc r.cs 38);(try simp only [LS] at H);obtain ⟨⟨A,n,c,ds⟩,⟨A2,n2,c2,ms⟩⟩:=s;obtain ⟨⟨A3,n3,c3,ts⟩,⟨A4,n4,c4,vs⟩⟩:=r;simp only [Ej.cs,Ej.Ac,Rw.cs,Rw.Ac] at *;clear hs hrw hr;go_enter func99,ntmps99;have Gc:=(H.blk 0 rfl).Ap 0;have Xi:=(H.blk 1 rfl).Ap 0;have PI:=(H.blk 0 rfl).Ap 1;have fI:=(H.blk 1 rfl).Ap 1;by_cases h1:n3=n
 ·subst h1;by_cases h2:n4=n2
  ·subst h2;have HE:Hid (rowOf ⟨ds.map Dm.Ac,ms⟩ ⟨ts,vs⟩=Ji [] (Ec ((ds.map Dm.Ac).drop 0) (ts.drop 0))):=by
    show _=_;unfold rowOf;rw [Ak Zw4,dQ]
    rfl
   go_wp2_with fail;clear Gc Xi PI fI;generalize w.heap.size+1=y at *;generalize w.heap.size=x at *;replace H:=Aa (H.Dw 3 1);(try simp only [LS] at H);generalize World.alloc _ _=w1 at *;go_loopg [6,30] n3 (fun gg s6 si wr=>∃ (k:Nat) (ks:List Int) (B:Option Addr) (d:Nat),gg=n3 - k∧k≤n3∧si=.int .i64 k∧s6=.slice B k d∧Hid (ks.length=k)∧Hid (SL No w wr [Aw x 25 #[.slice A n3 c,.slice A2 n4 c2],Aw y 38 #[.slice A3 n3 c3,.slice A4 n4 c4],Ce 3 1 (.slice B k d) k (ks.map (Value.int .i64))])∧Hid (rowOf ⟨ds.map Dm.Ac,ms⟩ ⟨ts,vs⟩=Ji ks (Ec ((ds.map Dm.Ac).drop k) (ts.drop k))));case atStart=>exact ⟨0,[],none,0,rfl,Xl,rfl,rfl,rfl,H,HE⟩
   case round=>
    clear H HE;obtain ⟨k,ks,B,d,BR,hk,rfl,rfl,hkc,H,HE⟩:=hrel;have Cs:=Aa BR;clear BR;by_cases hlt:k<n3
    ·obtain ⟨b1,o1,D,hA,hb1,Ve,Fj,hrg⟩:=(HD.mono H.to).Sd (k:=k) hlt;simp only at hA;subst hA;obtain ⟨b3,o3,t,hA3,htk,htl,q3⟩:=(HT.mono H.to).GR (k:=k) hlt;simp only at hA3;subst hA3;have EW:(ds.map Dm.Ac)[k]?=some D.Ac:=by rw [Ed,Ve];(try rfl)
     have OU:=Aa EW;have HTk:Hid (ts[k]?=some t):=htk;have HDK:=Aa Ve;have q1:=hrg 1 _ rfl;have htrl:Hid (D.tr.l.length=D.tr.n):=Fj.tr.len;have HDR:=Aa Fj;have D63:=Fj.tr.n63;have i0:(0:Int)≤k:=by omega
     have i1:(k:Int)<n3:=by omega
     have Gc:=(H.blk 0 rfl).Ap 0;have Xi:=(H.blk 1 rfl).Ap 0;clear Ve hrg EW htk Fj hb1;by_cases hz:D.tr.n=0
     ·exact Zn1
     ·have z1:((D.tr.n:Int)==0)=false:=by simp<;>omega
      have z2:(D.tr.n==0)=false:=by simp<;>omega
      obtain ⟨b2,o2,T,hT,hb2,hT0,hTr,hrg2⟩:=HDR.tr.JO (k:=0) Xl;have q2:=hrg2 1 _ rfl;simp only [Ww,Kb] at q2;rw [hT] at q1;have j1:(0:Int)<D.tr.n:=by omega
      have hT0c:(D.tr.l.map Bt.Ac)=T.Ac::(D.tr.l.map Bt.Ac).tail:=by
       cases hl:D.tr.l with
       |nil=>rw [hl] at hT0;cases hT0
       |cons a r=>rw [hl] at hT0;injection hT0 with hT0;subst hT0;rfl
      have HTC:=Aa hT0c;have uN:=Aa hTr.ts;obtain ⟨hri,hTn⟩:=Ic D (CU HDK.Ab) T (CU hT0);have HRi:=Aa hri;clear hri;clear hT hT0 hTr hrg2 hT0c hb2;go_wp2_with fail;refine (WI T.ts t _ uN HRi hTn).mono ?_;rintro e w5 ⟨p,fb,rfl,rfl,hF⟩;clear Gc Xi q1 q2 q3;cases fb with
      |false=>
       have HN:Hid (rowOf ⟨ds.map Dm.Ac,ms⟩ ⟨ts,vs⟩=.error 13):=by show _=_;rw [HE.Ab,Mh OU HTk (show D.Ac.Bi=_ from HTC.Ab)];show Ji ks (match posOf t T.ts.l with|none=>_|some k=>_)=_;rw [hF.2.2 rfl];(try rfl)
       clear HE OU HTk hF;go_wp2;go_ret2;rw [HN.Ab];exact ⟨rfl,H.to⟩
      |true=>
       have HN:Hid (rowOf ⟨ds.map Dm.Ac,ms⟩ ⟨ts,vs⟩=Ji (ks++[(p:Int)]) (Ec ((ds.map Dm.Ac).drop (k+1)) (ts.drop (k+1)))):=by
        show _=_;rw [HE.Ab,Mh OU HTk (show D.Ac.Bi=_ from HTC.Ab)];show Ji ks (match posOf t T.ts.l with|none=>_|some k=>_)=_;rw [hF.2.1 rfl];exact Yf
       clear HE OU HTk hF;go_wp2_with ((with_reducible refine OP 62 ?_);(replace H:=Aa (H.alloc #[.int .i64 (p:Nat)] 3);(try simp only [LS] at H);refine Az rfl (.tmp 59) (.tmp 61) _ rfl LM 0 (Bj _) _ k _ rfl (H.row 2 rfl) _ 1 1 [.int .i64 (p:Nat)] rfl (AV (H.blk 3 rfl) rfl) Za2 Za4 Xl ?_;intro vq wq AJ Aq AQ;replace H:=Aa (H.setRow 2 rfl Aq AJ AQ);(try simp only [LS] at H);clear AJ Aq AQ;obtain ⟨A9,c9,rfl,_⟩:=Ao (H.row 2 rfl)));exact Zp2
    ·exact Zo3
  ·exact Zo4
 ·exact Zo7
theorem gX (s:Ej) (r:Rw) (w:World) (hs:s.rd w) (hrw:r.rd w) (hn:s.dm.n≤1000000):
 Calls prog 26 #[.agg s.cs,.agg r.cs] w (D7 (rowOf s.Ac r.Ac) w):=by
 have hl1:Hid (s.dm.l.length=s.dm.n):=hs.dm.len;have hl2:Hid (s.ms.l.length=s.ms.n):=hs.ms.len;have hl3:Hid (r.ts.l.length=r.ts.n):=hrw.ts.len;have hl4:Hid (r.vs.l.length=r.vs.n):=hrw.vs.len;have HD:=Aa hs.dm;have HT:=Aa hrw.ts;have n63:=hs.dm.n63;have m63:=hrw.vs.n63;have t63:=hrw.ts.n63;have e63:=hs.ms.n63;have H:=Aa (((SL.start No w).alloc s.cs 25).alloc r.cs 38);(try simp only [LS] at H);obtain ⟨⟨A,n,c,ds⟩,⟨A2,n2,c2,ms⟩⟩:=s;obtain ⟨⟨A3,n3,c3,ts⟩,⟨A4,n4,c4,vs⟩⟩:=r;simp only [Ej.cs,Ej.Ac,Rw.cs,Rw.Ac] at *;clear hs hrw;go_enter func26,ntmps26;have Gc:=(H.blk 0 rfl).Ap 0;have Xi:=(H.blk 1 rfl).Ap 0;have PI:=(H.blk 0 rfl).Ap 1;have fI:=(H.blk 1 rfl).Ap 1;by_cases h1:n3=n
 ·subst h1;by_cases h2:n4=n2
  ·subst h2;have HE:Hid (rowOf ⟨ds.map Dm.Ac,ms⟩ ⟨ts,vs⟩=Ji [] (Ec ((ds.map Dm.Ac).drop 0) (ts.drop 0))):=by
    show _=_;unfold rowOf;rw [Ak Zw4,dQ]
    rfl
   go_wp2_with fail;clear Gc Xi PI fI;generalize w.heap.size+1=y at *;generalize w.heap.size=x at *;replace H:=Aa (H.Dw 3 1);(try simp only [LS] at H);generalize World.alloc _ _=w1 at *;go_loopg [6,28] n3 (fun gg s6 si wr=>∃ (k:Nat) (ks:List Int) (B:Option Addr) (d:Nat),gg=n3 - k∧k≤n3∧si=.int .i64 k∧s6=.slice B k d∧Hid (ks.length=k)∧Hid (SL No w wr [Aw x 25 #[.slice A n3 c,.slice A2 n4 c2],Aw y 38 #[.slice A3 n3 c3,.slice A4 n4 c4],Ce 3 1 (.slice B k d) k (ks.map (Value.int .i64))])∧Hid (rowOf ⟨ds.map Dm.Ac,ms⟩ ⟨ts,vs⟩=Ji ks (Ec ((ds.map Dm.Ac).drop k) (ts.drop k))));case atStart=>exact ⟨0,[],none,0,rfl,Xl,rfl,rfl,rfl,H,HE⟩
   case round=>
    clear H HE;obtain ⟨k,ks,B,d,BR,hk,rfl,rfl,hkc,H,HE⟩:=hrel;have Cs:=Aa BR;clear BR;by_cases hlt:k<n3
    ·obtain ⟨b1,o1,D,hA,hb1,Ve,Fj,hrg⟩:=(HD.mono H.to).Sd (k:=k) hlt;simp only at hA;subst hA;obtain ⟨b3,o3,t,hA3,htk,htl,q3⟩:=(HT.mono H.to).GR (k:=k) hlt;simp only at hA3;subst hA3;have EW:(ds.map Dm.Ac)[k]?=some D.Ac:=by rw [Ed,Ve];(try rfl)
     have OU:=Aa EW;have HTk:Hid (ts[k]?=some t):=htk;have HDK:=Aa Ve;have q1:=hrg 1 _ rfl;have htrl:Hid (D.tr.l.length=D.tr.n):=Fj.tr.len;have HDR:=Aa Fj;have D63:=Fj.tr.n63;have i0:(0:Int)≤k:=by omega
     have i1:(k:Int)<n3:=by omega
     have Gc:=(H.blk 0 rfl).Ap 0;have Xi:=(H.blk 1 rfl).Ap 0;clear Ve hrg EW htk Fj hb1;by_cases hz:D.tr.n=0
     ·exact Zn1
     ·have z1:((D.tr.n:Int)==0)=false:=by simp<;>omega
      have z2:(D.tr.n==0)=false:=by simp<;>omega
      obtain ⟨b2,o2,T,hT,hb2,hT0,hTr,hrg2⟩:=HDR.tr.JO (k:=0) Xl;have q2:=hrg2 1 _ rfl;simp only [Ww,Kb] at q2;rw [hT] at q1;have j1:(0:Int)<D.tr.n:=by omega
      have hT0c:(D.tr.l.map Bt.Ac)=T.Ac::(D.tr.l.map Bt.Ac).tail:=by
       cases hl:D.tr.l with
       |nil=>rw [hl] at hT0;cases hT0
       |cons a r=>rw [hl] at hT0;injection hT0 with hT0;subst hT0;rfl
      have HTC:=Aa hT0c;have uN:=Aa hTr.ts;clear hT hT0 hTr hrg2 hT0c hb2;go_upto_region 9 with fail;have f0:=fun u:Over wr=>Over.cell Gc u
      have f1:=fun u:Over wr=>Over.cell Xi u
      have f2:=fun u:Over wr=>Over.cell q1 u
      have f3:=fun u:Over wr=>Over.cell q2 u
      have f4:=fun u:Over wr=>Over.cell q3 u
      refine Am ?_;repeat (go_big_quiet_step ((go_at_call 51;rename_i u;exact GA (kU T.ts t _ (uN.mono u.Av)))))
      refine CS ?_;rintro _ ⟨⟨w5,Gd⟩,rfl⟩;replace H:=Aa (H.Av Gd);clear Gd f0 f1 f2 f3 f4 Gc Xi q1 q2 q3;cases hP:posOf t T.ts.l with
      |none=>
       have HN:Hid (rowOf ⟨ds.map Dm.Ac,ms⟩ ⟨ts,vs⟩=.error 13):=by show _=_;rw [HE.Ab,Mh OU HTk (show D.Ac.Bi=_ from HTC.Ab)];show Ji ks (match posOf t T.ts.l with|none=>_|some k=>_)=_;rw [hP];(try rfl)
       have hAt:Sl t T.ts.l=-1:=by unfold Sl;rw [hP]
       rw [hAt];clear HE OU HTk hP hAt;go_wp2;go_ret2;rw [HN.Ab];exact ⟨rfl,H.to⟩
      |some p=>
       have hpl:=VF hP;have hTn63:=uN.n63;rw [uN.len] at hpl;have HN:Hid (rowOf ⟨ds.map Dm.Ac,ms⟩ ⟨ts,vs⟩=Ji (ks++[(p:Int)]) (Ec ((ds.map Dm.Ac).drop (k+1)) (ts.drop (k+1)))):=by
        show _=_;rw [HE.Ab,Mh OU HTk (show D.Ac.Bi=_ from HTC.Ab)];show Ji ks (match posOf t T.ts.l with|none=>_|some k=>_)=_;rw [hP];exact Yf
       have hAt:Sl t T.ts.l=(p:Int):=by unfold Sl;rw [hP]
       rw [hAt];clear HE OU HTk hP hAt;go_wp2_with ((with_reducible refine OP 59 ?_);(replace H:=Aa (H.alloc #[.int .i64 (p:Nat)] 3);(try simp only [LS] at H);refine Az rfl (.tmp 56) (.tmp 58) _ rfl LM 0 (Bj _) _ k _ rfl (H.row 2 rfl) _ 1 1 [.int .i64 (p:Nat)] rfl (AV (H.blk 3 rfl) rfl) Za2 Za4 Xl ?_;intro vq wq AJ Aq AQ;replace H:=Aa (H.setRow 2 rfl Aq AJ AQ);(try simp only [LS] at H);clear AJ Aq AQ;obtain ⟨A9,c9,rfl,_⟩:=Ao (H.row 2 rfl)));exact Zp2
    ·exact Zo3
  ·exact Zo4
 ·exact Zo7
end Go.Proofs.YtijplolmkcdflaaGreat
namespace Go.Proofs.YtijplolmkcdflaaGreat
open Tryz
open Go.RowKit
def JC (s:SC):List RC→Int
 |[]=>0
 |r::rs=>match rowOf s r with|.error e=>e|.ok _=>JC s rs
def CR (s:SC) (rows:List RC):Int:=if Ay s≠0 then Ay s else if 300<rows.length then 5 else JC s rows
theorem Vw {s:SC} {rows:List RC} {k:Nat} {r:RC} (h:rows[k]?=some r):JC s (rows.drop k)=match rowOf s r with|.error e=>e|.ok _=>JC s (rows.drop (k+1)):=by
 obtain ⟨h1,rfl⟩:=CB.1 h;rw [Eg h1,JC]
theorem pE {ds:List DC}:∀ {ts:List (List UInt8)} {e:Int},Ec ds ts=.error e→e=2∨e=13:=by
 induction ds with
 |nil=>intro ts e h;cases ts<;>simp [Ec] at h
 |cons d ds ih=>
  intro ts e h;cases ts with
  |nil=>simp [Ec] at h
  |cons t ts=>
   rw [Ec] at h;split at h
   ·injection h with h;exact .inl h.symm
   ·split at h
    ·injection h with h;exact .inr h.symm
    ·split at h
     ·rename_i h1;injection h with h;subst h;exact ih h1
     ·cases h
theorem WN {s:SC} {r:RC} {e:Int} (h:rowOf s r=.error e):e=2∨e=13:=by
 unfold rowOf at h;split at h
 ·injection h with h;exact .inl h.symm
 ·exact pE h
theorem wH {s:SC} {rows:List RC} (h:JC s rows=0):∀ r ∈ rows,∃ ks,rowOf s r=.ok ks:=by
 induction rows with
 |nil=>intro r hr;cases hr
 |cons a rs ih=>
  intro r hr;rw [JC] at h;cases ha:rowOf s a with
  |error e=>
   rw [ha] at h;have:=WN ha;simp only at h;omega
  |ok ks=>
   rw [ha] at h;rcases FJ.1 hr with rfl|hr
   ·exact ⟨ks,ha⟩
   ·exact ih h r hr
theorem IE {s:SC} {rows:List RC} (h:CR s rows=0):Ay s=0∧rows.length≤300∧∀ r ∈ rows,∃ ks,rowOf s r=.ok ks:=by
 unfold CR at h;split at h
 ·rename_i h1;exact absurd h h1
 ·split at h
  ·cases h
  ·exact ⟨Xl,Xl,wH h⟩
theorem O7 {s:List UInt8} {ts:List (List UInt8)}:∀ {i:Nat},posOf s ts=some i→s ∈ ts:=by
 induction ts with
 |nil=>intro i h;cases h
 |cons a r ih=>
  intro i h;rw [posOf] at h;split at h
  ·rename_i h1;rw [Ua] at h1;subst h1;exact Gg ..
  ·cases hp:posOf s r with
   |none=>rw [hp] at h;cases h
   |some j=>exact Ii _ (ih hp)
theorem eP {ds:List DC}:∀ {ts:List (List UInt8)} {ks:List Int},(∀ d ∈ ds,∀ tr ∈ d.Bi,∀ t ∈ tr.ts,t.length≤16)→ts.length=ds.length→Ec ds ts=.ok ks→∀ t ∈ ts,t.length≤16:=by
 induction ds with
 |nil=>intro ts ks _ hl _ t ht;cases ts with|nil=>cases ht|cons a r=>simp at hl
 |cons d ds ih=>
  intro ts ks hd hl h t ht;cases ts with
  |nil=>cases ht
  |cons a r=>
   rw [Ec] at h;split at h
   ·cases h
   ·rename_i tr rest htr;split at h
    ·cases h
    ·rename_i k hp;split at h
     ·cases h
     ·rename_i ks' hk;rcases FJ.1 ht with rfl|ht
      ·exact hd d (Gg ..) tr (by rw [htr];exact Gg ..) _ (O7 hp)
      ·exact ih (fun d' hd'=>hd d' (Ii _ hd')) Zd1 hk t ht
theorem PE {d:DC} (h:BD d=0):∀ tr ∈ d.Bi,Cr tr.ts=0∧tr.ts.length≤200:=fun tr htr=>by
 obtain ⟨a,ha⟩:=Tc (Gq (ER h).2.2.2) htr;exact ⟨(EK ha).2.2.2.1,(EK ha).2.2.1⟩
theorem WM {s:SC} {r:RC} {ks:List Int} (hE:Ay s=0) (h:rowOf s r=.ok ks):r.ts.length≤16∧r.vs.length≤3∧∀ t ∈ r.ts,t.length≤16:=by
 obtain ⟨h1,h2,h3,h4,h5,h6⟩:=BH hE;unfold rowOf at h;split at h
 ·cases h
 ·rename_i h7;refine ⟨Xl,Xl,eP (fun d hd tr htr t ht=>II (PE (h3 d hd) tr htr).1 ht) Xl h⟩
theorem ZH {s:Ej} {w:World} (hs:s.rd w) (hE:Ay s.Ac=0):∀ d ∈ s.dm.l,∀ t ∈ d.tr.l,Nf t.ts.l∧t.ts.n≤1000000:=fun d hd t ht=>by
 have h3:=(BH hE).2.2.1 d.Ac (Kc.2 ⟨d,hd,rfl⟩);have h4:=PE h3 t.Ac (Kc.2 ⟨t,ht,rfl⟩);have h5:t.ts.l.length=t.ts.n:=Row.rd.len (Bt.rd.ts (Row.rd.all (Dm.rd.tr (Row.rd.all (Ej.rd.dm hs) d hd)) t ht));exact ⟨WO h4.1,by have:=h4.2;simp only at this;omega⟩
theorem Zn8 {p:Prop} (h:p:=by
 have HN:Hid (CR s.Ac (rows.map Rw.Ac)=JC s.Ac ((rows.map Rw.Ac).drop (k+1))):=by show _=_;rw [HB.Ab,Jn.Ab,ho]
 rw [ho] at Yx;clear ho HB Jn;refine Yx.mono ?_;rintro e w2 ⟨B,d,rfl,hb2,_⟩;replace H:=Aa (H.Av hb2);replace H:=Aa (H.Fg [0] Za1 uH);(try simp only [LS] at H);clear hb2 Yx;go_wp2;exact Zd5
):p:=h
theorem VZ (s:Ej) (x:Row Rw) (w:World) (hs:s.rd w) (hx:x.rd w) (hn:s.dm.n≤1000000) (hm:s.ms.n≤1000000) (hd:∀ d ∈ s.dm.l,d.tr.n≤1000000∧∀ t ∈ d.tr.l,t.up.n≤100000):
 Calls prog 96 #[.agg s.cs,.slice x.A x.n x.c] w fun e w'=>e=.returned (.int .i64 (CR s.Ac (x.l.map Rw.Ac)))∧Ai w w':=by
 have HC:=Aa (fun w' (hb:Ai w w')=>GJ s w' (hs.mono hb) hn hm hd);have hlen:Hid (x.l.length=x.n):=hx.len;have HX:=Aa hx;have HR:=Aa (fun (hE:Ay s.Ac=0) r w' (hr:Rw.rd w' r) (hb:Ai w w')=>ZG s r w' (hs.mono hb) hr hn (ZH hs hE));have n63:=hx.n63;have H:=Aa ((SL.start No w).alloc s.cs 25);(try simp only [LS] at H);obtain ⟨A,n,c,rows⟩:=x;simp only at *;have hcs:s.cs=#[.slice s.dm.A s.dm.n s.dm.c,.slice s.ms.A s.ms.n s.ms.c]:=rfl;have HCS:=Aa hcs;clear hs hx hd hcs;go_enter func96,ntmps96;rw [←HCS.Ab] at *;go_wp2_with ((with_reducible refine OP 10 ?_);(refine Bf Bb (H.blk 0 rfl) ?_));refine (HC _ H.to).mono ?_;rintro e w1 ⟨rfl,hb1⟩;replace H:=Aa (H.Av hb1);clear hb1 HC;by_cases hE:Ay s.Ac=0
 ·rw [hE];by_cases hl:n≤300
  ·have d1:decide ((300:Int)<n)=false:=by simp<;>omega
   have HB:Hid (CR s.Ac (rows.map Rw.Ac)=JC s.Ac ((rows.map Rw.Ac).drop 0)):=by show _=_;unfold CR;rw [Ak Xl,Ak Zb1];(try rfl)
   have HE:=Aa hE;clear hE;go_wp2_with fail;generalize w.heap.size=x at *;clear d1;go_loopg [20] n (fun gg i wr=>∃ k:Nat,gg=n - k∧k≤n∧i=.int .i64 k∧Hid (SL No w wr [Aw x 25 s.cs])∧Hid (CR s.Ac (rows.map Rw.Ac)=JC s.Ac ((rows.map Rw.Ac).drop k)));case atStart=>exact ⟨0,rfl,Xl,rfl,H,HB⟩
   case round=>
    clear H HB;obtain ⟨k,BR,hk,rfl,H,HB⟩:=hrel;have Cs:=Aa BR;clear BR;by_cases hlt:k<n
    ·obtain ⟨bb,oo,r,hA,hbb,nL,hrr,hrg⟩:=(HX.mono H.to).K8 (k:=k) hlt;simp only at hA;subst hA;have hrc:(rows.map Rw.Ac)[k]?=some r.Ac:=by rw [Ed,nL];(try rfl)
     have Jn:=Aa (Vw (s:=s.Ac) hrc);have nP:=Aa hrg;have HRr:=Aa hrr;clear nL hrr hrg hrc hbb;go_wp2_with (first|((with_reducible refine OP 23 ?_);(refine Af rfl KL (.tmp 22) rfl bb (oo+k * 2) rfl r.cs rfl nP.Ab ?_))|((with_reducible refine OS 7 ?_);(refine DX KL (r.cs) (Ui r) ?_;replace H:=Aa (H.alloc (r.cs) 38);(try simp only [LS] at H)))|((with_reducible refine OP 25 ?_);(refine Bf Bb (H.blk 0 rfl) ?_))|((with_reducible refine OP 26 ?_);(refine Bf KL (H.blk 1 rfl) ?_)));have Yx:=Aa (HR HE r _ (HRr.mono ((Ai.refl _).alloc (.cells r.cs 38))) H.to);cases ho:rowOf s.Ac r.Ac with
     |error e1=>
      have hE2:=WN ho;have HN:Hid (CR s.Ac (rows.map Rw.Ac)=e1):=by show _=_;rw [HB.Ab,Jn.Ab,ho]
      rw [ho] at Yx;have z1:(e1 !=0)=true:=by simp<;>omega
      have z2:(e1==0)=false:=by simp<;>omega
      clear ho HB Jn hE2;refine Yx.mono ?_;rintro e w2 ⟨rfl,hb2⟩;replace H:=Aa (H.Av hb2);clear hb2;go_wp2;go_ret;rw [HN.Ab];exact ⟨rfl,H.to⟩
     |ok ks=>
      exact Zn8
    ·have HN:Hid (CR s.Ac (rows.map Rw.Ac)=0):=by show _=_;rw [HB.Ab,EN Zb1];(try rfl)
     clear HB;go_wp2;go_ret;rw [HN.Ab];exact ⟨rfl,H.to⟩
  ·have d1:decide ((300:Int)<n)=true:=by simp<;>omega
   have HN:Hid (CR s.Ac (rows.map Rw.Ac)=5):=by show _=_;unfold CR;rw [Ak Xl,Al Zb1]
   clear hE;go_wp2;go_ret;rw [HN.Ab];exact ⟨rfl,H.to⟩
 ·have HN:Hid (CR s.Ac (rows.map Rw.Ac)=Ay s.Ac):=by show _=_;unfold CR;rw [Al hE]
  have z1:(Ay s.Ac !=0)=true:=by simpa using hE
  have z2:(Ay s.Ac==0)=false:=by simpa using hE
  clear hE;go_wp2;go_ret;rw [HN.Ab];exact ⟨rfl,H.to⟩
theorem Zp0 {p:Prop} (h:p:=by
 unfold GY at h;rcases GV (l:=l) with ⟨hp,hn⟩|⟨n,z,hn,hz,hlt,hp⟩
 ·rw [hp] at h;cases h
 ·rw [hp] at h;injection h with h;injection h with h1 h2;subst h1;subst h2;have:=Uw (l:=l) (by rw [hn]);rw [hn] at this;rw [TL,←this.1,Na];exact ⟨rfl,aN hlt⟩
):p:=h
theorem XT {l r:List UInt8} {x:Int} (h:GY l=.ok (x,r)):l=Cx (FV x)++r∧AZ x:=by
 exact Zp0
theorem Zt4 {p:Prop} (h:p:=by
 unfold GY at h;rcases GV (l:=l) with ⟨hp,hn⟩|⟨n,z,hn,hz,hlt,hp⟩
 ·rw [hp] at h;injection h with h;exact h.symm
 ·rw [hp] at h;cases h
):p:=h
theorem aZ {l:List UInt8} {k:Int} (h:GY l=.error k):k=3:=by
 exact Zt4
def NR (l:List UInt8):PR (List UInt8):=match Dp 16 l with|.error k=>.error k|.ok (x,r)=>if isTerm x=true then .ok (x,r) else .error 3
def oVs (M:Nat) (o:PR (List (List UInt8))):PR (List Int):=match o with|.error k=>.error k|.ok (_,r)=>Bw GY M [] r
def Jm (D M:Nat) (l:List UInt8):PR RC:=match Bw NR D [] l with|.error k=>.error k|.ok (ts,r)=>(match Bw GY M [] r with|.error k=>.error k|.ok (vs,r2)=>.ok (⟨ts,vs⟩,r2))
def Qi (D M:Nat) (l:List UInt8):PR (List RC):=match DD 300 l with|.error k=>.error k|.ok (n,r)=>Bw (Jm D M) n [] r
theorem Af2 {l:List UInt8} {k:Int} (h:NR l=.error k):k≠0:=by
 unfold NR at h;split at h
 ·rename_i h1;injection h with h;subst h;have:=NQ h1;omega
 ·split at h
  ·cases h
  ·injection h with h;omega
theorem Af4 {D M:Nat} {l:List UInt8} {k:Int} (h:Jm D M l=.error k):k≠0:=by
 unfold Jm at h;split at h
 ·rename_i h1;injection h with h;subst h;exact KP (fun l k h=>Af2 h) h1
 ·split at h
  ·rename_i h1;injection h with h;subst h;exact KP (fun l k h=>by have:=aZ h;omega) h1
  ·cases h
theorem pX {D M:Nat} {l:List UInt8} {k:Int} (h:Qi D M l=.error k):k≠0:=by
 unfold Qi at h;split at h
 ·rename_i h1;injection h with h;subst h;have:=EE h1;omega
 ·exact KP (fun l k h=>Af4 h) h
def De (s:SC) (l:List UInt8):List RC × Int:=
 if Ay s≠0 then ([],Ay s) else
 match Qi s.Dx.length s.ms.length l with
 |.error k=>([],k)
 |.ok (rows,r)=>if r=[] then (if CR s rows=0 then (rows,0) else ([],CR s rows)) else ([],3)
theorem pQ (s:Ej) (x:Row Rw) (w:World) (hs:s.rd w) (hx:x.rd w) (hn:s.dm.n≤1000000) (hm:s.ms.n≤1000000) (hd:∀ d ∈ s.dm.l,d.tr.n≤1000000∧∀ t ∈ d.tr.l,t.up.n≤100000):
 Calls prog 6 #[.agg s.cs,.slice x.A x.n x.c] w fun e w'=>e=.returned (.int .i64 (CR s.Ac (x.l.map Rw.Ac)))∧Ai w w':=by
 have HC:=Aa (fun w' (hb:Ai w w')=>GI s w' (hs.mono hb) hn hm (fun d hd'=>(hd d hd').1));have hlen:Hid (x.l.length=x.n):=hx.len;have HX:=Aa hx;have HR:=Aa (fun r w' (hr:Rw.rd w' r) (hb:Ai w w')=>gX s r w' (hs.mono hb) hr hn);have n63:=hx.n63;have H:=Aa ((SL.start No w).alloc s.cs 25);(try simp only [LS] at H);obtain ⟨A,n,c,rows⟩:=x;simp only at *;have hcs:s.cs=#[.slice s.dm.A s.dm.n s.dm.c,.slice s.ms.A s.ms.n s.ms.c]:=rfl;have HCS:=Aa hcs;clear hs hx hd hcs;go_enter func6,ntmps6;rw [←HCS.Ab] at *;go_wp2_with ((with_reducible refine OP 10 ?_);(refine Bf Bb (H.blk 0 rfl) ?_));refine (HC _ H.to).mono ?_;rintro e w1 ⟨rfl,hb1⟩;replace H:=Aa (H.Av hb1);clear hb1 HC;by_cases hE:Ay s.Ac=0
 ·rw [hE];by_cases hl:n≤300
  ·have d1:decide ((300:Int)<n)=false:=by simp<;>omega
   have HB:Hid (CR s.Ac (rows.map Rw.Ac)=JC s.Ac ((rows.map Rw.Ac).drop 0)):=by show _=_;unfold CR;rw [Ak Xl,Ak Zb1];(try rfl)
   have HE:=Aa hE;clear hE;go_wp2_with fail;generalize w.heap.size=x at *;clear d1;go_loopg [20] n (fun gg i wr=>∃ k:Nat,gg=n - k∧k≤n∧i=.int .i64 k∧Hid (SL No w wr [Aw x 25 s.cs])∧Hid (CR s.Ac (rows.map Rw.Ac)=JC s.Ac ((rows.map Rw.Ac).drop k)));case atStart=>exact ⟨0,rfl,Xl,rfl,H,HB⟩
   case round=>
    clear H HB;obtain ⟨k,BR,hk,rfl,H,HB⟩:=hrel;have Cs:=Aa BR;clear BR;by_cases hlt:k<n
    ·obtain ⟨bb,oo,r,hA,hbb,nL,hrr,hrg⟩:=(HX.mono H.to).K8 (k:=k) hlt;simp only at hA;subst hA;have hrc:(rows.map Rw.Ac)[k]?=some r.Ac:=by rw [Ed,nL];(try rfl)
     have Jn:=Aa (Vw (s:=s.Ac) hrc);have nP:=Aa hrg;have HRr:=Aa hrr;clear nL hrr hrg hrc hbb;go_wp2_with (first|((with_reducible refine OP 23 ?_);(refine Af rfl KL (.tmp 22) rfl bb (oo+k * 2) rfl r.cs rfl nP.Ab ?_))|((with_reducible refine OS 7 ?_);(refine DX KL (r.cs) (Ui r) ?_;replace H:=Aa (H.alloc (r.cs) 38);(try simp only [LS] at H)))|((with_reducible refine OP 25 ?_);(refine Bf Bb (H.blk 0 rfl) ?_))|((with_reducible refine OP 26 ?_);(refine Bf KL (H.blk 1 rfl) ?_)));have Yx:=Aa (HR r _ (HRr.mono ((Ai.refl _).alloc (.cells r.cs 38))) H.to);cases ho:rowOf s.Ac r.Ac with
     |error e1=>
      have hE2:=WN ho;have HN:Hid (CR s.Ac (rows.map Rw.Ac)=e1):=by show _=_;rw [HB.Ab,Jn.Ab,ho]
      rw [ho] at Yx;have z1:(e1 !=0)=true:=by simp<;>omega
      have z2:(e1==0)=false:=by simp<;>omega
      clear ho HB Jn hE2;refine Yx.mono ?_;rintro e w2 ⟨rfl,hb2⟩;replace H:=Aa (H.Av hb2);clear hb2;go_wp2;go_ret;rw [HN.Ab];exact ⟨rfl,H.to⟩
     |ok ks=>
      exact Zn8
    ·have HN:Hid (CR s.Ac (rows.map Rw.Ac)=0):=by show _=_;rw [HB.Ab,EN Zb1];(try rfl)
     clear HB;go_wp2;go_ret;rw [HN.Ab];exact ⟨rfl,H.to⟩
  ·have d1:decide ((300:Int)<n)=true:=by simp<;>omega
   have HN:Hid (CR s.Ac (rows.map Rw.Ac)=5):=by show _=_;unfold CR;rw [Ak Xl,Al Zb1]
   clear hE;go_wp2;go_ret;rw [HN.Ab];exact ⟨rfl,H.to⟩
 ·have HN:Hid (CR s.Ac (rows.map Rw.Ac)=Ay s.Ac):=by show _=_;unfold CR;rw [Al hE]
  have z1:(Ay s.Ac !=0)=true:=by simpa using hE
  have z2:(Ay s.Ac==0)=false:=by simpa using hE
  clear hE;go_wp2;go_ret;rw [HN.Ab];exact ⟨rfl,H.to⟩
def OQ {α:Type} (s:List UInt8) (p:List UInt8→PR α) (t k t' k':Int) (x:α):Prop:=(k≠0∧t'=t∧k'=k)∨(k=0∧∃ tn:Nat,t=tn∧tn≤s.length∧El s (p (s.drop tn)) t' k' x)
theorem FH.next {α:Type} {s:List UInt8} {o:PR (List α)} {p:List UInt8→PR α} {n k:Nat} {acc:List α} {t kk t' k':Int} {x:α} (h:FH s o p n k acc t kk) (hk:k<n) (hx:OQ s p t kk t' k' x):FH s o p n (k+1) (acc++[x]) t' k':=by
 rcases h with ⟨h1,h2⟩|⟨h1,tn,h3,h4,h2⟩
 ·rcases hx with ⟨_,rfl,rfl⟩|⟨h,_⟩
  ·exact .inl ⟨h1,h2⟩
  ·exact absurd h h1
 ·rcases hx with ⟨h,_⟩|⟨_,tm,h5,h6,h7⟩
  ·exact absurd h1 h
  ·have:tm=tn:=by omega
   subst this;exact FH.step hk h2 h7
theorem FH.st {α:Type} {s:List UInt8} {o:PR (List α)} {p:List UInt8→PR α} {n k:Nat} {acc:List α} {t kk:Int} (h:FH s o p n k acc t kk):kk≠0∨(kk=0∧∃ tn:Nat,t=tn∧tn≤s.length):=by
 rcases h with ⟨h1,h2⟩|⟨h1,tn,h3,h4,h2⟩
 ·exact .inl h1
 ·exact .inr ⟨h1,tn,h3,h4⟩
theorem OQ.trm {s:List UInt8} {t k t' k':Int} {x:List UInt8} (h:OQ s (Dp 16) t k t' k' x):OQ s NR t k t' (Kg k' (isTerm x) 3) x:=by
 rcases h with ⟨h1,h2,rfl⟩|⟨h1,tn,h3,h4,h⟩
 ·exact .inl ⟨h1,h2,by unfold Kg;rw [Al h1]⟩
 ·refine .inr ⟨h1,tn,h3,h4,?_⟩;unfold NR Kg;rcases h with ⟨h5,h6⟩|⟨rfl,tm,h6,h7,h8⟩
  ·rw [Al h5,h6];exact .inl ⟨h5,rfl⟩
  ·rw [Ak Xl,h8];cases hT:isTerm x with
   |true=>exact .inr ⟨rfl,tm,h6,h7,by simp only [hT,Gu]⟩
   |false=>exact .inl ⟨Za1,by simp only [hT];(try rfl)⟩
theorem Uk (s:List UInt8) (t k:Int) (most:Int) (hst:k≠0∨(k=0∧∃ tn:Nat,t=tn∧tn≤s.length)) (hs:s.length≤140737488351232) (h0:0≤most) (h1:most≤9223372036854775807) (w:World):
 Calls prog 112 #[Iz s t k,.int .i64 most] w fun e w'=>∃ (t' k':Int) (x:List UInt8),e=.returned (.tuple #[Iz s t' k',.string ⟨x.toArray⟩])∧Ai w w'∧(x.length:Int)≤most∧Hid (OQ s (Dp most) t k t' k' x):=by
 rcases hst with hk|⟨rfl,tn,rfl,htn⟩
 ·refine (gU s t k most hk w).mono ?_;rintro e w' ⟨rfl,hb⟩;exact ⟨t,k,[],rfl,hb,by simpa using h0,.inl ⟨hk,rfl,rfl⟩⟩
 ·refine (NN s tn most hs htn h0 h1 w).mono ?_;rintro e w' ⟨t',k',x,rfl,hb,hx,hR⟩;exact ⟨t',k',x,rfl,hb,hx,.inr ⟨rfl,tn,rfl,htn,hR.Ab⟩⟩
theorem O0 (s:List UInt8) (t k:Int) (hst:k≠0∨(k=0∧∃ tn:Nat,t=tn∧tn≤s.length)) (hs:s.length≤140737488351232) (w:World):
 Calls prog 114 #[Iz s t k] w fun e w'=>∃ (t' k' x:Int),e=.returned (.tuple #[Iz s t' k',.int .i64 x])∧Ai w w'∧AZ x∧Hid (OQ s GY t k t' k' x):=by
 rcases hst with hk|⟨rfl,tn,rfl,htn⟩
 ·refine (Ae7 s t k hk w).mono ?_;rintro e w' ⟨rfl,hb⟩;exact ⟨t,k,0,rfl,hb,by unfold AZ;omega,.inl ⟨hk,rfl,rfl⟩⟩
 ·refine (Ae8 s tn hs htn w).mono ?_;rintro e w' ⟨hb,hm⟩;cases ho:GY (s.drop tn) with
  |error k=>
   rw [ho] at hm;obtain ⟨t,rfl⟩:=hm;exact ⟨t,k,0,rfl,hb,by unfold AZ;omega,.inr ⟨rfl,tn,rfl,htn,.inl ⟨by have:=aZ ho;omega,ho⟩⟩⟩
  |ok q=>
   obtain ⟨x,l⟩:=q;rw [ho] at hm;obtain ⟨t,ht,hl,rfl⟩:=hm;exact ⟨t,0,x,rfl,hb,(XT ho).2,.inr ⟨rfl,tn,rfl,htn,.inr ⟨rfl,t,rfl,ht,by rw [ho,hl]⟩⟩⟩
theorem FH.As0 {s:List UInt8} {t k:Int} {n D M:Nat} {l:List UInt8} (h:El s (DD 300 l) t k n):FH s (Qi D M l) (Jm D M) n 0 [] t k:=by
 rcases h with ⟨h1,h2⟩|⟨h1,tn,h3,h4,h2⟩
 ·exact .inl ⟨h1,by unfold Qi;rw [h2]⟩
 ·exact .inr ⟨h1,tn,h3,h4,by unfold Qi;rw [h2];(try rfl)⟩
theorem FH.As1 {s:List UInt8} {t k:Int} {M:Nat} {o:PR (List (List UInt8))} {ts:List (List UInt8)} (h:El s o t k ts):FH s (oVs M o) GY M 0 [] t k:=by
 rcases h with ⟨h1,h2⟩|⟨h1,tn,h3,h4,h2⟩
 ·exact .inl ⟨h1,by unfold oVs;rw [h2]⟩
 ·exact .inr ⟨h1,tn,h3,h4,by unfold oVs;rw [h2];(try rfl)⟩
theorem El.Jm {s:List UInt8} {D M:Nat} {l:List UInt8} {t1 k1 t2 k2:Int} {ts:List (List UInt8)} {vs:List Int} (h1:El s (Bw NR D [] l) t1 k1 ts) (h2:El s (oVs M (Bw NR D [] l)) t2 k2 vs):El s (Jm D M l) t2 k2 ⟨ts,vs⟩:=by
 unfold oVs at h2;unfold Go.Proofs.YtijplolmkcdflaaGreat.Jm;cases ho:Bw NR D [] l with
 |error e=>
  rw [ho] at h2;rcases h2 with ⟨a,b⟩|⟨_,_,_,_,b⟩
  ·simp only at b;injection b with b;exact .inl ⟨a,by simp only [b]⟩
  ·cases b
 |ok q=>
  obtain ⟨ts',r⟩:=q;rw [ho] at h1 h2;simp only at h2 ⊢;rcases h1 with ⟨_,b⟩|⟨_,tn,_,_,b⟩
  ·cases b
  ·injection b with b;injection b with b1 b2;subst b1;rcases h2 with ⟨a,b⟩|⟨a,tm,c,d,b⟩
   ·exact .inl ⟨a,by rw [b]⟩
   ·exact .inr ⟨a,tm,c,d,by rw [b]⟩
section
variable {P : Program} {w : World}
theorem Zg8 {p:Prop} (h:p:=by
 have hw:Region.wanted o (yielded ops a.tmps)=true:=by simp [Region.wanted,hgd]
 rw [Al hw];refine Uc ty x y ho g 0 cs' hx hy (hb.there Xl) Ze2 h1 (h _ ?_ (Dy w g _ _));have:=Bh.Ea cs'.toList 0 hb;rwa [Jq cs cs' Xl] at this
):p:=h
theorem Jp {ops:Array Oper} {o:Oper} {a:Act} {K:Act→World→Prop} {Q:Exit→Act→World→Prop} {X:Prop} (hgd:o.guard=none) {ty:TypeId} {n:Nat} (R:Ep P ty n) (x y:Operand) (ho:o.op=.store ty x y)
 (g:Nat) (hx:a.eval x=.pointer (some ⟨g,0,none⟩)) {t:TypeId} {cs:Array Value} (hb:Bh w g t cs) (hn:cs.size=n) (cs':Array Value) (hn':cs'.size=n) (hy:a.eval y=.agg cs') (h1:cs'.all (·.oneCell')=true)
 (h:∀ w',Bh w' g t cs'→w.grownBy w' (some g)→K (a.put o.dst undef) w'):if Region.wanted o (yielded ops a.tmps)=true then Oper.wp P o a w K Q else X:=by
 exact Zg8
end
structure Ak8 (r:Rw) (w:World):Prop where
 ts:w.ownsRow 0 9 1 (.slice r.ts.A r.ts.n r.ts.c) r.ts.n (r.ts.l.map tx)
 tl:∀ t ∈ r.ts.l,t.length≤16
 vs:w.ownsRow 0 2 1 (.slice r.vs.A r.vs.n r.vs.c) r.vs.n (r.vs.l.map (Value.int .i64))
 vl:∀ x ∈ r.vs.l,AZ x
 tn:r.ts.n≤16
 vn:r.vs.n≤3
def Rw.D (r:Rw) (g:Nat):Prop:=r.ts.v.ownBlock=some g∨r.vs.v.ownBlock=some g
abbrev Wq (r:Rw):FM:=⟨r.D,Ak8 r⟩
theorem Ak8.rd {r:Rw} {w:World} (h:Ak8 r w):Rw.rd w r:=
 ⟨⟨by have:=Rd.BC h.ts;rw [IQ];exact this,fun t ht=>by have:=h.tl t ht;show t.length≤_;omega,by have:=h.tn;omega⟩,⟨by have:=Rd.BC h.vs;rw [Gz];exact this,fun t ht=>h.vl t ht,by have:=h.vn;omega⟩⟩
theorem rE {A B:Option Addr} {n c m d:Nat} {ts:List (List UInt8)} {vs:List Int} {w:World} (h1:(Ce 9 1 (.slice A n c) n (ts.map tx)).holds w) (h2:(Ce 2 1 (.slice B m d) m (vs.map (Value.int .i64))).holds w) (h3:∀ x ∈ ts,x.length≤16) (h4:∀ x ∈ vs,AZ x) (h5:n≤16) (h6:m≤3):(Wq ⟨⟨A,n,c,ts⟩,⟨B,m,d,vs⟩⟩).holds w:=by
 refine ⟨?_,fun w' hs hk=>⟨h1.2 w' hs fun g hg=>hk g (.inl hg),h3,h2.2 w' hs fun g hg=>hk g (.inr hg),h4,h5,h6⟩⟩;rintro g (hg|hg)
 ·exact h1.1 g hg
 ·exact h2.1 g hg
theorem An8 {l r:List UInt8} {v:Int} (h:GY l=.ok (v,r)):AZ v:=(XT h).2
def Au4 (b:Nat) (s:List UInt8) (o:PR RC) (w:World) (e:Ending) (w':World):Prop:=
 match o with
 |.error k=>Xm b s k w e w'
 |.ok (d,l)=>∃ D:Rw,e=.returned (.agg D.cs)∧D.Ac=d∧w.grownBy w' (some b)∧Ir w' b s l∧UY w w' (Wq D)
theorem Aq1 {D M:Nat} {l:List UInt8} {k:Int} (h:Bw NR D [] l=.error k):Jm D M l=.error k:=by unfold Jm;rw [h]
theorem Av4 {D M:Nat} {l r:List UInt8} {ts:List (List UInt8)} (h:Bw NR D [] l=.ok (ts,r)):Jm D M l=match Bw GY M [] r with|.error k=>.error k|.ok (vs,r2)=>.ok (⟨ts,vs⟩,r2):=by unfold Jm;rw [h]<;>rfl
theorem Zi9 {p:Prop} (h:p:=by
 refine Aj Ad trivial fun hHeld=>?_;clear Ad KK;refine BG KW fun KK Ad=>?_;refine AX rfl (.tmp 32) (.tmp 35) _ rfl Yl 0 (Bj _) _ j _ rfl (H.row 5 rfl) _ 1 1 _ rfl (AV (H.blk 6 rfl) rfl) Za2 Za4 Xl ?_;intro vq wq AJ Aq AQ;replace H:=Aa (H.setRow 5 rfl Aq AJ AQ);(try simp only [LS] at H);clear AJ Aq AQ;obtain ⟨B2,d2,rfl,_⟩:=Ao (H.row 5 rfl);refine Aj Ad trivial fun hHeld=>?_;clear Ad KK;refine BG MI fun KK Ad=>?_;go_simp;refine Aj Ad trivial fun hHeld=>?_;clear Ad KK;refine BG Lj fun KK Ad=>?_;have c1:=(H.blk 3 rfl).Ap 1;have f1:=(H.blk 3 rfl).frozen 1;go_simp;replace H:=Aa (H.setCell 3 rfl 1 (.slice B2 (j+1) d2));(try simp only [LS] at H);clear c1 f1;refine Aj Ad trivial fun hHeld=>?_;clear Ad KK;refine BZ ?_;clear hHeld;replace H:=Aa (H.Fg [0,1,2,3,4,5] Za1 uH);(try simp only [LS] at H);go_wp2_with fail;go_roundg (m - (j+1));case rel=>exact ⟨j+1,vs++[v],B2,d2,l3,rfl,Xl,by go_num,by show _=_;rw [Cn,hmc.Ab];(try rfl),HVL2,by rw [Cf];exact H,HN⟩
 case measure=>rw [Lt.Ab];omega
):p:=h
theorem Zp5 {p:Prop} (h:p:=by go_simp;refine (HA _ (H.Fv 0 rfl)).mono ?_;rintro e' w3 ⟨rfl,hg3,l3,hr3⟩;replace H:=Aa (H.Cb 0 rfl hg3 hr3);(try simp only [LS] at H);refine ⟨rfl,?_⟩;rw [HE.Ab,show Bw GY m [] l1=.error e1 from HN.Ab];exact ⟨rfl,H.fr.grown,l3,H.Fv 0 rfl⟩):p:=h
theorem Zp6 {p:Prop} (h:p:=by refine Aj Ad trivial fun hHeld=>?_;clear Ad KK;refine BG LJ fun KK Ad=>?_;refine BP rfl Yl (.tmp 34) rfl (.int .i64 v) rfl #[.int .i64 v] rfl rfl Xl ?_;replace H:=Aa (H.alloc #[.int .i64 v] 2);(try simp only [LS] at H);exact Zi9):p:=h
theorem tV (b:Nat) (s l:List UInt8) (d:Ej) (w:World) (hR:Ir w b s l) (hn:d.dm.n≤16) (hm:d.ms.n≤3):
 Calls prog 95 #[.pointer (some ⟨b,0,none⟩),.agg d.cs] w (Au4 b s (Jm d.dm.n d.ms.n l) w):=by
 have hbw:=hR.lt;have H:=Aa ((((SL.rdr1 w hR).alloc d.cs 25).alloc #[.slice none 0 0,.slice none 0 0] 38).alloc #[.slice none 0 0,.slice none 0 0] 38);(try simp only [LS] at H);clear hR;obtain ⟨⟨DA,n,cn,ds⟩,⟨MB,m,cm,ms⟩⟩:=d;simp only [Ej.cs] at *;replace H:=Aa (H.Dw 9 1);(try simp only [LS] at H);go_enter func95,ntmps95;have c0:=(H.blk 1 rfl).Ap 0;go_wp2_with fail;clear c0;generalize w.heap.size+1+1=y at *;generalize w.heap.size+1=z at *;generalize w.heap.size=x at *;generalize World.alloc (World.alloc _ _) _=w1 at *;have HP:Hid (Bw NR n [] l=Bw NR (n - 0) [] l):=rfl;have nN:Hid (∀ t ∈ ([]:List (List UInt8)),t.length≤16):=by show ∀ t ∈ ([]:List (List UInt8)),_;intro t ht;cases ht
 go_loopg [10] n (fun gg s10 wr=>∃ (k:Nat) (ts:List (List UInt8)) (A:Option Addr) (c:Nat) (l':List UInt8),gg=n - k∧k≤n∧s10=.int .i64 k∧Hid (ts.length=k)∧Hid (∀ t ∈ ts,t.length≤16)∧Hid (SL (One b) w wr [Qh b s l',Aw x 25 #[.slice DA n cn,.slice MB m cm],Aw z 38 #[.slice none 0 0,.slice none 0 0],Aw y 38 #[.slice A k c,.slice none 0 0],Ce 9 1 (.slice A k c) k (ts.map tx)])∧Hid (Bw NR n [] l=Bw NR (n - k) ts l'));case atStart=>exact ⟨0,[],none,0,l,rfl,Xl,rfl,rfl,nN,H,HP⟩
 case round=>
  clear H HP nN;obtain ⟨k,ts,A,c,l',BR,hk,rfl,hac,nN,H,HP⟩:=hrel;have Cs:=Aa BR;clear BR;by_cases hlt:k<n
  ·have HN:=Aa (HP.trans (GX hlt));have HT:=Aa (fun w (hr:Ir w b s l')=>NL b s l' 16 w hr Xl Xl);clear HP;go_wp2_with fail;cases hx:Dp 16 l' with
   |error e1=>
    have HE:Hid (Jm n m l=.error e1):=by
     refine Aq1 ?_;rw [HN.Ab];unfold NR;rw [hx]
    rw [hx] at HT;clear hx HN;exact Zc0
   |ok q=>
    obtain ⟨t,l3⟩:=q;have ht16:=(Mj hx).1;have HC:=Aa (fun w=>JJ t w Xl);cases hT:isTerm t with
    |false=>
     have HE:Hid (Jm n m l=.error 3):=by
      refine Aq1 ?_;rw [HN.Ab];unfold NR;rw [hx];simp only;rw [hT]
      rfl
     rw [hx] at HT;rw [hT,show PD false=2 from rfl] at HC;clear hx HN hT;refine (HT _ (H.Fv 0 rfl)).mono ?_;rintro e w2 ⟨rfl,hg,hr⟩;replace H:=Aa (H.Cb 0 rfl hg hr);(try simp only [LS] at H);clear hg hr;go_wp2_with fail;refine (HC _).mono ?_;rintro e w3 ⟨rfl,rfl⟩;go_wp2_with fail;refine (JB b s l3 3 _ (H.Fv 0 rfl)).mono ?_;rintro e w6 ⟨rfl,rfl⟩;go_wp2_with fail;refine ⟨rfl,?_⟩;rw [HE.Ab];exact ⟨rfl,H.fr.grown,_,H.Fv 0 rfl⟩
    |true=>
     have JS:Hid (Bw NR n [] l=Bw NR (n - (k+1)) (ts++[t]) l3):=by
      show _=_;rw [HN.Ab];unfold NR;rw [hx];simp only;rw [hT]
      rfl
     have HTL2:Hid (∀ y ∈ ts++[t],y.length≤16):=by
      intro y hy;rcases Eb.1 hy with hy|hy
      ·exact nN y hy
      ·rw [Ee] at hy;subst hy;omega
     rw [hx] at HT;rw [hT,show PD true=0 from rfl] at HC;clear hx HN hT nN;refine (HT _ (H.Fv 0 rfl)).mono ?_;rintro e w2 ⟨rfl,hg,hr⟩;replace H:=Aa (H.Cb 0 rfl hg hr);(try simp only [LS] at H);clear hg hr;go_wp2_with fail;refine (HC _).mono ?_;rintro e w3 ⟨rfl,rfl⟩;go_wp2_with fail;refine (Mq b s l3 3 _ (H.Fv 0 rfl)).mono ?_;rintro e w6 ⟨rfl,rfl⟩;have c1:=(H.blk 3 rfl).Ap 0;go_wp2_with ((with_reducible refine OP 23 ?_);(replace H:=Aa (H.alloc #[.string ⟨t.toArray⟩] 9);(try simp only [LS] at H);refine Az rfl (.tmp 20) (.tmp 22) _ rfl FB 0 (Bj _) _ k _ rfl (H.row 4 rfl) _ 1 1 [.string ⟨t.toArray⟩] rfl (AV (H.blk 5 rfl) rfl) Za2 Za4 Xl ?_;intro vq wq AJ Aq AQ;replace H:=Aa (H.setRow 4 rfl Aq AJ AQ);(try simp only [LS] at H);clear AJ Aq AQ;obtain ⟨A2,c2,rfl,_⟩:=Ao (H.row 4 rfl);clear c1;have c1:=(H.blk 3 rfl).Ap 0;have f1:=(H.blk 3 rfl).frozen 0));replace H:=Aa (H.setCell 3 rfl 0 (.slice A2 (k+1) c2));(try simp only [LS] at H);replace H:=Aa (H.Fg [0,1,2,3,4] Za1 uH);(try simp only [LS] at H);clear c1 f1;go_wp2_with fail;go_roundg (n - (k+1));case rel=>exact ⟨k+1,ts++[t],A2,c2,l3,rfl,Xl,by go_num,by show _=_;rw [Cn,hac.Ab];(try rfl),HTL2,by rw [Cf];exact H,JS⟩
     case measure=>rw [Cs.Ab];omega
  ·obtain rfl:k=n:=by omega
   have HE:Hid (Jm k m l=match Bw GY m [] l' with|.error k=>.error k|.ok (vs,r2)=>.ok (⟨ts,vs⟩,r2)):=Av4 (by rw [HP.Ab,PU];(try rfl));clear HP;replace H:=Aa (H.Dw 2 1);(try simp only [LS] at H);have c6:=(H.blk 1 rfl).Ap 1;go_wp2_with fail;clear c6;obtain ⟨l1,hl1⟩:∃ l1,l1=l':=⟨_,rfl⟩;rw [←hl1] at HE H;have HP:Hid (Bw GY m [] l1=Bw GY (m - 0) [] l1):=rfl;have HVL:Hid (∀ t ∈ ([]:List Int),AZ t):=by show ∀ t ∈ ([]:List Int),_;intro t ht;cases ht
   clear hl1;go_loopg [29] m (fun gg s29 wr=>∃ (j:Nat) (vs:List Int) (B:Option Addr) (e:Nat) (l':List UInt8),gg=m - j∧j≤m∧s29=.int .i64 j∧Hid (vs.length=j)∧Hid (∀ t ∈ vs,AZ t)∧Hid (SL (One b) w wr [Qh b s l',Aw x 25 #[.slice DA k cn,.slice MB m cm],Aw z 38 #[.slice none 0 0,.slice none 0 0],Aw y 38 #[.slice A k c,.slice B j e],Ce 9 1 (.slice A k c) k (ts.map tx),Ce 2 1 (.slice B j e) j (vs.map (Value.int .i64))])∧Hid (Bw GY m [] l1=Bw GY (m - j) vs l'));case atStart=>exact ⟨0,[],none,0,l1,rfl,Xl,rfl,rfl,HVL,H,HP⟩
   case round=>
    clear H HP HVL;obtain ⟨j,vs,B,e,l',hgj,hj,rfl,hmc,HVL,H,HP⟩:=hrel;have Lt:=Aa hgj;clear hgj;by_cases hlt2:j<m
    ·have HN:=Aa (HP.trans (GX hlt2));have HA:=Aa (fun w (hr:Ir w b s l')=>Qn b s l' w hr);clear HP;go_upto_region 10 with fail;cases hx:GY l' with
     |error e1=>
      rw [hx] at HA HN;clear hx;refine Eo (S:=fun _=>True) Za0 trivial fun hHeld=>?_;replace H:=Aa (H.drew);refine Bd Ml ?_;refine Bd MN ?_;refine Oh KF Ky (fun KK Ad=>?_) fun KK Ad=>?_
      ·have c1:=(H.blk 3 rfl).Ap 1;go_simp;clear c1;refine Aj Ad trivial fun hHeld=>?_;clear Ad KK;refine BG Ky fun KK Ad=>?_;exact Zp5
      ·exact Zp5
     |ok q=>
      obtain ⟨v,l3⟩:=q;have hv:=An8 hx;have HVL2:Hid (∀ y ∈ vs++[v],AZ y):=by
       intro y hy;rcases Eb.1 hy with hy|hy
       ·exact HVL y hy
       ·rw [Ee] at hy;subst hy;exact hv
      rw [hx] at HA HN;have HN:Hid (Bw GY m [] l1=Bw GY (m - (j+1)) (vs++[v]) l3):=HN.Ab;clear hx hv;refine Eo (S:=fun _=>True) Za0 trivial fun hHeld=>?_;replace H:=Aa (H.drew);refine Bd Ml ?_;refine Bd MN ?_;refine Oh KF Ky (fun KK Ad=>?_) fun KK Ad=>?_
      ·have c1:=(H.blk 3 rfl).Ap 1;go_simp;clear c1;refine Aj Ad trivial fun hHeld=>?_;clear Ad KK;refine BG Ky fun KK Ad=>?_;go_simp;refine (HA _ (H.Fv 0 rfl)).mono ?_;rintro e' w3 ⟨rfl,hg3,hr3⟩;replace H:=Aa (H.Cb 0 rfl hg3 hr3);(try simp only [LS] at H);clear hg3 hr3;exact Zp6
      ·go_simp;refine (HA _ (H.Fv 0 rfl)).mono ?_;rintro e' w3 ⟨rfl,hg3,hr3⟩;replace H:=Aa (H.Cb 0 rfl hg3 hr3);(try simp only [LS] at H);clear hg3 hr3;refine Aj Ad trivial fun hHeld=>?_;clear Ad KK;refine Oh KF LJ (fun KK Ad=>?_) fun KK Ad=>?_
       ·have c1:=(H.blk 3 rfl).Ap 1;go_simp;clear c1;exact Zp6
       ·refine BP rfl Yl (.tmp 34) rfl (.int .i64 v) rfl #[.int .i64 v] rfl rfl Xl ?_;replace H:=Aa (H.alloc #[.int .i64 v] 2);(try simp only [LS] at H);refine Aj Ad trivial fun hHeld=>?_;clear Ad KK;refine BG KF fun KK Ad=>?_;have c1:=(H.blk 3 rfl).Ap 1;go_simp;clear c1;exact Zi9
    ·have HN:Hid (Jm k m l=.ok (⟨ts,vs⟩,l')):=by show _=_;rw [HE.Ab,HP.Ab,show m - j=0 by omega];(try rfl)
     clear HP HE;replace H:=Aa (H.both 4 5 Xl rfl rfl (Wq ⟨⟨A,k,c,ts⟩,⟨B,j,e,vs⟩⟩) (rE (H.get 4 rfl) (H.get 5 rfl) nN HVL hn Xl) (fun g hg=>hg));(try simp only [LS] at H);obtain ⟨D,hD⟩:∃ D:Rw,D=⟨⟨A,k,c,ts⟩,⟨B,j,e,vs⟩⟩:=⟨_,rfl⟩;have hDs:D.cs=#[.slice A k c,.slice B j e]:=by rw [hD]
     have EW:D.Ac=⟨ts,vs⟩:=by rw [hD]
     rw [←hD,←hDs] at H;rw [←EW] at HN;clear hD hDs EW;go_wp2_with (first|((with_reducible refine OP 39 ?_);(refine Bf KL (H.blk 3 rfl) ?_))|((with_reducible refine OS 4 ?_);(refine Cj KL H 2 rfl (D.cs) (Ui D) ?_;clear H;intro wq H;(try simp only [LS] at H))));refine Bc (AO rfl KL rfl (H.blk 2 rfl) rfl) rfl ?_;rw [HN.Ab];exact ⟨D,rfl,rfl,H.fr.grown,H.Fv 0 rfl,H.get 4 rfl,H.VG 4 0 Xl rfl rfl rfl⟩
theorem YE (D:Rw):∀ u ∈ ([.slice D.ts.A D.ts.n D.ts.c,.slice D.vs.A D.vs.n D.vs.c]:List Value),u.oneCell'=true:=by simp [Value.oneCell']
def Rbat (w0:World) (s:List UInt8) (B g z:Nat) (d:Ej) (o:PR (List RC)) (k:Int) (w':World):Prop:=
 k=cZ o∧∃ (X:Row Rw) (q:List UInt8),SL No w0 w' (Kl B s q [Aw g 26 #[.slice X.A X.n X.c],Ce 38 2 (.slice X.A X.n X.c) X.n (X.l.flatMap AY.cells),BS Wq X.l,Aw z 25 d.cs])∧X.n≤300∧∀ rows r,o=.ok (rows,r)→X.l.map Rw.Ac=rows
theorem Zq7 {p:Prop} (h:p:=by
 go_wp2_with fail;go_roundg (n - (k+1));case rel=>exact ⟨k+1,rows++[D],A2,c2,l3,rfl,Xl,by go_num,by show _=_;rw [Cn,hac.Ab];(try rfl),by rw [EM,Df,Gt,EO];exact H,JS⟩
 case measure=>rw [Cs.Ab];omega
):p:=h
theorem Zi3 {p:Prop} (h:p:=by
 refine Aj Ad trivial fun hHeld=>?_;clear Ad KK;refine BG KW fun KK Ad=>?_;refine AX rfl (.tmp 8) (.tmp 12) _ rfl fU 0 (Bj _) _ k _ rfl (H.row 4 rfl) _ 1 1 _ rfl (Rd.BC (H.row 8 rfl)) (YE D) Za4 Xl ?_;intro vq wq AJ Aq AQ;replace H:=Aa (H.setRow 4 rfl Aq AJ AQ);(try simp only [LS] at H);clear AJ Aq AQ;obtain ⟨A2,c2,rfl,_⟩:=Ao (H.row 4 rfl);refine Aj Ad trivial fun hHeld=>?_;clear Ad KK;refine BG MI fun KK Ad=>?_;have c1:=(H.blk 3 rfl).Ap 0;have f1:=(H.blk 3 rfl).frozen 0;go_simp;replace H:=Aa (H.setCell 3 rfl 0 (.slice A2 (k+1) c2));(try simp only [LS] at H);clear c1 f1;refine Aj Ad trivial fun hHeld=>?_;clear Ad KK;refine BZ ?_;clear hHeld;replace H:=Aa (H.both 5 7 Xl rfl rfl (BS Wq (rows++[D])) (Bl (H.get 5 rfl) (H.get 7 rfl)) Cg);(try simp only [LS] at H);replace H:=Aa (H.Fg [0,1,2,3,4,5,6] Za1 uH);(try simp only [LS] at H);have JS:Hid (Bw (Jm d.dm.n d.ms.n) n [] l1=Bw (Jm d.dm.n d.ms.n) (n - (k+1)) ((rows++[D]).map Rw.Ac) l3):=by show _=_;rw [HN.Ab,Cf,Em,EX,OU.Ab]
 exact Zq7
):p:=h
theorem Zg5 {p:Prop} (h:p:=by go_simp;refine (HA _ (H.Fv 0 rfl)).mono ?_;rintro e' w3 ⟨rfl,hg3,l3,hr3⟩;replace H:=Aa (H.Cb 0 rfl hg3 hr3);(try simp only [LS] at H);refine ⟨rfl,?_⟩;have H9:SL No w0 _ (Kl B s l3 [Aw g 26 #[.slice A k c],Ce 38 2 (.slice A k c) k (rows.flatMap AY.cells),BS Wq rows,Aw z 25 d.cs]):=H.Ab;exact SL.err H9 ⟨by rw [HE.Ab];exact HN.Ab ▸ rfl,⟨A,k,c,rows⟩,l3,H9,by show k≤300;omega,fun _ _ h=>by rw [HE.Ab,HN.Ab] at h;cases h⟩):p:=h
theorem Zp8 {p:Prop} (h:p:=by refine Aj Ad trivial fun hHeld=>?_;clear Ad KK;refine BG LJ fun KK Ad=>?_;refine BU rfl fU (.tmp 11) rfl (D.cs) rfl rfl Xl ?_;replace H:=Aa (H.Co ((Ai.refl _).alloc _) (CE _ 38 (D.cs) _ rfl));(try simp only [LS] at H);exact Zi3):p:=h
theorem Zm2 {p:Prop} (h:p:=by refine Aj Ad trivial fun hHeld=>?_;clear Ad KK;refine BG Ky fun KK Ad=>?_;go_simp;refine (HA _ (H.Fv 0 rfl)).mono ?_;rintro e' w3 ⟨D,rfl,EW,hg3,hr3,hnew⟩;replace H:=Aa (H.Jf 0 rfl hg3 hr3 (Wq D) hnew.1 hnew.2);(try simp only [LS] at H);have OU:=Aa EW;clear hg3 hr3 hnew EW;exact Zp8):p:=h
theorem mQ (w0:World) (B g z:Nat) (s:List UInt8) (d:Ej) (w:World) (hn:d.dm.n≤16) (hm:d.ms.n≤3) (h:SL No w0 w (Kl B s s [Aw g 26 #[.slice none 0 0],Ce 38 2 (.slice none 0 0) 0 (([]:List Rw).flatMap AY.cells),BS Wq ([]:List Rw),Aw z 25 d.cs])):
 Calls prog 93 #[.pointer (some ⟨B+1,0,none⟩),.pointer (some ⟨g,0,none⟩),.pointer (some ⟨z,0,none⟩)] w (Nu B s (Rbat w0 s B g z d (Qi d.dm.n d.ms.n s))):=by
 have HT:=Aa (fun w (hr:Ir w (B+1) s s)=>IM (B+1) s s 300 w hr Xl Xl);have H:Hid (SL No w0 w [Qh (B+1) s s,Aw B 45 #[.int .i64 0],Aw (B+2) 166 #[.pointer (some ⟨B+1,0,none⟩)],Aw g 26 #[.slice none 0 0],Ce 38 2 (.slice none 0 0) 0 (([]:List Rw).flatMap AY.cells),BS Wq ([]:List Rw),Aw z 25 d.cs]):=h;clear h;go_enter func93,ntmps93;go_wp2_with fail;cases hx:DD 300 s with
 |error k=>
  have HE:Hid (Qi d.dm.n d.ms.n s=.error k):=by show _=_;unfold Qi;rw [hx]
  rw [hx] at HT;clear hx;refine (HT _ (H.Fv 0 rfl)).mono ?_;rintro e w2 ⟨rfl,hg,l1,hr⟩;replace H:=Aa (H.Cb 0 rfl hg hr);(try simp only [LS] at H);clear hg hr;go_wp2_with fail;refine ⟨rfl,?_⟩;have H9:SL No w0 _ (Kl B s l1 [Aw g 26 #[.slice none 0 0],Ce 38 2 (.slice none 0 0) 0 (([]:List Rw).flatMap AY.cells),BS Wq ([]:List Rw),Aw z 25 d.cs]):=H.Ab;exact SL.err H9 ⟨by rw [HE.Ab];(try rfl),⟨none,0,0,[]⟩,l1,H9,Bj _,fun _ _ h=>by rw [HE.Ab] at h;cases h⟩
 |ok q=>
  obtain ⟨n,l1⟩:=q;have Ai3:=(ES hx).2.1;have HE:Hid (Qi d.dm.n d.ms.n s=Bw (Jm d.dm.n d.ms.n) n [] l1):=by show _=_;unfold Qi;rw [hx]
  rw [hx] at HT;clear hx;refine (HT _ (H.Fv 0 rfl)).mono ?_;rintro e w2 ⟨rfl,hg,hr⟩;replace H:=Aa (H.Cb 0 rfl hg hr);(try simp only [LS] at H);clear hg hr HT;go_wp2_with fail;have HP:Hid (Bw (Jm d.dm.n d.ms.n) n [] l1=Bw (Jm d.dm.n d.ms.n) (n - 0) (([]:List Rw).map Rw.Ac) l1):=rfl;go_loopg [6] n (fun gg s6 wr=>∃ (k:Nat) (rows:List Rw) (A:Option Addr) (c:Nat) (l':List UInt8),gg=n - k∧k≤n∧s6=.int .i64 k∧Hid (rows.length=k)∧Hid (SL No w0 wr [Qh (B+1) s l',Aw B 45 #[.int .i64 0],Aw (B+2) 166 #[.pointer (some ⟨B+1,0,none⟩)],Aw g 26 #[.slice A k c],Ce 38 2 (.slice A k c) k (rows.flatMap AY.cells),BS Wq rows,Aw z 25 d.cs])∧Hid (Bw (Jm d.dm.n d.ms.n) n [] l1=Bw (Jm d.dm.n d.ms.n) (n - k) (rows.map Rw.Ac) l'));case atStart=>exact ⟨0,[],none,0,l1,rfl,Xl,rfl,rfl,H,HP⟩
  case round=>
   clear H HP;obtain ⟨k,rows,A,c,l',BR,hk,rfl,hac,H,HP⟩:=hrel;have Cs:=Aa BR;have Ar0:k≤300:=by omega
   clear BR;by_cases hlt:k<n
   ·have HN:=Aa (HP.trans (GX hlt));have HA:=Aa (fun w (hr:Ir w (B+1) s l')=>tV (B+1) s l' d w hr hn hm);clear HP;go_upto_region 2 with fail;cases hx:Jm d.dm.n d.ms.n l' with
    |error e1=>
     rw [hx] at HA HN;clear hx;refine Eo (S:=fun _=>True) Za0 trivial fun hHeld=>?_;replace H:=Aa (H.drew);refine Bd KF ?_;refine Oh Ml MN (fun KK Ad=>?_) fun KK Ad=>?_
     ·have c1:=(H.blk 3 rfl).Ap 0;go_simp;clear c1;refine Aj Ad trivial fun hHeld=>?_;clear Ad KK;refine BG MN fun KK Ad=>?_;refine Je rfl Bb (.tmp 2) rfl _ rfl (H.blk 6 rfl) rfl ?_;refine Aj Ad trivial fun hHeld=>?_;clear Ad KK;refine BG Ky fun KK Ad=>?_;exact Zg5
     ·refine Je rfl Bb (.tmp 2) rfl _ rfl (H.blk 6 rfl) rfl ?_;refine Aj Ad trivial fun hHeld=>?_;clear Ad KK;refine Oh Ml Ky (fun KK Ad=>?_) fun KK Ad=>?_
      ·have c1:=(H.blk 3 rfl).Ap 0;go_simp;clear c1;refine Aj Ad trivial fun hHeld=>?_;clear Ad KK;refine BG Ky fun KK Ad=>?_;exact Zg5
      ·exact Zg5
    |ok q=>
     obtain ⟨rc,l3⟩:=q;rw [hx] at HA HN;have HN:Hid (Bw (Jm d.dm.n d.ms.n) n [] l1=Bw (Jm d.dm.n d.ms.n) (n - (k+1)) (rows.map Rw.Ac++[rc]) l3):=HN.Ab;clear hx;refine Eo (S:=fun _=>True) Za0 trivial fun hHeld=>?_;replace H:=Aa (H.drew);refine Bd KF ?_;refine Oh Ml MN (fun KK Ad=>?_) fun KK Ad=>?_
     ·have c1:=(H.blk 3 rfl).Ap 0;go_simp;clear c1;refine Aj Ad trivial fun hHeld=>?_;clear Ad KK;refine BG MN fun KK Ad=>?_;refine Je rfl Bb (.tmp 2) rfl _ rfl (H.blk 6 rfl) rfl ?_;exact Zm2
     ·refine Je rfl Bb (.tmp 2) rfl _ rfl (H.blk 6 rfl) rfl ?_;refine Aj Ad trivial fun hHeld=>?_;clear Ad KK;refine Oh Ml Ky (fun KK Ad=>?_) fun KK Ad=>?_
      ·have c1:=(H.blk 3 rfl).Ap 0;go_simp;clear c1;exact Zm2
      ·go_simp;refine (HA _ (H.Fv 0 rfl)).mono ?_;rintro e' w3 ⟨D,rfl,EW,hg3,hr3,hnew⟩;replace H:=Aa (H.Jf 0 rfl hg3 hr3 (Wq D) hnew.1 hnew.2);(try simp only [LS] at H);have OU:=Aa EW;clear hg3 hr3 hnew EW;refine Aj Ad trivial fun hHeld=>?_;clear Ad KK;refine Oh Ml LJ (fun KK Ad=>?_) fun KK Ad=>?_
       ·have c1:=(H.blk 3 rfl).Ap 0;go_simp;clear c1;exact Zp8
       ·refine BU rfl fU (.tmp 11) rfl (D.cs) rfl rfl Xl ?_;replace H:=Aa (H.Co ((Ai.refl _).alloc _) (CE _ 38 (D.cs) _ rfl));(try simp only [LS] at H);refine Aj Ad trivial fun hHeld=>?_;clear Ad KK;refine BG Ml fun KK Ad=>?_;have c1:=(H.blk 3 rfl).Ap 0;go_simp;clear c1;exact Zi3
   ·have HN:Hid (Qi d.dm.n d.ms.n s=.ok (rows.map Rw.Ac,l')):=by show _=_;rw [HE.Ab,HP.Ab,show n - k=0 by omega];(try rfl)
    clear HP HE;go_wp2_with fail;go_end0;have H9:SL No w0 _ (Kl B s l' [Aw g 26 #[.slice A k c],Ce 38 2 (.slice A k c) k (rows.flatMap AY.cells),BS Wq rows,Aw z 25 d.cs]):=H.Ab;exact SL.ok H9 ⟨by rw [HN.Ab];(try rfl),⟨A,k,c,rows⟩,l',H9,by show k≤300;omega,fun rs r h=>by rw [HN.Ab] at h;injection h with h;injection h with h _⟩
abbrev eY (X:Row Rw):FM:=⟨fun g=>(Ce 38 2 (.slice X.A X.n X.c) X.n (X.l.flatMap AY.cells)).D g∨(BS Wq X.l).D g,fun w=>X.rd w∧X.n≤300⟩
theorem WY {X:Row Rw} {w:World} (h1:(Ce 38 2 (.slice X.A X.n X.c) X.n (X.l.flatMap AY.cells)).holds w) (h2:(BS Wq X.l).holds w) (h3:X.n≤300):(eY X).holds w:=
 ⟨fun g hg=>hg.elim (h1.1 g) (h2.1 g),fun w' hs hk=>⟨⟨Rd.BC (h1.2 w' hs fun g hg=>hk g (.inl hg)),fun r hr=>(h2.2 w' hs (fun g hg=>hk g (.inr hg)) r hr).rd,Xl⟩,h3⟩⟩
theorem Fw (w:World):(eY ⟨none,0,0,[]⟩).holds w:=WY (Jg (Tw w 0 _ _)) (Dk _ w) (by show 0≤300;omega)
theorem GQ {m:Nat}:∀ g,(eY ⟨none,0,0,[]⟩).D g→m≤g:=by
 rintro g (h|⟨T,hT,_⟩)
 ·simp [Value.ownBlock] at h
 ·cases hT
def Ar6 (r:List RC × Int) (w:World) (e:Ending) (w':World):Prop:=∃ X:Row Rw,e=.returned (.tuple #[.slice X.A X.n X.c,.int .i64 r.2])∧X.l.map Rw.Ac=r.1∧Ai w w'∧UY w w' (eY X)
theorem Zs2 {p:Prop} (h:p:=by refine (HC _ H.to).mono ?_;rintro e w1 ⟨rfl,hb1⟩;replace H:=Aa (H.Av hb1);clear hb1 HC;go_wp2;go_ret2;rw [HT.Ab];exact ⟨⟨none,0,0,[]⟩,rfl,rfl,H.to,Fw _,GQ⟩):p:=h
theorem tT (d:Ej) (s:List UInt8) (w:World) (hd:d.rd w) (hs:s.length≤140737488351232) (hn:d.dm.n≤1000000) (hm:d.ms.n≤1000000) (hdd:∀ x ∈ d.dm.l,x.tr.n≤1000000∧∀ t ∈ x.tr.l,t.up.n≤100000):
 Calls prog 58 #[.agg d.cs,.string ⟨s.toArray⟩] w (Ar6 (De d.Ac s) w):=by
 have hmf:∀ (fn:Fn) (first cap:Array Value) (w:World),(Instr.makeFunc fn first cap).run prog w=.ok (.func fn first cap) w:=fun _ _ _ _=>rfl
 have HC:=Aa (fun w' (hb:Ai w w')=>GJ d w' (hd.mono hb) hn hm hdd);have HBC:=Aa (fun (X:Row Rw) w' (hX:X.rd w') (hb:Ai w w')=>VZ d X w' (hd.mono hb) hX hn hm hdd);have hl1:d.Ac.Dx.length=d.dm.n:=by have:d.dm.l.length=d.dm.n:=hd.dm.len;simpa using this
 have hl2:d.Ac.ms.length=d.ms.n:=by have:d.ms.l.length=d.ms.n:=hd.ms.len;simpa using this
 have H:=Aa ((SL.start No w).alloc d.cs 25);(try simp only [LS] at H);have hcs:d.cs=#[.slice d.dm.A d.dm.n d.dm.c,.slice d.ms.A d.ms.n d.ms.c]:=rfl;have HCS:=Aa hcs;clear hcs hd hdd;by_cases hE:Ay d.Ac=0
 ·obtain ⟨_,q2,_,_,q5,_⟩:=BH hE;have hn16:d.dm.n≤16:=by omega
  have Y0:d.ms.n≤3:=by omega
  have HT0:Hid (De d.Ac s=match Qi d.dm.n d.ms.n s with
   |.error k=>([],k)
   |.ok (rows,r)=>if r=[] then (if CR d.Ac rows=0 then (rows,0) else ([],CR d.Ac rows)) else ([],3)):=by
   show _=_;unfold De;rw [Ak Xl,hl1,hl2];(try rfl)
  rw [hE] at HC;clear hE q2 q5 hl1 hl2;go_enter func58,ntmps58;rw [←HCS.Ab] at *;go_wp2_with ((with_reducible refine OP 9 ?_);(refine Bf Bb (H.blk 0 rfl) ?_));refine (HC _ H.to).mono ?_;rintro e w1 ⟨rfl,hb1⟩;replace H:=Aa (H.Av hb1);clear hb1 HC;generalize w.heap.size=z at *;go_wp2_with fail;replace H:=Aa (H.alloc #[.slice none 0 0] 26);(try simp only [LS] at H);replace H:=Aa (H.Dw 38 2);(try simp only [LS] at H);replace H:=Aa (H.add (Ai.refl _) (BS Wq []) (Dk _ _) GZ);(try simp only [LS] at H);replace H:=Aa (H.Fg [1,2,3,0] Za1 uH);(try simp only [LS] at H);generalize w1.heap.size=g at *;generalize w1.alloc (.cells #[.slice none 0 0] 26)=W at *;refine (YP 93 #[.pointer (some ⟨g,0,none⟩),.pointer (some ⟨z,0,none⟩)] s W hs (Rbat w s W.heap.size g z d (Qi d.dm.n d.ms.n s)) (mH func93 Za0 Za0) (fun w4 h1 h2 h3 h4 h5=>mQ w W.heap.size g z s d w4 hn16 Y0 (H.begin h1 h3 h4 h5))).mono ?_;rintro e w5 ⟨k,w4,rfl,⟨hk,X,q,hS,Aw0,hD⟩,Gn,_⟩;replace H:=Aa (hS.ended Gn);(try simp only [LS] at H);clear hS Gn;generalize W.heap.size=B at *;cases hT:Qi d.dm.n d.ms.n s with
  |error k'=>
   have HT:Hid (De d.Ac s=([],k')):=by show _=_;rw [HT0.Ab,hT]
   have hk':=pX hT;rw [hT] at hk;have hk2:k=k':=hk;subst hk2;have dk:(k==0)=false:=by simpa using hk'
   have dk2:(k !=0)=true:=by simpa using hk'
   clear hT hk hk' hD HT0;go_wp2;go_ret2;rw [HT.Ab];exact ⟨⟨none,0,0,[]⟩,rfl,rfl,H.to,Fw _,GQ⟩
  |ok q=>
   obtain ⟨rs,l⟩:=q;rw [hT] at hk;obtain rfl:=hD _ _ hT;by_cases hl:l=[]
   ·have HT1:Hid (De d.Ac s=if CR d.Ac (X.l.map Rw.Ac)=0 then (X.l.map Rw.Ac,0) else ([],CR d.Ac (X.l.map Rw.Ac))):=by show _=_;rw [HT0.Ab,hT];simp only;rw [Al hl]
    have hk2:k=0:=by rw [hk];show (if l=[] then (0:Int) else 3)=0;rw [Al hl]
    subst hk2;clear hT hk hl hD HT0;replace H:=Aa (H.both 1 2 Xl rfl rfl (eY X) (WY (H.get 1 rfl) (H.get 2 rfl) Aw0) (fun g hg=>hg));(try simp only [LS] at H);have c0:=(H.blk 0 rfl).Ap 0;go_wp2_with ((with_reducible refine OP 19 ?_);(refine Bf Bb (H.blk 2 rfl) ?_));refine (HBC X _ (H.at_ 1 rfl).1 H.to).mono ?_;rintro e w6 ⟨rfl,hb6⟩;replace H:=Aa (H.Av hb6);clear hb6 HBC c0;by_cases hE2:CR d.Ac (X.l.map Rw.Ac)=0
    ·have HT:Hid (De d.Ac s=(X.l.map Rw.Ac,0)):=by show _=_;rw [HT1.Ab,Al hE2]
     rw [hE2];clear hE2 HT1;have c0:=(H.blk 0 rfl).Ap 0;go_wp2;go_ret2;rw [HT.Ab];exact ⟨X,rfl,rfl,H.to,H.get 1 rfl,H.new 1 rfl⟩
    ·have HT:Hid (De d.Ac s=([],CR d.Ac (X.l.map Rw.Ac))):=by show _=_;rw [HT1.Ab,Ak hE2]
     have dk:(CR d.Ac (X.l.map Rw.Ac)==0)=false:=by simpa using hE2
     have dk2:(CR d.Ac (X.l.map Rw.Ac) !=0)=true:=by simpa using hE2
     clear hE2 HT1;go_wp2;go_ret2;rw [HT.Ab];exact ⟨⟨none,0,0,[]⟩,rfl,rfl,H.to,Fw _,GQ⟩
   ·have HT:Hid (De d.Ac s=([],3)):=by show _=_;rw [HT0.Ab,hT];simp only;rw [Ak hl]
    have hk2:k=3:=by rw [hk];show (if l=[] then (0:Int) else 3)=3;rw [Ak hl]
    subst hk2;clear hT hk hl hD HT0;go_wp2;go_ret2;rw [HT.Ab];exact ⟨⟨none,0,0,[]⟩,rfl,rfl,H.to,Fw _,GQ⟩
 ·have HT:Hid (De d.Ac s=([],Ay d.Ac)):=by show _=_;unfold De;rw [Al hE]
  have dE:(Ay d.Ac==0)=false:=by simpa using hE
  have dE2:(Ay d.Ac !=0)=true:=by simpa using hE
  clear hE;go_enter func58,ntmps58;rw [←HCS.Ab] at *;go_wp2_with ((with_reducible refine OP 9 ?_);(refine Bf Bb (H.blk 0 rfl) ?_));exact Zs2
abbrev Gw {α:Type} (r:α→FM) (l:List α):FM:=⟨fun g=>∃ a,a ∈ l∧(r a).D g,fun w=>(∀ a ∈ l,(r a).holds w)∧l.Pairwise (fun a b=>∀ g,(r a).D g→¬ (r b).D g)⟩
theorem Jb {α:Type} (r:α→FM) (w:World):(Gw r []).holds w:=⟨fun g ⟨a,ha,_⟩=>(by cases ha),fun w' _ _=>⟨(fun a ha=>by cases ha),List.Pairwise.nil⟩⟩
theorem ME {α:Type} {r:α→FM} {P:Nat→Prop}:∀ g,(Gw r []).D g→P g:=fun g ⟨a,ha,_⟩=>by cases ha
section
variable {α : Type} {r : α → FM} {S : Nat → Prop} {w0 w w' : World} {l : List FM}
theorem SL.oD (h:SL S w0 w l) (i j:Nat) {bs:List α} {a:α} (hij:i≠j) (hi:l[i]?=some (Gw r bs)) (hj:l[j]?=some (r a)):SL S w0 w ((l.set i (Gw r (bs++[a]))).eraseIdx j):=by
 have h1:=h.get i hi;have h2:=h.get j hj;refine h.both i j hij hi hj _ ⟨fun g ⟨u,hu,hg⟩=>?_,fun w' hs hk=>⟨fun u hu=>?_,?_⟩⟩ (fun g ⟨u,hu,hg⟩=>?_)
 ·rcases Eb.1 hu with hu|hu
  ·exact h1.1 g ⟨u,hu,hg⟩
  ·rw [Ee] at hu;subst hu;exact h2.1 g hg
 ·rcases Eb.1 hu with hu'|hu'
  ·exact (h1.now.1 u hu').keep hs fun g hg=>hk g ⟨u,hu,hg⟩
  ·rw [Ee] at hu';subst hu';exact h2.keep hs fun g hg=>hk g ⟨u,hu,hg⟩
 ·rw [Ze];refine ⟨h1.now.2,List.pairwise_singleton _ _,fun u hu v hv g hg hg'=>?_⟩;rw [Ee] at hv;subst hv;exact h.YM i j _ _ hij hi hj g ⟨u,hu,hg⟩ hg'
 ·rcases Eb.1 hu with hu|hu
  ·exact .inl ⟨u,hu,hg⟩
  ·rw [Ee] at hu;subst hu;exact .inr hg
theorem SL.join {l':List FM} (h:SL S w0 w l) (h':SL No w w' l'):SL S w0 w' (l++l'):=by
 have hb:=h.Av h'.to;have key:∀ (j:Nat) q,(l++l')[j]?=some q→(l[j]?=some q∧j<l.length)∨(l'[j - l.length]?=some q∧l.length≤j):=by
  intro j q hq;rcases MX j l.length with hj|hj
  ·rw [QH hj] at hq;exact .inl ⟨hq,hj⟩
  ·rw [Rf hj] at hq;exact .inr ⟨hq,hj⟩
 have hlt:∀ (i:Nat) q,l[i]?=some q→∀ g,q.D g→g<w.heap.size:=fun i q hi g hg=>(h.all i q hi).1 g hg
 have hge:∀ (i:Nat) q,l'[i]?=some q→∀ g,q.D g→w.heap.size≤g:=fun i q hi g hg=>(h'.own i q hi g hg).elim (fun h=>h) (fun h=>h.elim)
 refine ⟨hb.fr,fun j q hq=>?_,fun j k q q' hjk hq hq' g hg hg'=>?_,fun j q hq g hg=>?_⟩
 ·rcases key j q hq with ⟨hq1,_⟩|⟨hq1,_⟩
  ·exact hb.all j q hq1
  ·exact h'.all _ q hq1
 ·rcases key j q hq with ⟨hq1,hj⟩|⟨hq1,hj⟩
  ·rcases key k q' hq' with ⟨hq2,hk⟩|⟨hq2,hk⟩
   ·exact h.YM j k q q' hjk hq1 hq2 g hg hg'
   ·have:=hlt j q hq1 g hg;have:=hge _ q' hq2 g hg';omega
  ·rcases key k q' hq' with ⟨hq2,hk⟩|⟨hq2,hk⟩
   ·have:=hlt k q' hq2 g hg';have:=hge _ q hq1 g hg;omega
   ·exact h'.YM (j - l.length) (k - l.length) q q' Xl hq1 hq2 g hg hg'
 ·rcases key j q hq with ⟨hq1,_⟩|⟨hq1,_⟩
  ·exact h.own j q hq1 g hg
  ·exact .inl (IA h.fr.size (hge _ q hq1 g hg))
end
theorem F9:Cy prog 126 36 1 24:=Cy.mk' (z:=.slice none 0 0) underlying126 Za0 rfl Xl
abbrev rIv (x:Row Int):FM:=Ce 2 1 (.slice x.A x.n x.c) x.n (x.l.map (Value.int .i64))
def Ak5 (rows:List Rw) (w:World) (e:Ending) (w':World):Prop:=∃ (A:Option Addr) (c:Nat) (L:List (Row Int)),e=.returned (.slice A rows.length c)∧L.map Row.l=rows.map (fun r=>r.vs.l)∧SL No w w' [Ce 36 1 (.slice A rows.length c) rows.length (L.map Row.v),Gw rIv L]
theorem Av8 (w:World) (t:TypeId) (size:Nat):(w.alloc (.cells #[] t)).ownsRow w.heap.size t size (.slice (some ⟨w.heap.size,0,none⟩) 0 0) 0 []:=World.ownsRow_made w #[] 0 (Ci _) Za4 uH
theorem vI (x:Row Rw) (w:World) (hx:x.rd w) (hn:x.n≤1000000) (hv:∀ r ∈ x.l,r.vs.n≤1000000):
 Calls prog 60 #[.slice x.A x.n x.c] w (Ak5 x.l w):=by
 have hlen:Hid (x.l.length=x.n):=hx.len;have HX:=Aa hx;have HV:=Aa hv;have H:=Aa ((SL.start No w).Dw 36 1);(try simp only [LS] at H);replace H:=Aa (H.add (Ai.refl _) (Gw rIv []) (Jb _ _) ME);(try simp only [LS] at H);obtain ⟨A,n,c,rows⟩:=x;simp only at *;clear hx hv;have HL:Hid (([]:List (Row Int)).map Row.l=(rows.take 0).map (fun r=>r.vs.l)):=rfl;go_enter func60,ntmps60;go_wp2_with fail;go_loopg [3,8] n (fun gg s3 s8 wr=>∃ (k:Nat) (B:Option Addr) (d:Nat) (L:List (Row Int)),gg=n - k∧k≤n∧s8=.int .i64 k∧s3=.slice B k d∧Hid (L.length=k)∧Hid (SL No w wr [Ce 36 1 (.slice B k d) k (L.map Row.v),Gw rIv L])∧Hid (L.map Row.l=(rows.take k).map (fun r=>r.vs.l)));case atStart=>exact ⟨0,none,0,[],rfl,Xl,rfl,rfl,rfl,H,HL⟩
 case round=>
  clear H HL;obtain ⟨k,B,d,L,BR,hk,rfl,rfl,hLk,H,HL⟩:=hrel;have Cs:=Aa BR;clear BR;by_cases hlt:k<n
  ·obtain ⟨bb,oo,r,hA,hbb,nL,hrr,hrg⟩:=(HX.mono H.to).K8 (k:=k) hlt;simp only at hA;subst hA;have hvn:=HV r (CU nL);have Tg:=Aa (DR nL);have nP:=Aa hrg;have HVS:=Aa (fun w' (hb:Ai wr w')=>(hrr.mono hb).vs.ints);have hl4:Hid (r.vs.l.length=r.vs.n):=hrr.vs.len;clear nL hrr hrg hbb;obtain ⟨W0,hW0⟩:∃ W0,W0=wr:=⟨_,rfl⟩;subst hW0;have HB:Hid (Ai W0 W0):=Ai.refl _;go_wp2_with (first|((with_reducible refine OP 11 ?_);(refine Af rfl KL (.tmp 10) rfl bb (oo+k * 2) rfl r.cs rfl nP.Ab ?_))|((with_reducible refine OS 5 ?_);(refine DX KL (r.cs) (Ui r) ?_;replace H:=Aa (H.alloc (r.cs) 38);(try simp only [LS] at H);replace HB:=Aa (HB.alloc (.cells r.cs 38));replace H:=Aa (H.Co ((Ai.refl _).alloc _) (Av8 _ 2 1));(try simp only [LS] at H);replace HB:=Aa (HB.alloc (.cells #[] 2));have c1:=(H.blk 2 rfl).Ap 1))|((with_reducible refine OP 16 ?_);(refine Az rfl (.tmp 13) (.tmp 15) _ rfl Yl 0 (Bj _) _ 0 _ rfl (H.row 3 rfl) r.vs.A r.vs.n r.vs.c _ rfl (HVS _ HB.Ab) (by intro u hu;obtain ⟨z,_,rfl⟩:=Kc.1 hu;rfl) Za4 Xl ?_;intro vq wq AJ Aq AQ;replace H:=Aa (H.setRow 3 rfl Aq AJ AQ);(try simp only [LS] at H);clear AJ Aq AQ;obtain ⟨A2,c2,rfl,_⟩:=Ao (H.row 3 rfl);clear c1;(try simp only [FI,FC] at H)))|((with_reducible refine OP 18 ?_);(replace H:=Aa (H.alloc #[.slice A2 r.vs.n c2] 36);(try simp only [LS] at H);refine Az rfl (.tmp 12) (.tmp 17) _ rfl F9 0 (Bj _) _ k _ rfl (H.row 0 rfl) _ 1 1 _ rfl (AV (H.blk 4 rfl) rfl) Za2 Za4 Xl ?_;intro vq wq AJ Aq AQ;replace H:=Aa (H.setRow 0 rfl Aq AJ AQ);(try simp only [LS] at H);clear AJ Aq AQ;obtain ⟨A9,c9,rfl,_⟩:=Ao (H.row 0 rfl))));replace H:=Aa (H.oD 1 3 (a:=⟨A2,r.vs.n,c2,r.vs.l⟩) Xl rfl rfl);(try simp only [LS] at H);replace H:=Aa (H.Fg [0,1] Za1 uH);(try simp only [LS] at H)
   have HL2:Hid ((L++[Row.mk A2 r.vs.n c2 r.vs.l]).map Row.l=(rows.take (k+1)).map (fun r=>r.vs.l)):=by show _=_;rw [Tg.Ab,Cf,Cf,HL.Ab];(try rfl)
   clear HL HB;go_wp2_with fail;go_roundg (n - (k+1));case rel=>exact ⟨k+1,A9,c9,L++[⟨A2,r.vs.n,c2,r.vs.l⟩],rfl,Xl,by go_num,rfl,by show _=_;rw [Cn,hLk.Ab];(try rfl),by rw [Cf];exact H,HL2⟩
   case measure=>rw [Cs.Ab];omega
  ·obtain rfl:k=n:=by omega
   go_wp2;go_ret;have hl:=hlen.Ab;refine ⟨B,d,L,?_,?_,?_⟩
   ·rw [hl];(try rfl)
   ·rw [HL.Ab,EU Xl]
   ·rw [hl];exact H.Ab
end Go.Proofs.YtijplolmkcdflaaGreat
namespace Go.Proofs.YtijplolmkcdflaaGreat
open Go.RowKit
structure PC where
 f:Int
 t:Int
 lo:List UInt8
 hi:List UInt8
 set:List (List UInt8)
 g:Bool
 Mf:Int
deriving DecidableEq
abbrev PC.nil:PC:=⟨0,0,[],[],[],false,0⟩
def Ju (tr:List (List UInt8)):List (List UInt8)→Int
 |[]=>0
 |s::r=>match posOf s tr with|none=>13|some _=>Ju tr r
def Ib (p:PC):Int:=if 0<p.set.length then 2 else if 16<p.lo.length∨16<p.hi.length then 5 else 0
def FQ (tr:List (List UInt8)) (p:PC):Int:=if p.lo=[]∧p.hi=[] then (if Cr p.set≠0 then Cr p.set else Ju tr p.set) else 2
def BF (d:DC) (p:PC):Int:=
 if p.f=0 then (if p.t=0∧p.lo=[]∧p.hi=[]∧p.set.length=0 then 0 else 2)
 else if p.f=1∨p.f=2 then
  (if 0≤p.t then (match d.Bi[p.t.toNat]? with|none=>2|some tr=>if p.f=1 then Ib p else FQ tr.ts p) else 2)
 else 2
def bQ (d:DC) (k:Int):Bool:=decide (0≤k) && decide (k<(d.Bi.length:Int))
def DL (d:DC) (p:PC):Int:=if BF d p≠0 then BF d p else if (p.g=true∧bQ d p.Mf=false)∨(p.g=false∧p.Mf≠0) then 2 else 0
def Dq:List DC→List PC→Int
 |d::ds,p::ps=>if DL d p≠0 then DL d p else Dq ds ps
 |_,_=>0
def BV (s:SC) (q:List PC):Int:=if Ay s≠0 then Ay s else if q.length≠s.Dx.length then 2 else Dq s.Dx q
def YG (p:PC):List UInt8:=
 Cx p.f.toNat++((if p.f=1 then Cx p.t.toNat++Dc p.lo++Dc p.hi else if p.f=2 then Cx p.t.toNat++LW p.set else [])++Cx (if p.g=true then p.Mf.toNat+1 else 0))
def Au1 (q:List PC):List UInt8:=q.flatMap YG
theorem TK {ds:List DC} {ps:List PC} {k:Nat} {d:DC} {p:PC} (hd:ds[k]?=some d) (hp:ps[k]?=some p):Dq (ds.drop k) (ps.drop k)=if DL d p≠0 then DL d p else Dq (ds.drop (k+1)) (ps.drop (k+1)):=by
 obtain ⟨h1,rfl⟩:=CB.1 hd;obtain ⟨h2,rfl⟩:=CB.1 hp;rw [Eg h1,Eg h2,Dq]
theorem XP {tr ss:List (List UInt8)} {k:Nat} {s:List UInt8} (h:ss[k]?=some s):Ju tr (ss.drop k)=match posOf s tr with|none=>13|some _=>Ju tr (ss.drop (k+1)):=by
 obtain ⟨h1,rfl⟩:=CB.1 h;rw [Eg h1,Ju]
theorem U7 {tr ss:List (List UInt8)} (h:Ju tr ss=0):∀ s ∈ ss,∃ i,posOf s tr=some i:=by
 induction ss with
 |nil=>intro s hs;cases hs
 |cons a r ih=>
  intro s hs;rw [Ju] at h;cases hp:posOf a tr with
  |none=>rw [hp] at h;cases h
  |some i=>
   rw [hp] at h;rcases FJ.1 hs with rfl|hs
   ·exact ⟨i,hp⟩
   ·exact ih h s hs
theorem O8 {s t:List UInt8} {ts:List (List UInt8)}:∀ {i:Nat},posOf s ts=some i→posOf t ts=some i→s=t:=by
 induction ts with
 |nil=>intro i h;cases h
 |cons a r ih=>
  intro i h1 h2;rw [posOf] at h1 h2;by_cases e1:(a==s)=true
  ·rw [Al e1] at h1;by_cases e2:(a==t)=true
   ·rw [Ua] at e1 e2;exact e1.symm.trans e2
   ·rw [Ak e2] at h2;cases hp:posOf t r with
    |none=>rw [hp] at h2;cases h2
    |some j=>
     rw [hp] at h2;simp at h1 h2;omega
  ·rw [Ak e1] at h1;cases hp:posOf s r with
   |none=>rw [hp] at h1;cases h1
   |some j=>
    rw [hp] at h1;by_cases e2:(a==t)=true
    ·rw [Al e2] at h2;simp at h1 h2;omega
    ·rw [Ak e2] at h2;cases hq:posOf t r with
     |none=>rw [hq] at h2;cases h2
     |some k=>
      rw [hq] at h2;simp at h1 h2;have e:j=k:=by omega
      subst e;exact ih hp hq
theorem pG {ts:List (List UInt8)} (h:Nf ts):ts.Nodup:=h.imp (fun {a b} hab e=>by rw [e,RY] at hab;cases hab)
theorem Am5 {tr ss:List (List UInt8)} (h:Cr ss=0) (hm:Ju tr ss=0):ss.length≤tr.length:=by
 have h1:=pG (WO h);have h2:=U7 hm;have h3:(ss.map (fun s=>(posOf s tr).getD 0)).Nodup:=by
  have key:∀ l:List (List UInt8),l.Nodup→(∀ s ∈ l,∃ i,posOf s tr=some i)→(l.map (fun s=>(posOf s tr).getD 0)).Nodup:=by
   intro l;induction l with
   |nil=>intro _ _;exact List.nodup_nil
   |cons a r ih=>
    intro hd hs;rw [WA] at hd;rw [Em,WA];refine ⟨fun hm=>?_,ih hd.2 (fun s h=>hs s (Ii _ h))⟩;obtain ⟨b,hb,he⟩:=Kc.1 hm;obtain ⟨i,hi⟩:=hs a (Gg ..);obtain ⟨j,hj⟩:=hs b (Ii _ hb);rw [hi,hj] at he;have e:j=i:=he;subst e;exact hd.1 (O8 hi hj ▸ hb)
  exact key ss h1 h2
 have h4:=RS (ys:=List.range tr.length) h3 (fun x hx=>by
  obtain ⟨s,hs,rfl⟩:=Kc.1 hx;obtain ⟨i,hi⟩:=h2 s hs;rw [hi];exact PV.2 (VF hi))
 rw [CQ,List.length_range] at h4;exact h4
structure zG (d:DC) (p:PC):Prop where
 f:p.f=0∧p.t=0∧p.lo=[]∧p.hi=[]∧p.set=[]∨(p.f=1∧p.set=[]∧p.lo.length≤16∧p.hi.length≤16∧0≤p.t∧p.t<d.Bi.length)∨(p.f=2∧p.lo=[]∧p.hi=[]∧Cr p.set=0∧0≤p.t∧∃ tr,d.Bi[p.t.toNat]?=some tr∧Ju tr.ts p.set=0)
 b:p.g=true∧0≤p.Mf∧p.Mf<d.Bi.length∨p.g=false∧p.Mf=0
theorem IK {d:DC} {p:PC} (h:DL d p=0):zG d p:=by
 unfold DL at h;split at h
 ·rename_i h1;exact absurd h h1
 ·rename_i h1;have h0:BF d p=0:=by omega
  split at h
  ·cases h
  ·rename_i h2;refine ⟨?_,?_⟩
   ·unfold BF at h0;split at h0
    ·rename_i hf;split at h0
     ·rename_i hg;exact .inl ⟨hf,hg.1,hg.2.1,hg.2.2.1,List.length_eq_zero_iff.1 hg.2.2.2⟩
     ·cases h0
    ·split at h0
     ·rename_i hf;split at h0
      ·rename_i ht;cases htr:d.Bi[p.t.toNat]? with
       |none=>rw [htr] at h0;cases h0
       |some tr=>
        rw [htr] at h0;simp only at h0;have htl:=(CB.1 htr).1;split at h0
        ·rename_i hf1;unfold Ib at h0;split at h0
         ·cases h0
         ·split at h0
          ·cases h0
          ·rename_i h5 h6;exact .inr (.inl ⟨hf1,List.length_eq_zero_iff.1 Xl,Xl,Xl,ht,Xl⟩)
        ·rename_i hf1;unfold FQ at h0;split at h0
         ·rename_i hl;split at h0
          ·rename_i h5;exact absurd h0 h5
          ·rename_i h5;exact .inr (.inr ⟨Xl,hl.1,hl.2,Xl,ht,tr,rfl,h0⟩)
         ·cases h0
      ·cases h0
     ·cases h0
   ·cases hg:p.g with
    |true=>
     rw [hg] at h2;cases hh:bQ d p.Mf with
     |true=>
      unfold bQ at hh;rw [Vj,Rb,Rb] at hh;exact .inl ⟨rfl,hh.1,hh.2⟩
     |false=>exact absurd (.inl ⟨rfl,hh⟩) h2
    |false=>
     rw [hg] at h2;refine .inr ⟨rfl,?_⟩;refine Decidable.byContradiction fun hc=>h2 (.inr ⟨rfl,hc⟩)
theorem OE {ds:List DC}:∀ {ps:List PC},Dq ds ps=0→ps.length=ds.length→∀ (k:Nat) d p,ds[k]?=some d→ps[k]?=some p→DL d p=0:=by
 induction ds with
 |nil=>intro ps _ _ k d p hd;simp at hd
 |cons d ds ih=>
  intro ps h hl k d' p' hd hp;cases ps with
  |nil=>simp at hl
  |cons p ps=>
   rw [Dq] at h;split at h
   ·rename_i h1;exact absurd h h1
   ·rename_i h1;cases k with
    |zero=>
     simp only [TE,Option.some.injEq] at hd hp;subst hd hp;omega
    |succ k=>
     simp only [FR] at hd hp;exact ih h Zd1 k d' p' hd hp
theorem EB {s:SC} {q:List PC} (h:BV s q=0):Ay s=0∧q.length=s.Dx.length∧Dq s.Dx q=0:=by
 unfold BV at h;split at h
 ·rename_i h1;exact absurd h h1
 ·split at h
  ·cases h
  ·exact ⟨Xl,Xl,h⟩
def VE (f:Nat) (o:PR (Int × List UInt8 × List UInt8 × List (List UInt8))):PR PC:=match o with|.error k=>.error k|.ok ((t,lo,hi,set),r)=>(match DD 4 r with|.error k=>.error k|.ok (b,r2)=>.ok (⟨f,t,lo,hi,set,decide (0<b),(b:Int) - (if 0<b then 1 else 0)⟩,r2))
def zV (l:List UInt8):PR (Int × List UInt8 × List UInt8 × List (List UInt8)):=match DD 3 l with|.error k=>.error k|.ok (t,r)=>(match Dp 16 r with|.error k=>.error k|.ok (lo,r2)=>(match Dp 16 r2 with|.error k=>.error k|.ok (hi,r3)=>.ok ((t,lo,hi,[]),r3)))
def O5 (l:List UInt8):PR (Int × List UInt8 × List UInt8 × List (List UInt8)):=match DD 3 l with|.error k=>.error k|.ok (t,r)=>(match tread 200 r with|.error k=>.error k|.ok (set,r2)=>.ok ((t,[],[],set),r2))
def Dj (l:List UInt8):PR PC:=match DD 2 l with|.error k=>.error k|.ok (f,r)=>VE f (if f=1 then zV r else if f=2 then O5 r else .ok ((0,[],[],[]),r))
def Gx (n:Nat) (l:List UInt8):PR (List PC):=Bw Dj n [] l
def Dv (s:SC) (b:List UInt8):List PC × Int:=
 if Ay s≠0 then ([],Ay s) else
 match Gx s.Dx.length b with
 |.error k=>([],k)
 |.ok (q,r)=>if r≠[] then ([],3) else if BV s q=0 then (q,0) else ([],BV s q)
theorem wV {l r:List UInt8} {p:PC} (h:Dj l=.ok (p,r)):l=YG p++r:=by
 have hA:∀ (f:Nat) (t:Int) (lo hi:List UInt8) (set:List (List UInt8)) (r1:List UInt8),VE f (.ok ((t,lo,hi,set),r1))=.ok (p,r)→p.f=f∧p.t=t∧p.lo=lo∧p.hi=hi∧p.set=set∧r1=Cx (if p.g=true then p.Mf.toNat+1 else 0)++r:=by
  intro f t lo hi set r1 h;unfold VE at h;simp only at h;cases h1:DD 4 r1 with
  |error k=>rw [h1] at h;cases h
  |ok x=>
   obtain ⟨b,r2⟩:=x;rw [h1] at h;injection h with h;injection h with e1 e2;subst e1 e2;refine ⟨rfl,rfl,rfl,rfl,rfl,?_⟩;rw [Fy h1];by_cases hb:0<b
   ·simp only [hb,decide_true,Gu]
    congr 2
    omega
   ·have:b=0:=by omega
    subst this;simp
 unfold Dj at h;cases h1:DD 2 l with
 |error k=>rw [h1] at h;cases h
 |ok x=>
  obtain ⟨f,r0⟩:=x;rw [h1] at h;simp only at h;have hf:=(ES h1).2.1;rw [Fy h1];unfold YG;by_cases f1:f=1
  ·subst f1;rw [Al rfl] at h;unfold zV at h;cases h2:DD 3 r0 with
   |error k=>rw [h2] at h;cases h
   |ok x=>
    obtain ⟨t,r2⟩:=x;rw [h2] at h;simp only at h;cases h3:Dp 16 r2 with
    |error k=>rw [h3] at h;cases h
    |ok x=>
     obtain ⟨lo,r3⟩:=x;rw [h3] at h;simp only at h;cases h4:Dp 16 r3 with
     |error k=>rw [h4] at h;cases h
     |ok x=>
      obtain ⟨hi,r4⟩:=x;rw [h4] at h;simp only at h;obtain ⟨e1,e2,e3,e4,e5,e6⟩:=hA _ _ _ _ _ _ h;rw [e1,e2,e3,e4,Al (by rfl),Fy h2,KN h3,KN h4,e6];simp only [Ef,Db]
  ·rw [Ak f1] at h;by_cases f2:f=2
   ·subst f2;rw [Al rfl] at h;unfold O5 at h;cases h2:DD 3 r0 with
    |error k=>rw [h2] at h;cases h
    |ok x=>
     obtain ⟨t,r2⟩:=x;rw [h2] at h;simp only at h;cases h3:tread 200 r2 with
     |error k=>rw [h3] at h;cases h
     |ok x=>
      obtain ⟨set,r3⟩:=x;rw [h3] at h;simp only at h;obtain ⟨e1,e2,e3,e4,e5,e6⟩:=hA _ _ _ _ _ _ h;rw [e1,e2,e5,Ak Xl,Al (by rfl),Fy h2,(LV h3).2,e6];simp only [Ef,Db]
   ·rw [Ak f2] at h;have f0:f=0:=by omega
    subst f0;obtain ⟨e1,e2,e3,e4,e5,e6⟩:=hA _ _ _ _ _ _ h;rw [e1,Ak Xl,Ak Xl,e6];simp only [Ef,FC,Db]
theorem iG {l:List UInt8} {k:Int} (h:Dj l=.error k):k≠0:=by
 have hA:∀ (f:Nat) (t:Int) (lo hi:List UInt8) (set:List (List UInt8)) (r1:List UInt8),VE f (.ok ((t,lo,hi,set),r1))=.error k→k≠0:=by
  intro f t lo hi set r1 h;unfold VE at h;simp only at h;cases h1:DD 4 r1 with
  |error e=>rw [h1] at h;injection h with h;subst h;have:=EE h1;omega
  |ok x=>rw [h1] at h;cases h
 have hE:∀ (f:Nat) e,VE f (.error e)=.error k→e=k:=by
  intro f e h;unfold VE at h;injection h
 unfold Dj at h;cases h1:DD 2 l with
 |error e=>rw [h1] at h;injection h with h;subst h;have:=EE h1;omega
 |ok x=>
  obtain ⟨f,r0⟩:=x;rw [h1] at h;simp only at h;by_cases f1:f=1
  ·rw [Al f1] at h;unfold zV at h;cases h2:DD 3 r0 with
   |error e=>rw [h2] at h;have:=hE _ _ h;have:=EE h2;omega
   |ok x=>
    obtain ⟨t,r2⟩:=x;rw [h2] at h;simp only at h;cases h3:Dp 16 r2 with
    |error e=>rw [h3] at h;have:=hE _ _ h;have:=NQ h3;omega
    |ok x=>
     obtain ⟨lo,r3⟩:=x;rw [h3] at h;simp only at h;cases h4:Dp 16 r3 with
     |error e=>rw [h4] at h;have:=hE _ _ h;have:=NQ h4;omega
     |ok x=>
      rw [h4] at h;exact hA _ _ _ _ _ _ h
  ·rw [Ak f1] at h;by_cases f2:f=2
   ·rw [Al f2] at h;unfold O5 at h;cases h2:DD 3 r0 with
    |error e=>rw [h2] at h;have:=hE _ _ h;have:=EE h2;omega
    |ok x=>
     obtain ⟨t,r2⟩:=x;rw [h2] at h;simp only at h;cases h3:tread 200 r2 with
     |error e=>rw [h3] at h;have:=hE _ _ h;have:=Sv h3;omega
     |ok x=>
      rw [h3] at h;exact hA _ _ _ _ _ _ h
   ·rw [Ak f2] at h;exact hA _ _ _ _ _ _ h
theorem Wd {s:SC} {b:List UInt8} (h:(Dv s b).2=0):BV s (Dv s b).1=0∧Au1 (Dv s b).1=b:=by
 unfold Dv at h ⊢;by_cases hs:Ay s=0
 ·rw [Ak Xl] at h ⊢;cases h1:Gx s.Dx.length b with
  |error k=>
   rw [h1] at h;simp only at h;exact absurd h (KP (fun l k h=>iG h) h1)
  |ok x=>
   obtain ⟨q,r⟩:=x;rw [h1] at h;simp only at h ⊢;by_cases hr:r=[]
   ·rw [Ak (by simp [hr])] at h ⊢;by_cases he:BV s q=0
    ·rw [Al he];obtain ⟨xs,a1,a2,a3⟩:=Us (put:=YG) (fun l x r h=>wV h) h1;rw [FC] at a1;subst a1;refine ⟨he,?_⟩;rw [a3,hr,EO]
     rfl
    ·rw [Ak he] at h;exact absurd h he
   ·rw [Al hr] at h;cases h
 ·rw [Al hs] at h;exact absurd h hs
end Go.Proofs.YtijplolmkcdflaaGreat
namespace Go.Proofs.YtijplolmkcdflaaGreat
open Tryz
open Go.RowKit Go.ChangeShapes Go.WideShapes Go.Deep
structure Pk where
 f:Int
 t:Int
 lo:List UInt8
 hi:List UInt8
 set:Row (List UInt8)
 g:Bool
 Mf:Int
abbrev Pk.cs (p:Pk):Array Value:=#[.int .i64 p.f,.int .i64 p.t,.string ⟨p.lo.toArray⟩,.string ⟨p.hi.toArray⟩,.slice p.set.A p.set.n p.set.c,.bool p.g,.int .i64 p.Mf]
structure Pk.rd (w:World) (p:Pk):Prop where
 f:AZ p.f
 t:AZ p.t
 lo:p.lo.length≤140737488351232
 hi:p.hi.length≤140737488351232
 set:p.set.rd w
 Mf:AZ p.Mf
theorem Pk.rd.mono {w w':World} {p:Pk} (h:p.rd w) (hb:Ai w w'):p.rd w':=⟨h.f,h.t,h.lo,h.hi,h.set.mono hb,h.Mf⟩
instance Av1:AY Pk where
 size:=7
 bytes:=88
 cells p:=p.cs.toList
 ok w p:=p.rd w
 len _:=rfl
 pos:=by omega
 mono hb h:=h.mono hb
abbrev Pk.Ac (p:Pk):PC:=⟨p.f,p.t,p.lo,p.hi,p.set.l,p.g,p.Mf⟩
theorem OZ (p:Pk):p.cs.all (·.oneCell')=true:=by simp [Value.oneCell']
theorem EC:Ep prog 80 7:=⟨⟨_,underlying80,rfl⟩,by kernel_rfl⟩
theorem QX:Cy prog 27 80 7 88:=Cy.mk' (z:=.agg #[.int .i64 0,.int .i64 0,.string ⟨#[]⟩,.string ⟨#[]⟩,.slice none 0 0,.bool false,.int .i64 0]) underlying27 Za0 rfl Xl
theorem Eu:Ep prog 29 1:=⟨⟨_,underlying29,rfl⟩,by kernel_rfl⟩
structure Qr where
 ps:Row Pk
abbrev Qr.cs (q:Qr):Array Value:=#[.slice q.ps.A q.ps.n q.ps.c]
abbrev Qr.rd (w:World) (q:Qr):Prop:=q.ps.rd w
abbrev Qr.Ac (q:Qr):List PC:=q.ps.l.map Pk.Ac
theorem wS (q:Qr):q.cs.all (·.oneCell')=true:=by simp [Value.oneCell']
theorem Row.rd.P7 {w:World} {x:Row Pk} (h:x.rd w) {k:Nat} (hk:k<x.n):∃ b o t,x.A=some ⟨b,o,none⟩∧b<w.heap.size∧x.l[k]?=some t∧t.rd w∧w.rangeAt b (o+k * 7) t.cs.toList:=by
 obtain ⟨b,o,t,e,hb,ht,hc⟩:=NP h.r hk;exact ⟨b,o,t,e,hb,ht,h.all t (CU ht),hc⟩
end Go.Proofs.YtijplolmkcdflaaGreat
namespace Go.Proofs.YtijplolmkcdflaaGreat
open Tryz
open Go.RowKit
section
variable {P : Program}
theorem Bv {ops:Array Oper} {rest:List Oper} {o:Oper} {a:Act} {w:World} {Q:Exit→Act→World→Prop} (hgd:o.guard=none) {t:TypeId} (x:Operand) {i:Nat} (ho:o.op=.build t #[(i,x)])
 {vx v:Value} (hx:a.eval x=vx) (hr:∀ w,(Instr.build t #[(i,vx)]).run P w=.ok v w)
 (h:wpList P ops Q rest (a.put o.dst v) w):wpList P ops Q (o::rest) a w:=by
 refine Rk hgd fun K hK=>?_;unfold Oper.wp execOp;simp only [ho,QD,Em,EX,hx,KH,hr,LC,LB];exact hK _ _ h
end
structure Al1 (p:Pk) (w:World):Prop where
 f:AZ p.f
 t:AZ p.t
 lo:p.lo.length≤16
 hi:p.hi.length≤16
 set:w.ownsRow 0 9 1 (.slice p.set.A p.set.n p.set.c) p.set.n (p.set.l.map tx)
 sl:∀ x ∈ p.set.l,x.length≤16
 sn:p.set.n≤200
 b:AZ p.Mf
def Pk.D (p:Pk) (g:Nat):Prop:=p.set.v.ownBlock=some g
abbrev Kk (p:Pk):FM:=⟨p.D,Al1 p⟩
theorem Al1.rd {p:Pk} {w:World} (h:Al1 p w):Pk.rd w p:=
 ⟨h.f,h.t,by have:=h.lo;omega,by have:=h.hi;omega,⟨by have:=Rd.BC h.set;rw [IQ];exact this,fun t ht=>by have:=h.sl t ht;show t.length≤_;omega,by have:=h.sn;omega⟩,h.b⟩
theorem Ja {f t b:Int} {lo hi:List UInt8} {A:Option Addr} {n c:Nat} {set:List (List UInt8)} {g:Bool} {w:World} (h1:(Ce 9 1 (.slice A n c) n (set.map tx)).holds w) (hf:AZ f) (ht:AZ t) (hlo:lo.length≤16) (hhi:hi.length≤16) (hs:∀ x ∈ set,x.length≤16) (hn:n≤200) (hb:AZ b):(Kk ⟨f,t,lo,hi,⟨A,n,c,set⟩,g,b⟩).holds w:=
 ⟨fun g hg=>h1.1 g hg,fun w' hs' hk=>⟨hf,ht,hlo,hhi,h1.2 w' hs' fun g hg=>hk g hg,hs,hn,hb⟩⟩
def Au7 (b:Nat) (s:List UInt8) (o:PR PC) (w:World) (e:Ending) (w':World):Prop:=
 match o with
 |.error k=>Xm b s k w e w'
 |.ok (d,l)=>∃ D:Pk,e=.returned (.agg D.cs)∧D.Ac=d∧w.grownBy w' (some b)∧Ir w' b s l∧UY w w' (Kk D)
theorem Zj4 {p:Prop} (h:p:=by clear hD hDs EW Fj VN HO;go_wp2_with (first|((with_reducible refine OP 38 ?_);(refine Bf EC (H.blk 2 rfl) ?_))|((with_reducible refine OS 2 ?_);(refine Cj EC H 1 rfl (D.cs) (OZ D) ?_;clear H;intro wq H;(try simp only [LS] at H))));refine Bc (AO rfl EC rfl (H.blk 1 rfl) rfl) rfl ?_;rw [HN.Ab];exact ⟨D,rfl,rfl,H.fr.grown,H.Fv 0 rfl,H.get 3 rfl,H.VG 3 0 Xl rfl rfl rfl⟩):p:=h
theorem Zh0 {p:Prop} (h:p:=by
 rw [←hDs] at H;have HN:Hid (Dj l=.ok (D.Ac,l9)):=by show _=_;rw [HO.Ab,EW];unfold VE;simp only;rw [VN];simp only;rw [Al Xl,PS Xl];(try rfl)
 exact Zj4
):p:=h
theorem Zh1 {p:Prop} (h:p:=by
 rw [←hDs] at H;have HN:Hid (Dj l=.ok (D.Ac,l9)):=by show _=_;rw [HO.Ab,EW];unfold VE;simp only;rw [VN];(try rfl)
 exact Zj4
):p:=h
theorem Zh4 {p:Prop} (h:p:=by
 have HE:Hid (Dj l=.error e1):=by show _=_;rw [HO.Ab];unfold VE;simp only;rw [VN]
 rw [VN] at HT;clear VN;exact Zc0
):p:=h
theorem Zv6 {p:Prop} (h:p:=by
 have HE:Hid (Dj l=.error e1):=by show _=_;rw [HO0.Ab,HO1.Ab,hx];(try rfl)
 rw [hx] at HT;clear hx;exact Zc0
):p:=h
theorem Zc5 {p:Prop} (h:p:=by rw [hD];exact fun g hg=>hg):p:=h
theorem Zw5 {p:Prop} (h:p:=by rw [Fj];exact Ja (H.get 3 rfl) Za5 Za5 (Bj _) (Bj _) Zc1 (Bj _) Za5):p:=h
theorem Zw6 {p:Prop} (h:p:=by rw [Fj];exact Ja (H.get 3 rfl) Za5 Za5 Xl Xl Zc1 (Bj _) Za5):p:=h
theorem Zw7 {p:Prop} (h:p:=by rw [Fj];exact Ja (H.get 3 rfl) Za5 Za5 (Bj _) (Bj _) HSL hsn Za5):p:=h
theorem wX (b:Nat) (s l:List UInt8) (w:World) (hR:Ir w b s l):
 Calls prog 102 #[.pointer (some ⟨b,0,none⟩)] w (Au7 b s (Dj l) w):=by
 have hbw:=hR.lt;have H:=Aa ((SL.rdr1 w hR).alloc #[.int .i64 0,.int .i64 0,.string ⟨#[]⟩,.string ⟨#[]⟩,.slice none 0 0,.bool false,.int .i64 0] 80);(try simp only [LS] at H);clear hR;go_enter func102,ntmps102;go_wp2_with fail;generalize w.heap.size=y at *;generalize World.alloc _ _=w1 at *;have HT:=Aa (fun w (hr:Ir w b s l)=>IM b s l 2 w hr Xl Xl);cases hx:DD 2 l with
 |error e1=>
  have HE:Hid (Dj l=.error e1):=by show _=_;unfold Dj;rw [hx]
  rw [hx] at HT;clear hx;exact Zc0
 |ok q=>
  obtain ⟨f,r0⟩:=q;have hf2:=(ES hx).2.1;have HP:Hid (Dj l=VE f (if f=1 then zV r0 else if f=2 then O5 r0 else .ok ((0,[],[],[]),r0))):=by show _=_;unfold Dj;rw [hx]
  rw [hx] at HT;refine (HT _ (H.Fv 0 rfl)).mono ?_;rintro e w2 ⟨rfl,hg,hr⟩;replace H:=Aa (H.Cb 0 rfl hg hr);(try simp only [LS] at H);clear hg hr HT hx;go_upto_region 2 with (first|((with_reducible refine OP 7 ?_);refine Bv (vx:=.int .i64 (f:Nat)) (v:=.agg #[.int .i64 (f:Nat),.int .i64 0,.string ⟨#[]⟩,.string ⟨#[]⟩,.slice none 0 0,.bool false,.int .i64 0]) rfl (.tmp 6) rfl rfl (by intro w;kernel_rfl) ?_)|((with_reducible refine OS 3 ?_);(refine DX EC (#[.int .i64 (f:Nat),.int .i64 0,.string ⟨#[]⟩,.string ⟨#[]⟩,.slice none 0 0,.bool false,.int .i64 0]) Za2 ?_;replace H:=Aa (H.alloc (#[.int .i64 (f:Nat),.int .i64 0,.string ⟨#[]⟩,.string ⟨#[]⟩,.slice none 0 0,.bool false,.int .i64 0]) 80);(try simp only [LS] at H))));(try simp only [Act.put,LP]);generalize w2.heap.size=z at *;generalize World.alloc _ _=w2b at *;have hf3:f=0∨f=1∨f=2:=by omega
  generalize hfi:((f:Nat):Int)=fi at H ⊢;rcases hf3 with rfl|rfl|rfl
  ·obtain rfl:fi=0:=by omega
   obtain ⟨r1,hr1⟩:∃ r1,r1=r0:=⟨_,rfl⟩;rw [←hr1] at HP H;clear hr1;have HO:Hid (Dj l=VE 0 (.ok ((0,[],[],[]),r1))):=by show _=_;rw [HP.Ab];(try rfl)
   clear HP;have Gc:=(H.blk 2 rfl).Ap 0;go_wp2_with fail;clear Gc;replace H:=Aa (H.Dw 9 1);(try simp only [LS] at H);have HT:=Aa (fun w (hr:Ir w b s r1)=>IM b s r1 4 w hr Xl Xl);cases VN:DD 4 r1 with
   |error e1=>
    exact Zh4
   |ok q=>
    obtain ⟨bn,l9⟩:=q;have hbn:=(ES VN).2.1;rw [VN] at HT;refine (HT _ (H.Fv 0 rfl)).mono ?_;rintro e w7 ⟨rfl,hg,hr⟩;replace H:=Aa (H.Cb 0 rfl hg hr);(try simp only [LS] at H);clear hg hr HT;by_cases hb0:bn=0
    ·subst hb0;have wz:IntKind.i64.wrap ((0:Int) - 1)=-1:=rfl;have mz:max (-1:Int) 0=0:=rfl;have PI:=(H.blk 2 rfl).Ap 5;have sO:=(H.blk 2 rfl).frozen 5;have fI:=(H.blk 2 rfl).Ap 6;have sN:=(H.blk 2 rfl).frozen 6;go_upto_region 12 with fail;replace H:=Aa (H.setCell 2 rfl 5 (.bool false));(try simp only [LS] at H);replace H:=Aa (H.setCell 2 rfl 6 (.int .i64 0));(try simp only [LS] at H);clear PI fI sO sN;obtain ⟨D,hD⟩:∃ D:Pk,D=⟨0,0,[],[],⟨none,0,0,[]⟩,false,0⟩:=⟨_,rfl⟩;have hDs:D.cs=#[.int .i64 0,.int .i64 0,.string ⟨#[]⟩,.string ⟨#[]⟩,.slice none 0 0,.bool false,.int .i64 0]:=by rw [hD]
     have EW:D.Ac=⟨0,0,[],[],[],false,0⟩:=by rw [hD]
     have Fj:Kk D=Kk ⟨0,0,[],[],⟨none,0,0,[]⟩,false,0⟩:=by rw [hD]
     replace H:=Aa (H.turn 3 rfl (Kk D) Zw5 Zc5);(try simp only [LS] at H);exact Zh1
    ·have d1:decide ((0:Int)<(bn:Int))=true:=by simp<;>omega
     have d2:decide (0<bn)=true:=by simp<;>omega
     have wz:IntKind.i64.wrap ((bn:Int) - 1)=(bn:Int) - 1:=IB _ Xl;have mz:max ((bn:Int) - 1) 0=(bn:Int) - 1:=by omega
     have PI:=(H.blk 2 rfl).Ap 5;have sO:=(H.blk 2 rfl).frozen 5;have fI:=(H.blk 2 rfl).Ap 6;have sN:=(H.blk 2 rfl).frozen 6;go_upto_region 12 with fail;replace H:=Aa (H.setCell 2 rfl 5 (.bool true));(try simp only [LS] at H);replace H:=Aa (H.setCell 2 rfl 6 (.int .i64 ((bn:Int) - 1)));(try simp only [LS] at H);clear PI fI sO sN;obtain ⟨D,hD⟩:∃ D:Pk,D=⟨0,0,[],[],⟨none,0,0,[]⟩,true,((bn:Int) - 1)⟩:=⟨_,rfl⟩;have hDs:D.cs=#[.int .i64 0,.int .i64 0,.string ⟨#[]⟩,.string ⟨#[]⟩,.slice none 0 0,.bool true,.int .i64 ((bn:Int) - 1)]:=by rw [hD]
     have EW:D.Ac=⟨0,0,[],[],[],true,((bn:Int) - 1)⟩:=by rw [hD]
     have Fj:Kk D=Kk ⟨0,0,[],[],⟨none,0,0,[]⟩,true,((bn:Int) - 1)⟩:=by rw [hD]
     replace H:=Aa (H.turn 3 rfl (Kk D) Zw5 Zc5);(try simp only [LS] at H);exact Zh0
  ·obtain rfl:fi=1:=by omega
   have HO0:Hid (Dj l=VE 1 (zV r0)):=by show _=_;rw [HP.Ab];(try rfl)
   clear HP;have Gc:=(H.blk 2 rfl).Ap 0;have Xi:=(H.blk 2 rfl).Ap 1;have fc1:=(H.blk 2 rfl).frozen 1;go_wp2_with fail;have HT:=Aa (fun w (hr:Ir w b s r0)=>IM b s r0 3 w hr Xl Xl);cases hx:DD 3 r0 with
   |error e1=>
    have HE:Hid (Dj l=.error e1):=by show _=_;rw [HO0.Ab];unfold zV;rw [hx];(try rfl)
    rw [hx] at HT;clear hx;exact Zc0
   |ok q=>
    obtain ⟨t,r2⟩:=q;have ht3:=(ES hx).2.1;rw [hx] at HT;have HO1:Hid (zV r0=(match Dp 16 r2 with|.error k=>.error k|.ok (lo,r2)=>(match Dp 16 r2 with|.error k=>.error k|.ok (hi,r3)=>.ok (((t:Int),lo,hi,[]),r3)))):=by show _=_;unfold zV;rw [hx];(try rfl)
    refine (HT _ (H.Fv 0 rfl)).mono ?_;rintro e w2 ⟨rfl,hg,hr⟩;replace H:=Aa (H.Cb 0 rfl hg hr);(try simp only [LS] at H);clear hg hr hx HT Gc Xi fc1;have Xi:=(H.blk 2 rfl).Ap 1;have fc1:=(H.blk 2 rfl).frozen 1;go_wp2_with fail;replace H:=Aa (H.setCell 2 rfl 1 (.int .i64 (t:Nat)));(try simp only [LS] at H);clear Xi fc1;have XZ:=(H.blk 2 rfl).Ap 2;have fc2:=(H.blk 2 rfl).frozen 2;have HT:=Aa (fun w (hr:Ir w b s r2)=>NL b s r2 16 w hr Xl Xl);cases hx:Dp 16 r2 with
    |error e1=>
     exact Zv6
    |ok q=>
     obtain ⟨lo,r3⟩:=q;have hlo:=(Mj hx).1;rw [hx] at HT;have dY:Hid (zV r0=(match Dp 16 r3 with|.error k=>.error k|.ok (hi,r3)=>.ok (((t:Int),lo,hi,[]),r3))):=by show _=_;rw [HO1.Ab,hx];(try rfl)
     refine (HT _ (H.Fv 0 rfl)).mono ?_;rintro e w3 ⟨rfl,hg,hr⟩;replace H:=Aa (H.Cb 0 rfl hg hr);(try simp only [LS] at H);clear hg hr hx HT XZ fc2;have XZ:=(H.blk 2 rfl).Ap 2;have fc2:=(H.blk 2 rfl).frozen 2;go_wp2_with fail;replace H:=Aa (H.setCell 2 rfl 2 (.string ⟨lo.toArray⟩));(try simp only [LS] at H);clear XZ fc2;have cc3:=(H.blk 2 rfl).Ap 3;have fc3:=(H.blk 2 rfl).frozen 3;have HT:=Aa (fun w (hr:Ir w b s r3)=>NL b s r3 16 w hr Xl Xl);cases hx:Dp 16 r3 with
     |error e1=>
      have HE:Hid (Dj l=.error e1):=by show _=_;rw [HO0.Ab,dY.Ab,hx];(try rfl)
      rw [hx] at HT;clear hx;exact Zc0
     |ok q=>
      obtain ⟨hi,r1⟩:=q;have hhi:=(Mj hx).1;rw [hx] at HT;have HO:Hid (Dj l=VE 1 (.ok (((t:Int),lo,hi,[]),r1))):=by show _=_;rw [HO0.Ab,dY.Ab,hx];(try rfl)
      refine (HT _ (H.Fv 0 rfl)).mono ?_;rintro e w4 ⟨rfl,hg,hr⟩;replace H:=Aa (H.Cb 0 rfl hg hr);(try simp only [LS] at H);clear hg hr hx HT cc3 fc3 HO0 HO1 dY;have cc3:=(H.blk 2 rfl).Ap 3;have fc3:=(H.blk 2 rfl).frozen 3;go_wp2_with fail;replace H:=Aa (H.setCell 2 rfl 3 (.string ⟨hi.toArray⟩));(try simp only [LS] at H);clear cc3 fc3;replace H:=Aa (H.Dw 9 1);(try simp only [LS] at H);have HT:=Aa (fun w (hr:Ir w b s r1)=>IM b s r1 4 w hr Xl Xl);cases VN:DD 4 r1 with
      |error e1=>
       exact Zh4
      |ok q=>
       obtain ⟨bn,l9⟩:=q;have hbn:=(ES VN).2.1;rw [VN] at HT;refine (HT _ (H.Fv 0 rfl)).mono ?_;rintro e w7 ⟨rfl,hg,hr⟩;replace H:=Aa (H.Cb 0 rfl hg hr);(try simp only [LS] at H);clear hg hr HT;by_cases hb0:bn=0
       ·subst hb0;have wz:IntKind.i64.wrap ((0:Int) - 1)=-1:=rfl;have mz:max (-1:Int) 0=0:=rfl;have PI:=(H.blk 2 rfl).Ap 5;have sO:=(H.blk 2 rfl).frozen 5;have fI:=(H.blk 2 rfl).Ap 6;have sN:=(H.blk 2 rfl).frozen 6;go_upto_region 12 with fail;replace H:=Aa (H.setCell 2 rfl 5 (.bool false));(try simp only [LS] at H);replace H:=Aa (H.setCell 2 rfl 6 (.int .i64 0));(try simp only [LS] at H);clear PI fI sO sN;obtain ⟨D,hD⟩:∃ D:Pk,D=⟨1,t,lo,hi,⟨none,0,0,[]⟩,false,0⟩:=⟨_,rfl⟩;have hDs:D.cs=#[.int .i64 1,.int .i64 t,.string ⟨lo.toArray⟩,.string ⟨hi.toArray⟩,.slice none 0 0,.bool false,.int .i64 0]:=by rw [hD]
        have EW:D.Ac=⟨1,t,lo,hi,[],false,0⟩:=by rw [hD]
        have Fj:Kk D=Kk ⟨1,t,lo,hi,⟨none,0,0,[]⟩,false,0⟩:=by rw [hD]
        replace H:=Aa (H.turn 3 rfl (Kk D) Zw6 Zc5);(try simp only [LS] at H);exact Zh1
       ·have d1:decide ((0:Int)<(bn:Int))=true:=by simp<;>omega
        have d2:decide (0<bn)=true:=by simp<;>omega
        have wz:IntKind.i64.wrap ((bn:Int) - 1)=(bn:Int) - 1:=IB _ Xl;have mz:max ((bn:Int) - 1) 0=(bn:Int) - 1:=by omega
        have PI:=(H.blk 2 rfl).Ap 5;have sO:=(H.blk 2 rfl).frozen 5;have fI:=(H.blk 2 rfl).Ap 6;have sN:=(H.blk 2 rfl).frozen 6;go_upto_region 12 with fail;replace H:=Aa (H.setCell 2 rfl 5 (.bool true));(try simp only [LS] at H);replace H:=Aa (H.setCell 2 rfl 6 (.int .i64 ((bn:Int) - 1)));(try simp only [LS] at H);clear PI fI sO sN;obtain ⟨D,hD⟩:∃ D:Pk,D=⟨1,t,lo,hi,⟨none,0,0,[]⟩,true,((bn:Int) - 1)⟩:=⟨_,rfl⟩;have hDs:D.cs=#[.int .i64 1,.int .i64 t,.string ⟨lo.toArray⟩,.string ⟨hi.toArray⟩,.slice none 0 0,.bool true,.int .i64 ((bn:Int) - 1)]:=by rw [hD]
        have EW:D.Ac=⟨1,t,lo,hi,[],true,((bn:Int) - 1)⟩:=by rw [hD]
        have Fj:Kk D=Kk ⟨1,t,lo,hi,⟨none,0,0,[]⟩,true,((bn:Int) - 1)⟩:=by rw [hD]
        replace H:=Aa (H.turn 3 rfl (Kk D) Zw6 Zc5);(try simp only [LS] at H);exact Zh0
  ·obtain rfl:fi=2:=by omega
   have HO0:Hid (Dj l=VE 2 (O5 r0)):=by show _=_;rw [HP.Ab];(try rfl)
   clear HP;have Gc:=(H.blk 2 rfl).Ap 0;have Xi:=(H.blk 2 rfl).Ap 1;have fc1:=(H.blk 2 rfl).frozen 1;go_wp2_with fail;have HT:=Aa (fun w (hr:Ir w b s r0)=>IM b s r0 3 w hr Xl Xl);cases hx:DD 3 r0 with
   |error e1=>
    have HE:Hid (Dj l=.error e1):=by show _=_;rw [HO0.Ab];unfold O5;rw [hx];(try rfl)
    rw [hx] at HT;clear hx;exact Zc0
   |ok q=>
    obtain ⟨t,r2⟩:=q;have ht3:=(ES hx).2.1;rw [hx] at HT;have HO1:Hid (O5 r0=(match tread 200 r2 with|.error k=>.error k|.ok (set,r2)=>.ok (((t:Int),[],[],set),r2))):=by show _=_;unfold O5;rw [hx];(try rfl)
    refine (HT _ (H.Fv 0 rfl)).mono ?_;rintro e w2 ⟨rfl,hg,hr⟩;replace H:=Aa (H.Cb 0 rfl hg hr);(try simp only [LS] at H);clear hg hr hx HT Gc Xi fc1;have Xi:=(H.blk 2 rfl).Ap 1;have fc1:=(H.blk 2 rfl).frozen 1;go_wp2_with fail;replace H:=Aa (H.setCell 2 rfl 1 (.int .i64 (t:Nat)));(try simp only [LS] at H);clear Xi fc1;have cc4:=(H.blk 2 rfl).Ap 4;have fc4:=(H.blk 2 rfl).frozen 4;have HT:=Aa (fun w (hr:Ir w b s r2)=>gD b s r2 200 w hr Xl Xl Xl);cases hx:tread 200 r2 with
    |error e1=>
     exact Zv6
    |ok q=>
     obtain ⟨set,r1⟩:=q;have hsn:set.length≤200:=by have:=Su hx;omega
     have HSL:Hid (∀ x ∈ set,x.length≤16):=fun x hx'=>II (LV hx).1 hx'
     have HO:Hid (Dj l=VE 2 (.ok (((t:Int),[],[],set),r1))):=by show _=_;rw [HO0.Ab,HO1.Ab,hx];(try rfl)
     rw [hx] at HT;refine (HT _ (H.Fv 0 rfl)).mono ?_;rintro e w3 ⟨v,rfl,hxx⟩;obtain ⟨SA,SC,rfl,_⟩:=Ao hxx.own;replace H:=Aa (H.Jf 0 rfl hxx.g hxx.r (Ce 9 1 (.slice SA set.length SC) set.length (set.map tx)) (Jg hxx.own) (fun g hg=>Jh hxx.own hg));(try simp only [LS] at H);clear hx hxx HT cc4 fc4 HO0 HO1;have cc4:=(H.blk 2 rfl).Ap 4;have fc4:=(H.blk 2 rfl).frozen 4;go_wp2_with fail;replace H:=Aa (H.setCell 2 rfl 4 (.slice SA set.length SC));(try simp only [LS] at H);clear cc4 fc4;have HT:=Aa (fun w (hr:Ir w b s r1)=>IM b s r1 4 w hr Xl Xl);cases VN:DD 4 r1 with
     |error e1=>
      exact Zh4
     |ok q=>
      obtain ⟨bn,l9⟩:=q;have hbn:=(ES VN).2.1;rw [VN] at HT;refine (HT _ (H.Fv 0 rfl)).mono ?_;rintro e w7 ⟨rfl,hg,hr⟩;replace H:=Aa (H.Cb 0 rfl hg hr);(try simp only [LS] at H);clear hg hr HT;by_cases hb0:bn=0
      ·subst hb0;have wz:IntKind.i64.wrap ((0:Int) - 1)=-1:=rfl;have mz:max (-1:Int) 0=0:=rfl;have PI:=(H.blk 2 rfl).Ap 5;have sO:=(H.blk 2 rfl).frozen 5;have fI:=(H.blk 2 rfl).Ap 6;have sN:=(H.blk 2 rfl).frozen 6;go_upto_region 12 with fail;replace H:=Aa (H.setCell 2 rfl 5 (.bool false));(try simp only [LS] at H);replace H:=Aa (H.setCell 2 rfl 6 (.int .i64 0));(try simp only [LS] at H);clear PI fI sO sN;obtain ⟨D,hD⟩:∃ D:Pk,D=⟨2,t,[],[],⟨SA,set.length,SC,set⟩,false,0⟩:=⟨_,rfl⟩;have hDs:D.cs=#[.int .i64 2,.int .i64 t,.string ⟨#[]⟩,.string ⟨#[]⟩,.slice SA set.length SC,.bool false,.int .i64 0]:=by rw [hD]
       have EW:D.Ac=⟨2,t,[],[],set,false,0⟩:=by rw [hD]
       have Fj:Kk D=Kk ⟨2,t,[],[],⟨SA,set.length,SC,set⟩,false,0⟩:=by rw [hD]
       replace H:=Aa (H.turn 3 rfl (Kk D) Zw7 Zc5);(try simp only [LS] at H);exact Zh1
      ·have d1:decide ((0:Int)<(bn:Int))=true:=by simp<;>omega
       have d2:decide (0<bn)=true:=by simp<;>omega
       have wz:IntKind.i64.wrap ((bn:Int) - 1)=(bn:Int) - 1:=IB _ Xl;have mz:max ((bn:Int) - 1) 0=(bn:Int) - 1:=by omega
       have PI:=(H.blk 2 rfl).Ap 5;have sO:=(H.blk 2 rfl).frozen 5;have fI:=(H.blk 2 rfl).Ap 6;have sN:=(H.blk 2 rfl).frozen 6;go_upto_region 12 with fail;replace H:=Aa (H.setCell 2 rfl 5 (.bool true));(try simp only [LS] at H);replace H:=Aa (H.setCell 2 rfl 6 (.int .i64 ((bn:Int) - 1)));(try simp only [LS] at H);clear PI fI sO sN;obtain ⟨D,hD⟩:∃ D:Pk,D=⟨2,t,[],[],⟨SA,set.length,SC,set⟩,true,((bn:Int) - 1)⟩:=⟨_,rfl⟩;have hDs:D.cs=#[.int .i64 2,.int .i64 t,.string ⟨#[]⟩,.string ⟨#[]⟩,.slice SA set.length SC,.bool true,.int .i64 ((bn:Int) - 1)]:=by rw [hD]
       have EW:D.Ac=⟨2,t,[],[],set,true,((bn:Int) - 1)⟩:=by rw [hD]
       have Fj:Kk D=Kk ⟨2,t,[],[],⟨SA,set.length,SC,set⟩,true,((bn:Int) - 1)⟩:=by rw [hD]
       replace H:=Aa (H.turn 3 rfl (Kk D) Zw7 Zc5);(try simp only [LS] at H);exact Zh0
end Go.Proofs.YtijplolmkcdflaaGreat
