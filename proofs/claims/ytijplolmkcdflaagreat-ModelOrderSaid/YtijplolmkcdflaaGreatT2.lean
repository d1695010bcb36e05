/- What follows was written short by a program: the walks that lead to YtijplolmkcdflaaGreatModelOrder. -/
import Derived.ChangeKeysEq
import Derived.StillTailTactics
import Derived.Test.YtijplolmkcdflaaGreatT1
set_option maxHeartbeats 4000000
set_option maxRecDepth 100000
set_option linter.unusedVariables false
set_option linter.unusedSimpArgs false
namespace Go.Proofs.YtijplolmkcdflaaGreat
open Tryz
open Go.RowKit
theorem Oz (a:List UInt8):Op.bytesLess a a=false:=by
 induction a with
 |nil=>rfl
 |cons x r ih=>simp [Op.bytesLess,ih]
theorem Ng {a b c:List UInt8} (h1:Op.bytesLess a b=true) (h2:Op.bytesLess b c=true):Op.bytesLess a c=true:=by
 induction a generalizing b c with
 |nil=>
  cases b with
  |nil=>simp [Op.bytesLess] at h1
  |cons y r=>
   cases c with
   |nil=>simp [Op.bytesLess] at h2
   |cons z s=>rfl
 |cons x r ih=>
  cases b with
  |nil=>simp [Op.bytesLess] at h1
  |cons y s=>
   cases c with
   |nil=>simp [Op.bytesLess] at h2
   |cons z t=>
    simp only [Op.bytesLess,Bool.or_eq_true,Tx,XD,Sm] at h1 h2 ⊢
    rcases h1 with h1|⟨rfl,h1⟩
    ·rcases h2 with h2|⟨rfl,h2⟩
     ·exact .inl (UInt8.lt_trans h1 h2)
     ·exact .inl h1
    ·rcases h2 with h2|⟨rfl,h2⟩
     ·exact .inl h2
     ·exact .inr ⟨rfl,ih h1 h2⟩
def Kn (ts:List (List UInt8)):Prop:=ts.Pairwise (fun a b=>Op.bytesLess a b=true)
theorem jP {ts:List (List UInt8)}:∀ {p:Option (List UInt8)},rowFrom p ts=0→Kn ts∧∀ q,p=some q→∀ t ∈ ts,Op.bytesLess q t=true:=by
 induction ts with
 |nil=>intro p _;exact ⟨List.Pairwise.nil,fun q _ t ht=>by cases ht⟩
 |cons t r ih=>
  intro p h
  rw [rowFrom] at h
  split at h
  ·split at h
   ·cases h
   ·rename_i h1 h2
    obtain ⟨i1,i2⟩:=ih h
    have i3:=i2 t rfl
    refine ⟨List.Pairwise.cons i3 i1,fun q hq u hu=>?_⟩
    subst hq
    have hqt:Op.bytesLess q t=true:=by simpa using h2
    rcases En.1 hu with rfl|hu
    ·exact hqt
    ·exact Ng hqt (i3 u hu)
  ·cases h
theorem SI {ts:List (List UInt8)} (h:BH ts=0):Kn ts:=(jP h).1
theorem Kn.lt {ts:List (List UInt8)} (h:Kn ts) {i j:Nat} {a b:List UInt8} (hij:i<j) (ha:ts[i]?=some a) (hb:ts[j]?=some b):Op.bytesLess a b=true:=by
 obtain ⟨h1,rfl⟩:=Ca.1 ha
 obtain ⟨h2,rfl⟩:=Ca.1 hb
 exact List.pairwise_iff_getElem.1 h i j h1 h2 hij
def posOf (s:List UInt8):List (List UInt8)→Option Nat
 |[]=>none
 |t::r=>if t==s then some 0 else (posOf s r).map (·+1)
theorem VE {s:List UInt8} {ts:List (List UInt8)} (h:∀ (k:Nat) t,ts[k]?=some t→(t==s)=false):posOf s ts=none:=by
 induction ts with
 |nil=>rfl
 |cons t r ih=>
  rw [posOf,h 0 t rfl,ih fun k u hu=>h (k+1) u hu]
  rfl
theorem VD {s:List UInt8} {ts:List (List UInt8)}:∀ {i:Nat} {t:List UInt8},ts[i]?=some t→(t==s)=true→(∀ (k:Nat) u,k<i→ts[k]?=some u→(u==s)=false)→posOf s ts=some i:=by
 induction ts with
 |nil=>intro i t h;simp at h
 |cons a r ih=>
  intro i t h he hn
  cases i with
  |zero=>
   injection h with h
   subst h
   rw [posOf,he]
   rfl
  |succ i=>
   rw [posOf,hn 0 a (by omega) rfl,ih h he fun k u hk hu=>hn (k+1) u (by omega) hu]
   rfl
theorem Ru {s:List UInt8} {ts:List (List UInt8)}:∀ {i:Nat},posOf s ts=some i→i<ts.length:=by
 induction ts with
 |nil=>intro i h;cases h
 |cons a r ih=>
  intro i h
  rw [posOf] at h
  split at h
  ·injection h with h;subst h;simp
  ·cases hp:posOf s r with
   |none=>rw [hp] at h;cases h
   |some j=>rw [hp] at h;simp at h;have:=ih hp;simp;omega
def nR (s:List UInt8) (ts:List (List UInt8)) (k:Nat) (b:Bool):Prop:=k≤ts.length∧(b=true→posOf s ts=some k)∧(b=false→posOf s ts=none)
theorem uU {s t:List UInt8} {ts:List (List UInt8)} {i:Nat} (h1:∀ (m:Nat) u,m<i→ts[m]?=some u→Op.bytesLess u s=true) (ht:ts[i]?=some t) (he:(t==s)=true):nR s ts i true:=by
 refine ⟨Nat.le_of_lt (Ca.1 ht).1,fun _=>VD ht he fun k u hk hu=>?_,fun h=>by cases h⟩
 rw [nT]
 rintro rfl
 have:=h1 k u hk hu
 rw [Oz] at this
 cases this
theorem eQ {s:List UInt8} {ts:List (List UInt8)} {i:Nat} (hr:Kn ts) (hi:i≤ts.length) (h1:∀ (m:Nat) u,m<i→ts[m]?=some u→Op.bytesLess u s=true) (h2:∀ (m:Nat) u,i≤m→ts[m]?=some u→Op.bytesLess u s=false) (h3:∀ u,ts[i]?=some u→(u==s)=false):nR s ts i false:=by
 refine ⟨hi,(fun h=>by cases h),fun _=>VE fun k u hu=>?_⟩
 rcases iI k i with hk|hk|hk
 ·rw [nT]
  rintro rfl
  have:=h1 k u hk hu
  rw [Oz] at this
  cases this
 ·subst hk
  exact h3 u hu
 ·rw [nT]
  rintro rfl
  have hk2:=(Ca.1 hu).1
  have:=hr.lt hk (Ep (by omega:i<ts.length)) hu
  have h4:=h2 i _ (BZ _) (Ep (by omega:i<ts.length))
  rw [this] at h4
  cases h4
theorem F8 (s:List UInt8) (w:World):Calls prog 203 #[.string ⟨s.toArray⟩] w fun e w'=>e=.returned (.bool false)∧w=w':=by
 have h:(s !=s)=false:=by simp
 go_enter func203,ntmps203
 go_wp2
 go_ret
 exact ⟨rfl,rfl⟩
theorem xO (s:List UInt8) (w:World):Calls prog 197 #[.string ⟨s.toArray⟩] w fun e w'=>e=.returned (.bool false)∧w=w':=by
 have h:(s !=s)=false:=by simp
 go_enter func197,ntmps197
 go_wp2
 go_ret
 exact ⟨rfl,rfl⟩
theorem qW (a b:List UInt8) (w:World):Calls prog 196 #[.string ⟨a.toArray⟩,.string ⟨b.toArray⟩] w fun e w'=>e=.returned (.bool (Op.bytesLess a b))∧w=w':=by
 go_enter func196,ntmps196
 go_wp2_with fail
 refine (F8 a _).mono ?_;rintro e w1 ⟨rfl,rfl⟩
 go_wp2
 go_ret
 exact ⟨rfl,rfl⟩
def gJ (s:List UInt8) (ts:List (List UInt8)) (w:World) (e:Ending) (w':World):Prop:=∃ (k:Nat) (b:Bool),e=.returned (.tuple #[.int .i64 k,.bool b])∧w=w'∧nR s ts k b
theorem xV (x:Row (List UInt8)) (s:List UInt8) (w:World) (hx:x.rd w) (hr:Kn x.l) (hn:x.n≤1000000):
 Calls prog 176 #[.slice x.A x.n x.c,.string ⟨s.toArray⟩] w (gJ s x.l w):=by
 have hlen:Hid (x.l.length=x.n):=hx.len
 have HX:=Aa hx
 have HR:=Aa hr
 obtain ⟨A,n,c,ts⟩:=x
 simp only at *
 clear hx hr
 go_enter func176,ntmps176
 go_wp2_with fail
 have HF:Hid ((∀ (m:Nat) u,m<0→ts[m]?=some u→Op.bytesLess u s=true)∧(∀ (m:Nat) u,n≤m→ts[m]?=some u→Op.bytesLess u s=false)):=⟨fun m u h=>absurd h (by omega),fun m u hm hu=>by
  have:=(Ca.1 hu).1
  have:=hlen.Ab
  omega⟩
 go_loopg [7,8] n (fun gg s7 s8 wr=>∃ i j:Nat,gg=j - i∧i≤j∧j≤n∧s7=.int .i64 i∧s8=.int .i64 j∧w=wr∧Hid ((∀ (m:Nat) u,m<i→ts[m]?=some u→Op.bytesLess u s=true)∧(∀ (m:Nat) u,j≤m→ts[m]?=some u→Op.bytesLess u s=false)))
 case atStart=>exact ⟨0,n,by omega,by omega,by omega,rfl,rfl,rfl,HF⟩
 case round=>
  clear HF
  obtain ⟨i,j,BG,hij,hj,rfl,rfl,rfl,HF⟩:=hrel
  have Cg:=Aa BG
  clear BG
  by_cases hlt:i<j
  ·obtain ⟨b,o,t,hA,ht,htl,hc⟩:=HX.FE (k:=(i+j) / 2) (by show _<n;omega)
   simp only at hA
   subst hA
   have HT:=Aa ht
   clear ht
   go_wp2_with fail
   refine (qW t s _).mono ?_;rintro e w1 ⟨rfl,rfl⟩
   cases hL:Op.bytesLess t s with
   |true=>
    have HN:Hid ((∀ (m:Nat) u,m<(i+j) / 2+1→ts[m]?=some u→Op.bytesLess u s=true)∧(∀ (m:Nat) u,j≤m→ts[m]?=some u→Op.bytesLess u s=false)):=by
     refine ⟨fun m u hm hu=>?_,HF.2⟩
     rcases (show m<(i+j) / 2∨m=(i+j) / 2 by omega) with h|h
     ·exact Ng (HR.lt h hu HT.Ab) hL
     ·subst h
      rw [HT.Ab] at hu
      injection hu with hu
      subst hu
      exact hL
    clear HF hL
    go_wp2
    go_roundg (j - ((i+j) / 2+1))
    case rel=>exact ⟨(i+j) / 2+1,j,rfl,by omega,hj,by go_num,rfl,rfl,HN⟩
    case measure=>rw [Cg.Ab];omega
   |false=>
    have HN:Hid ((∀ (m:Nat) u,m<i→ts[m]?=some u→Op.bytesLess u s=true)∧(∀ (m:Nat) u,(i+j) / 2≤m→ts[m]?=some u→Op.bytesLess u s=false)):=by
     refine ⟨HF.1,fun m u hm hu=>?_⟩
     rcases (show (i+j) / 2<m∨m=(i+j) / 2 by omega) with h|h
     ·cases hq:Op.bytesLess u s with
      |false=>rfl
      |true=>rw [Ng (HR.lt h HT hu) hq] at hL;cases hL
     ·subst h
      rw [HT.Ab] at hu
      injection hu with hu
      subst hu
      exact hL
    clear HF hL
    go_wp2
    go_roundg ((i+j) / 2 - i)
    case rel=>exact ⟨i,(i+j) / 2,rfl,by omega,by omega,rfl,by go_num,rfl,HN⟩
    case measure=>rw [Cg.Ab];omega
  ·obtain rfl:i=j:=by omega
   by_cases hin:i<n
   ·obtain ⟨b,o,t,hA,ht,htl,hc⟩:=HX.FE (k:=i) hin
    simp only at hA
    subst hA
    have HT:=Aa ht
    clear ht
    cases hE:(t==s) with
    |true=>
     have HP:=Aa (uU HF.1 HT hE)
     clear HF
     go_wp2
     go_ret2
     exact ⟨i,true,rfl,rfl,HP.Ab⟩
    |false=>
     have HP:=Aa (eQ HR (by have:=hlen.Ab;omega) HF.1 HF.2 (fun u hu=>by rw [HT.Ab] at hu;injection hu with hu;subst hu;exact hE))
     clear HF
     go_wp2_with fail
     refine (xO t _).mono ?_;rintro e w1 ⟨rfl,rfl⟩
     go_wp2
     go_ret2
     exact ⟨i,false,rfl,rfl,HP.Ab⟩
   ·have HP:=Aa (eQ HR (by have:=hlen.Ab;omega) HF.1 HF.2 (fun u hu=>by have:=(Ca.1 hu).1;have:=hlen.Ab;omega))
    clear HF
    go_wp2
    go_ret2
    exact ⟨i,false,rfl,rfl,HP.Ab⟩
theorem SB (x:Row (List UInt8)) (s:List UInt8) (w:World) (hx:x.rd w) (hr:Kn x.l) (hn:x.n≤1000000):
 Calls prog 144 #[.slice x.A x.n x.c,.string ⟨s.toArray⟩] w (gJ s x.l w):=by
 have HB:=Aa (xV x s w hx hr hn)
 go_enter func144,ntmps144
 go_wp2_with fail
 refine HB.mono ?_;rintro e w1 ⟨k,b,rfl,rfl,hF⟩
 have HF:=Aa hF
 clear hF
 go_wp2
 go_ret2
 exact ⟨k,b,rfl,rfl,HF.Ab⟩
def Te (s:List UInt8) (ts:List (List UInt8)):Int:=match posOf s ts with|some k=>k|none=>-1
theorem oJ (x:Row (List UInt8)) (s:List UInt8) (w:World) (hx:x.rd w):
 Calls prog 51 #[.slice x.A x.n x.c,.string ⟨s.toArray⟩] w fun e w'=>e=.returned (.int .i64 (Te s x.l))∧w=w':=by
 have hlen:Hid (x.l.length=x.n):=hx.len
 have HX:=Aa hx
 have n63:=hx.n63
 obtain ⟨A,n,c,ts⟩:=x
 simp only at *
 clear hx
 go_enter func51,ntmps51
 go_wp2_with fail
 have HF:Hid (∀ (k:Nat) u,k<0→ts[k]?=some u→(u==s)=false):=fun m u h=>absurd h (by omega)
 go_loopg [5] n (fun gg s5 wr=>∃ i:Nat,gg=n - i∧i≤n∧s5=.int .i64 i∧w=wr∧Hid (∀ (k:Nat) u,k<i→ts[k]?=some u→(u==s)=false))
 case atStart=>exact ⟨0,rfl,by omega,rfl,rfl,HF⟩
 case round=>
  clear HF
  obtain ⟨i,BG,hi,rfl,rfl,HF⟩:=hrel
  have Cg:=Aa BG
  clear BG
  by_cases hlt:i<n
  ·obtain ⟨b,o,t,hA,ht,htl,hc⟩:=HX.FE (k:=i) hlt
   simp only at hA
   subst hA
   have HT:=Aa ht
   have i0:(0:Int)≤i:=by omega
   have i1:(i:Int)<n:=by omega
   clear ht
   cases hE:(t==s) with
   |true=>
    have HP:Hid (Te s ts=i):=by show _=_;unfold Te;rw [VD HT hE HF.Ab]
    clear HF
    go_wp2
    go_ret
    rw [HP.Ab]
    exact ⟨rfl,rfl⟩
   |false=>
    have HN:Hid (∀ (k:Nat) u,k<i+1→ts[k]?=some u→(u==s)=false):=by
     intro k u hk hu
     rcases (show k<i∨k=i by omega) with h|h
     ·exact HF k u h hu
     ·subst h
      rw [HT.Ab] at hu
      injection hu with hu
      subst hu
      exact hE
    clear HF
    go_wp2
    go_roundg (n - (i+1))
    case rel=>exact ⟨i+1,rfl,by omega,by go_num,rfl,HN⟩
    case measure=>rw [Cg.Ab];omega
  ·have HP:Hid (Te s ts=-1):=by
    show _=_
    unfold Te
    rw [VE fun k u hu=>HF k u (by have:=(Ca.1 hu).1;have:=hlen.Ab;omega) hu]
   clear HF
   go_wp2
   go_ret
   rw [HP.Ab]
   exact ⟨rfl,rfl⟩
end Go.Proofs.YtijplolmkcdflaaGreat
namespace Go.Proofs.YtijplolmkcdflaaGreat
open Tryz
open Go.RowKit Go.ChangeShapes Go.WideShapes Go.Deep
structure Rw where
 ts:Row (List UInt8)
 vs:Row Int
abbrev Rw.cs (r:Rw):Array Value:=#[.slice r.ts.A r.ts.n r.ts.c,.slice r.vs.A r.vs.n r.vs.c]
structure Rw.rd (w:World) (r:Rw):Prop where
 ts:r.ts.rd w
 vs:r.vs.rd w
theorem Rw.rd.mono {w w':World} {s:Rw} (h:s.rd w) (hb:Aj w w'):s.rd w':=⟨h.ts.mono hb,h.vs.mono hb⟩
instance uC:Ar Rw where
 size:=2
 bytes:=48
 cells s:=s.cs.toList
 ok w s:=s.rd w
 len _:=rfl
 pos:=by omega
 mono hb h:=h.mono hb
structure RC where
 ts:List (List UInt8)
 vs:List Int
deriving DecidableEq
abbrev Rw.Ac (r:Rw):RC:=⟨r.ts.l,r.vs.l⟩
theorem SF (r:Rw):r.cs.all (·.oneCell')=true:=by simp [Value.oneCell']
theorem JO:DV prog 38 2:=⟨⟨_,underlying38,rfl⟩,by kernel_rfl⟩
theorem XB:BC prog 26 38 2 48:=BC.mk' (z:=.agg #[.slice none 0 0,.slice none 0 0]) underlying26 (by kernel_rfl) rfl (by omega)
theorem WW:BC prog 36 2 1 8:=BC.mk' (z:=.int .i64 0) underlying36 (by kernel_rfl) rfl (by omega)
theorem c_rw:prog.cellsOf 38=2:=by kernel_rfl
theorem Af1:prog.cellsOf 2=1:=by kernel_rfl
theorem Ac6:prog.cellsOf 36=1:=by kernel_rfl
theorem kL:JW prog 36 (Row Int):=Jv underlying36 Af1 (by kernel_rfl) (Mf underlying2)
theorem zB:JW prog 38 Rw:=by
 intro H enc w base spare held fuel cs x h hz
 have hl:=Jr underlying38 h c_rw
 obtain ⟨a,ha,wa⟩:=Ei underlying38 h hz 0 _ rfl Nc ZE
 obtain ⟨b,hb,wb⟩:=Ei underlying38 h hz 1 _ rfl kL Ac6
 refine ⟨⟨a,b⟩,?_,⟨Row.ok.Vw wa,Row.ok.Vw wb⟩⟩
 match cs,hl with
 |[x0,x1],_=>
  simp [Ar.cells,Row.v] at ha hb
  simp [Ar.cells,ha,hb]
theorem Row.rd.jK {w:World} {x:Row Rw} (h:x.rd w) {k:Nat} (hk:k<x.n):∃ b o t,x.A=some ⟨b,o,none⟩∧b<w.heap.size∧x.l[k]?=some t∧t.rd w∧w.rangeAt b (o+k * 2) t.cs.toList:=by
 obtain ⟨b,o,t,e,hb,ht,hc⟩:=Md h.r hk
 exact ⟨b,o,t,e,hb,ht,h.all t (CE ht),hc⟩
def Cz:List DC→List (List UInt8)→Except Int (List Int)
 |d::ds,t::ts=>
  match d.AB with
  |[]=>.error 2
  |tr::_=>
   match posOf t tr.ts with
   |none=>.error 13
   |some k=>
    match Cz ds ts with
    |.error e=>.error e
    |.ok ks=>.ok ((k:Int)::ks)
 |_,_=>.ok []
def rowOf (s:SC) (r:RC):Except Int (List Int):=if r.ts.length≠s.DF.length∨r.vs.length≠s.ms.length then .error 2 else Cz s.DF r.ts
def Gl (acc:List Int) (o:Except Int (List Int)):Except Int (List Int):=match o with|.error e=>.error e|.ok ks=>.ok (acc++ks)
theorem WQ (o:Except Int (List Int)):Gl [] o=o:=by cases o<;>rfl
theorem Ue {acc:List Int} {k:Int} {o:Except Int (List Int)}:Gl acc (match o with|.error e=>.error e|.ok ks=>.ok (k::ks))=Gl (acc++[k]) o:=by cases o<;>simp [Gl]
theorem Ro {ds:List DC} {ts:List (List UInt8)} {k:Nat} {d:DC} {t:List UInt8} (hd:ds[k]?=some d) (ht:ts[k]?=some t):Cz (ds.drop k) (ts.drop k)=match d.AB with|[]=>.error 2|tr::_=>match posOf t tr.ts with|none=>.error 13|some p=>match Cz (ds.drop (k+1)) (ts.drop (k+1)) with|.error e=>.error e|.ok ks=>.ok ((p:Int)::ks):=by
 obtain ⟨h1,rfl⟩:=Ca.1 hd
 obtain ⟨h2,rfl⟩:=Ca.1 ht
 rw [DZ h1,DZ h2,Cz]
theorem PV {ds:List DC} {ts:List (List UInt8)} {k:Nat} {d:DC} {t:List UInt8} (hd:ds[k]?=some d) (ht:ts[k]?=some t) (h:d.AB=[]):Cz (ds.drop k) (ts.drop k)=.error 2:=by rw [Ro hd ht,h]
theorem JE {ds:List DC} {ts:List (List UInt8)} {k:Nat} {d:DC} {t:List UInt8} {tr:TC} {r:List TC} (hd:ds[k]?=some d) (ht:ts[k]?=some t) (h:d.AB=tr::r):Cz (ds.drop k) (ts.drop k)=match posOf t tr.ts with|none=>.error 13|some p=>match Cz (ds.drop (k+1)) (ts.drop (k+1)) with|.error e=>.error e|.ok ks=>.ok ((p:Int)::ks):=by rw [Ro hd ht,h]
def pV (o:Except Int (List Int)) (w:World) (e:Ending) (w':World):Prop:=
 match o with
 |.error k=>e=.returned (.tuple #[.slice none 0 0,.int .i64 k])∧Aj w w'
 |.ok ks=>∃ (A:Option Addr) (c:Nat),e=.returned (.tuple #[.slice A ks.length c,.int .i64 0])∧Aj w w'∧w'.ownsRow w.heap.size 3 1 (.slice A ks.length c) ks.length (ks.map (Value.int .i64))
theorem Vo (s:Ev) (r:Rw) (w:World) (hs:s.rd w) (hrw:r.rd w) (hn:s.dm.n≤1000000) (hr:∀ d ∈ s.dm.l,∀ t ∈ d.tr.l,Kn t.ts.l∧t.ts.n≤1000000):
 Calls prog 99 #[.agg s.cs,.agg r.cs] w (pV (rowOf s.Ac r.Ac) w):=by
 have hl1:Hid (s.dm.l.length=s.dm.n):=hs.dm.len
 have hl2:Hid (s.ms.l.length=s.ms.n):=hs.ms.len
 have hl3:Hid (r.ts.l.length=r.ts.n):=hrw.ts.len
 have hl4:Hid (r.vs.l.length=r.vs.n):=hrw.vs.len
 have HD:=Aa hs.dm
 have HT:=Aa hrw.ts
 have Jh:=Aa hr
 have n63:=hs.dm.n63
 have m63:=hrw.vs.n63
 have t63:=hrw.ts.n63
 have e63:=hs.ms.n63
 have H:=Aa (((SL.start No w).alloc s.cs 25).alloc r.cs 38)
 (try simp only [LS] at H)
 obtain ⟨⟨A,n,c,ds⟩,⟨A2,n2,c2,ms⟩⟩:=s
 obtain ⟨⟨A3,n3,c3,ts⟩,⟨A4,n4,c4,vs⟩⟩:=r
 simp only [Ev.cs,Ev.Ac,Rw.cs,Rw.Ac] at *
 clear hs hrw hr
 go_enter func99,ntmps99
 have Ga:=(H.blk 0 rfl).Am 0
 have RU:=(H.blk 1 rfl).Am 0
 have NJ:=(H.blk 0 rfl).Am 1
 have aC:=(H.blk 1 rfl).Am 1
 by_cases h1:n3=n
 ·subst h1
  by_cases h2:n4=n2
  ·subst h2
   have HE:Hid (rowOf ⟨ds.map Dm.Ac,ms⟩ ⟨ts,vs⟩=Gl [] (Cz ((ds.map Dm.Ac).drop 0) (ts.drop 0))):=by
    show _=_
    unfold rowOf
    rw [Ah (by have:=hl1.Ab;have:=hl2.Ab;have:=hl3.Ab;have:=hl4.Ab;simp;omega),WQ]
    rfl
   go_wp2_with fail
   clear Ga RU NJ aC
   generalize w.heap.size+1=y at *
   generalize w.heap.size=x at *
   replace H:=Aa (H.ES 3 1);(try simp only [LS] at H)
   generalize World.alloc _ _=w1 at *
   go_loopg [6,30] n3 (fun gg s6 si wr=>∃ (k:Nat) (ks:List Int) (B:Option Addr) (d:Nat),gg=n3 - k∧k≤n3∧si=.int .i64 k∧s6=.slice B k d∧Hid (ks.length=k)∧Hid (SL No w wr [Av x 25 #[.slice A n3 c,.slice A2 n4 c2],Av y 38 #[.slice A3 n3 c3,.slice A4 n4 c4],Cb 3 1 (.slice B k d) k (ks.map (Value.int .i64))])∧Hid (rowOf ⟨ds.map Dm.Ac,ms⟩ ⟨ts,vs⟩=Gl ks (Cz ((ds.map Dm.Ac).drop k) (ts.drop k))))
   case atStart=>exact ⟨0,[],none,0,rfl,by omega,rfl,rfl,rfl,H,HE⟩
   case round=>
    clear H HE
    obtain ⟨k,ks,B,d,BG,hk,rfl,rfl,hkc,H,HE⟩:=hrel
    have Cg:=Aa BG
    clear BG
    by_cases hlt:k<n3
    ·obtain ⟨b1,o1,D,hA,hb1,UC,IJ,hrg⟩:=(HD.mono H.to).Ta (k:=k) hlt
     simp only at hA
     subst hA
     obtain ⟨b3,o3,t,hA3,htk,htl,q3⟩:=(HT.mono H.to).FE (k:=k) hlt
     simp only at hA3
     subst hA3
     have Gg:(ds.map Dm.Ac)[k]?=some D.Ac:=by rw [DD,UC];(try rfl)
     have NY:=Aa Gg
     have wG:Hid (ts[k]?=some t):=htk
     have HDK:=Aa UC
     have q1:=hrg 1 _ rfl
     have htrl:Hid (D.tr.l.length=D.tr.n):=IJ.tr.len
     have HDR:=Aa IJ
     have D63:=IJ.tr.n63
     have i0:(0:Int)≤k:=by omega
     have i1:(k:Int)<n3:=by omega
     have Ga:=(H.blk 0 rfl).Am 0
     have RU:=(H.blk 1 rfl).Am 0
     clear UC hrg Gg htk IJ hb1
     by_cases hz:D.tr.n=0
     ·have HN:Hid (rowOf ⟨ds.map Dm.Ac,ms⟩ ⟨ts,vs⟩=.error 2):=by
       show _=_
       rw [HE.Ab,PV NY wG (by show D.tr.l.map Bg.Ac=[];rw [Km (l:=D.tr.l) (by rw [htrl.Ab];exact hz)];(try rfl))]
       rfl
      have z1:((D.tr.n:Int)==0)=true:=by simp [hz]
      have z2:(D.tr.n==0)=true:=by simp [hz]
      clear HE NY wG
      rw [hz] at q1
      clear hz z1 z2
      go_wp2
      go_ret2
      rw [HN.Ab]
      exact ⟨rfl,H.to⟩
     ·have z1:((D.tr.n:Int)==0)=false:=by simp<;>omega
      have z2:(D.tr.n==0)=false:=by simp<;>omega
      obtain ⟨b2,o2,T,hT,hb2,hT0,hTr,hrg2⟩:=HDR.tr.JN (k:=0) (by omega)
      have q2:=hrg2 1 _ rfl
      simp only [Sn,Jk] at q2
      rw [hT] at q1
      have j1:(0:Int)<D.tr.n:=by omega
      have p8:(D.tr.l.map Bg.Ac)=T.Ac::(D.tr.l.map Bg.Ac).tail:=by
       cases hl:D.tr.l with
       |nil=>rw [hl] at hT0;cases hT0
       |cons a r=>rw [hl] at hT0;injection hT0 with hT0;subst hT0;rfl
      have X0:=Aa p8
      have gQ:=Aa hTr.ts
      obtain ⟨hri,hTn⟩:=Jh D (CE HDK.Ab) T (CE hT0)
      have HRi:=Aa hri
      clear hri
      clear hT hT0 hTr hrg2 p8 hb2
      go_wp2_with fail
      refine (SB T.ts t _ gQ HRi hTn).mono ?_;rintro e w5 ⟨p,fb,rfl,rfl,hF⟩
      clear Ga RU q1 q2 q3
      cases fb with
      |false=>
       have HN:Hid (rowOf ⟨ds.map Dm.Ac,ms⟩ ⟨ts,vs⟩=.error 13):=by show _=_;rw [HE.Ab,JE NY wG (show D.Ac.AB=_ from X0.Ab)];show Gl ks (match posOf t T.ts.l with|none=>_|some k=>_)=_;rw [hF.2.2 rfl];(try rfl)
       clear HE NY wG hF
       go_wp2
       go_ret2
       rw [HN.Ab]
       exact ⟨rfl,H.to⟩
      |true=>
       have HN:Hid (rowOf ⟨ds.map Dm.Ac,ms⟩ ⟨ts,vs⟩=Gl (ks++[(p:Int)]) (Cz ((ds.map Dm.Ac).drop (k+1)) (ts.drop (k+1)))):=by
        show _=_
        rw [HE.Ab,JE NY wG (show D.Ac.AB=_ from X0.Ab)]
        show Gl ks (match posOf t T.ts.l with|none=>_|some k=>_)=_
        rw [hF.2.1 rfl]
        exact Ue
       clear HE NY wG hF
       go_wp2_with ((with_reducible refine OP 62 ?_);(replace H:=Aa (H.alloc #[.int .i64 (p:Nat)] 3);(try simp only [LS] at H);refine BI rfl (.tmp 59) (.tmp 61) _ rfl Lf 0 (Bw _) _ k _ rfl (H.row 2 rfl) _ 1 1 [.int .i64 (p:Nat)] rfl (AQ (H.blk 3 rfl) rfl) (by simp [Value.oneCell']) (by unfold maxLen;omega) (by omega) ?_;intro vq wq AR Ay Bb;replace H:=Aa (H.setRow 2 rfl Ay AR Bb);(try simp only [LS] at H);clear AR Ay Bb;obtain ⟨A9,c9,rfl,_⟩:=Ao (H.row 2 rfl)))
       replace H:=Aa (H.Gh [0,1,2] (by decide) (by simp));(try simp only [LS] at H)
       go_roundg (n3 - (k+1))
       case rel=>exact ⟨k+1,ks++[(p:Int)],A9,c9,rfl,by omega,by go_num,rfl,by show _=_;rw [BQ,hkc.Ab];(try rfl),by rw [BR];exact H,HN⟩
       case measure=>rw [Cg.Ab];omega
    ·have HN:Hid (rowOf ⟨ds.map Dm.Ac,ms⟩ ⟨ts,vs⟩=.ok ks):=by
      show _=_
      rw [HE.Ab,EY (by have:=hl1.Ab;simp;omega)]
      show Gl ks (.ok [])=_
      unfold Gl
      simp
     have hks:=hkc.Ab
     clear HE
     go_wp2
     go_ret2
     rw [HN.Ab]
     refine ⟨B,d,?_,H.to,?_⟩
     ·rw [hks];(try rfl)
     ·rw [hks];exact H.yF 2 rfl
  ·have HE:Hid (rowOf ⟨ds.map Dm.Ac,ms⟩ ⟨ts,vs⟩=.error 2):=by show _=_;unfold rowOf;rw [Ak (.inr (by have:=hl2.Ab;have:=hl4.Ab;simp;omega))]
   have g1:((n4:Int) !=(n2:Int))=true:=by simp<;>omega
   have g2:(n4 !=n2)=true:=by simp<;>omega
   go_wp2
   go_ret2
   rw [HE.Ab]
   exact ⟨rfl,H.to⟩
 ·have HE:Hid (rowOf ⟨ds.map Dm.Ac,ms⟩ ⟨ts,vs⟩=.error 2):=by show _=_;unfold rowOf;rw [Ak (.inl (by have:=hl1.Ab;have:=hl3.Ab;simp;omega))]
  have g1:((n3:Int) !=(n:Int))=true:=by simp<;>omega
  have g2:(n3 !=n)=true:=by simp<;>omega
  go_wp2
  go_ret2
  rw [HE.Ab]
  exact ⟨rfl,H.to⟩
theorem rD (s:Ev) (r:Rw) (w:World) (hs:s.rd w) (hrw:r.rd w) (hn:s.dm.n≤1000000):
 Calls prog 26 #[.agg s.cs,.agg r.cs] w (pV (rowOf s.Ac r.Ac) w):=by
 have hl1:Hid (s.dm.l.length=s.dm.n):=hs.dm.len
 have hl2:Hid (s.ms.l.length=s.ms.n):=hs.ms.len
 have hl3:Hid (r.ts.l.length=r.ts.n):=hrw.ts.len
 have hl4:Hid (r.vs.l.length=r.vs.n):=hrw.vs.len
 have HD:=Aa hs.dm
 have HT:=Aa hrw.ts
 have n63:=hs.dm.n63
 have m63:=hrw.vs.n63
 have t63:=hrw.ts.n63
 have e63:=hs.ms.n63
 have H:=Aa (((SL.start No w).alloc s.cs 25).alloc r.cs 38)
 (try simp only [LS] at H)
 obtain ⟨⟨A,n,c,ds⟩,⟨A2,n2,c2,ms⟩⟩:=s
 obtain ⟨⟨A3,n3,c3,ts⟩,⟨A4,n4,c4,vs⟩⟩:=r
 simp only [Ev.cs,Ev.Ac,Rw.cs,Rw.Ac] at *
 clear hs hrw
 go_enter func26,ntmps26
 have Ga:=(H.blk 0 rfl).Am 0
 have RU:=(H.blk 1 rfl).Am 0
 have NJ:=(H.blk 0 rfl).Am 1
 have aC:=(H.blk 1 rfl).Am 1
 by_cases h1:n3=n
 ·subst h1
  by_cases h2:n4=n2
  ·subst h2
   have HE:Hid (rowOf ⟨ds.map Dm.Ac,ms⟩ ⟨ts,vs⟩=Gl [] (Cz ((ds.map Dm.Ac).drop 0) (ts.drop 0))):=by
    show _=_
    unfold rowOf
    rw [Ah (by have:=hl1.Ab;have:=hl2.Ab;have:=hl3.Ab;have:=hl4.Ab;simp;omega),WQ]
    rfl
   go_wp2_with fail
   clear Ga RU NJ aC
   generalize w.heap.size+1=y at *
   generalize w.heap.size=x at *
   replace H:=Aa (H.ES 3 1);(try simp only [LS] at H)
   generalize World.alloc _ _=w1 at *
   go_loopg [6,28] n3 (fun gg s6 si wr=>∃ (k:Nat) (ks:List Int) (B:Option Addr) (d:Nat),gg=n3 - k∧k≤n3∧si=.int .i64 k∧s6=.slice B k d∧Hid (ks.length=k)∧Hid (SL No w wr [Av x 25 #[.slice A n3 c,.slice A2 n4 c2],Av y 38 #[.slice A3 n3 c3,.slice A4 n4 c4],Cb 3 1 (.slice B k d) k (ks.map (Value.int .i64))])∧Hid (rowOf ⟨ds.map Dm.Ac,ms⟩ ⟨ts,vs⟩=Gl ks (Cz ((ds.map Dm.Ac).drop k) (ts.drop k))))
   case atStart=>exact ⟨0,[],none,0,rfl,by omega,rfl,rfl,rfl,H,HE⟩
   case round=>
    clear H HE
    obtain ⟨k,ks,B,d,BG,hk,rfl,rfl,hkc,H,HE⟩:=hrel
    have Cg:=Aa BG
    clear BG
    by_cases hlt:k<n3
    ·obtain ⟨b1,o1,D,hA,hb1,UC,IJ,hrg⟩:=(HD.mono H.to).Ta (k:=k) hlt
     simp only at hA
     subst hA
     obtain ⟨b3,o3,t,hA3,htk,htl,q3⟩:=(HT.mono H.to).FE (k:=k) hlt
     simp only at hA3
     subst hA3
     have Gg:(ds.map Dm.Ac)[k]?=some D.Ac:=by rw [DD,UC];(try rfl)
     have NY:=Aa Gg
     have wG:Hid (ts[k]?=some t):=htk
     have HDK:=Aa UC
     have q1:=hrg 1 _ rfl
     have htrl:Hid (D.tr.l.length=D.tr.n):=IJ.tr.len
     have HDR:=Aa IJ
     have D63:=IJ.tr.n63
     have i0:(0:Int)≤k:=by omega
     have i1:(k:Int)<n3:=by omega
     have Ga:=(H.blk 0 rfl).Am 0
     have RU:=(H.blk 1 rfl).Am 0
     clear UC hrg Gg htk IJ hb1
     by_cases hz:D.tr.n=0
     ·have HN:Hid (rowOf ⟨ds.map Dm.Ac,ms⟩ ⟨ts,vs⟩=.error 2):=by
       show _=_
       rw [HE.Ab,PV NY wG (by show D.tr.l.map Bg.Ac=[];rw [Km (l:=D.tr.l) (by rw [htrl.Ab];exact hz)];(try rfl))]
       rfl
      have z1:((D.tr.n:Int)==0)=true:=by simp [hz]
      have z2:(D.tr.n==0)=true:=by simp [hz]
      clear HE NY wG
      rw [hz] at q1
      clear hz z1 z2
      go_wp2
      go_ret2
      rw [HN.Ab]
      exact ⟨rfl,H.to⟩
     ·have z1:((D.tr.n:Int)==0)=false:=by simp<;>omega
      have z2:(D.tr.n==0)=false:=by simp<;>omega
      obtain ⟨b2,o2,T,hT,hb2,hT0,hTr,hrg2⟩:=HDR.tr.JN (k:=0) (by omega)
      have q2:=hrg2 1 _ rfl
      simp only [Sn,Jk] at q2
      rw [hT] at q1
      have j1:(0:Int)<D.tr.n:=by omega
      have p8:(D.tr.l.map Bg.Ac)=T.Ac::(D.tr.l.map Bg.Ac).tail:=by
       cases hl:D.tr.l with
       |nil=>rw [hl] at hT0;cases hT0
       |cons a r=>rw [hl] at hT0;injection hT0 with hT0;subst hT0;rfl
      have X0:=Aa p8
      have gQ:=Aa hTr.ts
      clear hT hT0 hTr hrg2 p8 hb2
      go_upto_region 9 with fail
      have f0:=fun u:Over wr=>Over.cell Ga u
      have f1:=fun u:Over wr=>Over.cell RU u
      have f2:=fun u:Over wr=>Over.cell q1 u
      have f3:=fun u:Over wr=>Over.cell q2 u
      have f4:=fun u:Over wr=>Over.cell q3 u
      refine Al ?_
      repeat (go_big_quiet_step ((go_at_call 51;rename_i u;exact NK (oJ T.ts t _ (gQ.mono u.Au)))))
      refine CX ?_
      rintro _ ⟨⟨w5,FP⟩,rfl⟩
      replace H:=Aa (H.Au FP)
      clear FP f0 f1 f2 f3 f4 Ga RU q1 q2 q3
      cases hP:posOf t T.ts.l with
      |none=>
       have HN:Hid (rowOf ⟨ds.map Dm.Ac,ms⟩ ⟨ts,vs⟩=.error 13):=by show _=_;rw [HE.Ab,JE NY wG (show D.Ac.AB=_ from X0.Ab)];show Gl ks (match posOf t T.ts.l with|none=>_|some k=>_)=_;rw [hP];(try rfl)
       have hAt:Te t T.ts.l=-1:=by unfold Te;rw [hP]
       rw [hAt]
       clear HE NY wG hP hAt
       go_wp2
       go_ret2
       rw [HN.Ab]
       exact ⟨rfl,H.to⟩
      |some p=>
       have hpl:=Ru hP
       have hTn63:=gQ.n63
       rw [gQ.len] at hpl
       have HN:Hid (rowOf ⟨ds.map Dm.Ac,ms⟩ ⟨ts,vs⟩=Gl (ks++[(p:Int)]) (Cz ((ds.map Dm.Ac).drop (k+1)) (ts.drop (k+1)))):=by
        show _=_
        rw [HE.Ab,JE NY wG (show D.Ac.AB=_ from X0.Ab)]
        show Gl ks (match posOf t T.ts.l with|none=>_|some k=>_)=_
        rw [hP]
        exact Ue
       have hAt:Te t T.ts.l=(p:Int):=by unfold Te;rw [hP]
       rw [hAt]
       clear HE NY wG hP hAt
       go_wp2_with ((with_reducible refine OP 59 ?_);(replace H:=Aa (H.alloc #[.int .i64 (p:Nat)] 3);(try simp only [LS] at H);refine BI rfl (.tmp 56) (.tmp 58) _ rfl Lf 0 (Bw _) _ k _ rfl (H.row 2 rfl) _ 1 1 [.int .i64 (p:Nat)] rfl (AQ (H.blk 3 rfl) rfl) (by simp [Value.oneCell']) (by unfold maxLen;omega) (by omega) ?_;intro vq wq AR Ay Bb;replace H:=Aa (H.setRow 2 rfl Ay AR Bb);(try simp only [LS] at H);clear AR Ay Bb;obtain ⟨A9,c9,rfl,_⟩:=Ao (H.row 2 rfl)))
       replace H:=Aa (H.Gh [0,1,2] (by decide) (by simp));(try simp only [LS] at H)
       go_roundg (n3 - (k+1))
       case rel=>exact ⟨k+1,ks++[(p:Int)],A9,c9,rfl,by omega,by go_num,rfl,by show _=_;rw [BQ,hkc.Ab];(try rfl),by rw [BR];exact H,HN⟩
       case measure=>rw [Cg.Ab];omega
    ·have HN:Hid (rowOf ⟨ds.map Dm.Ac,ms⟩ ⟨ts,vs⟩=.ok ks):=by
      show _=_
      rw [HE.Ab,EY (by have:=hl1.Ab;simp;omega)]
      show Gl ks (.ok [])=_
      unfold Gl
      simp
     have hks:=hkc.Ab
     clear HE
     go_wp2
     go_ret2
     rw [HN.Ab]
     refine ⟨B,d,?_,H.to,?_⟩
     ·rw [hks];(try rfl)
     ·rw [hks];exact H.yF 2 rfl
  ·have HE:Hid (rowOf ⟨ds.map Dm.Ac,ms⟩ ⟨ts,vs⟩=.error 2):=by show _=_;unfold rowOf;rw [Ak (.inr (by have:=hl2.Ab;have:=hl4.Ab;simp;omega))]
   have g1:((n4:Int) !=(n2:Int))=true:=by simp<;>omega
   have g2:(n4 !=n2)=true:=by simp<;>omega
   go_wp2
   go_ret2
   rw [HE.Ab]
   exact ⟨rfl,H.to⟩
 ·have HE:Hid (rowOf ⟨ds.map Dm.Ac,ms⟩ ⟨ts,vs⟩=.error 2):=by show _=_;unfold rowOf;rw [Ak (.inl (by have:=hl1.Ab;have:=hl3.Ab;simp;omega))]
  have g1:((n3:Int) !=(n:Int))=true:=by simp<;>omega
  have g2:(n3 !=n)=true:=by simp<;>omega
  go_wp2
  go_ret2
  rw [HE.Ab]
  exact ⟨rfl,H.to⟩
end Go.Proofs.YtijplolmkcdflaaGreat
namespace Go.Proofs.YtijplolmkcdflaaGreat
open Tryz
open Go.RowKit
def FN (s:SC):List RC→Int
 |[]=>0
 |r::rs=>match rowOf s r with|.error e=>e|.ok _=>FN s rs
def BF (s:SC) (rows:List RC):Int:=if Ap s≠0 then Ap s else if 300<rows.length then 5 else FN s rows
def IX (r:RC):List UInt8:=r.ts.flatMap Cc++r.vs.flatMap (fun x=>CK (Gq x))
def FV (rows:List RC):List UInt8:=CK rows.length++rows.flatMap IX
theorem Rn {s:SC} {rows:List RC} {k:Nat} {r:RC} (h:rows[k]?=some r):FN s (rows.drop k)=match rowOf s r with|.error e=>e|.ok _=>FN s (rows.drop (k+1)):=by
 obtain ⟨h1,rfl⟩:=Ca.1 h
 rw [DZ h1,FN]
theorem bJ {ds:List DC}:∀ {ts:List (List UInt8)} {e:Int},Cz ds ts=.error e→e=2∨e=13:=by
 induction ds with
 |nil=>intro ts e h;cases ts<;>simp [Cz] at h
 |cons d ds ih=>
  intro ts e h
  cases ts with
  |nil=>simp [Cz] at h
  |cons t ts=>
   rw [Cz] at h
   split at h
   ·injection h with h;exact .inl h.symm
   ·split at h
    ·injection h with h;exact .inr h.symm
    ·split at h
     ·rename_i h1;injection h with h;subst h;exact ih h1
     ·cases h
theorem SH {s:SC} {r:RC} {e:Int} (h:rowOf s r=.error e):e=2∨e=13:=by
 unfold rowOf at h
 split at h
 ·injection h with h;exact .inl h.symm
 ·exact bJ h
theorem jM {s:SC} {rows:List RC} (h:FN s rows=0):∀ r ∈ rows,∃ ks,rowOf s r=.ok ks:=by
 induction rows with
 |nil=>intro r hr;cases hr
 |cons a rs ih=>
  intro r hr
  rw [FN] at h
  cases ha:rowOf s a with
  |error e=>
   rw [ha] at h
   have:=SH ha
   simp only at h
   omega
  |ok ks=>
   rw [ha] at h
   rcases En.1 hr with rfl|hr
   ·exact ⟨ks,ha⟩
   ·exact ih h r hr
theorem DK {s:SC} {rows:List RC} (h:BF s rows=0):Ap s=0∧rows.length≤300∧∀ r ∈ rows,∃ ks,rowOf s r=.ok ks:=by
 unfold BF at h
 split at h
 ·rename_i h1;exact absurd h h1
 ·split at h
  ·cases h
  ·exact ⟨by omega,by omega,jM h⟩
theorem Yb {s:List UInt8} {ts:List (List UInt8)}:∀ {i:Nat},posOf s ts=some i→s ∈ ts:=by
 induction ts with
 |nil=>intro i h;cases h
 |cons a r ih=>
  intro i h
  rw [posOf] at h
  split at h
  ·rename_i h1;rw [Sm] at h1;subst h1;exact Dr ..
  ·cases hp:posOf s r with
   |none=>rw [hp] at h;cases h
   |some j=>exact EO _ (ih hp)
theorem Xh {ds:List DC}:∀ {ts:List (List UInt8)} {ks:List Int},(∀ d ∈ ds,∀ tr ∈ d.AB,∀ t ∈ tr.ts,t.length≤16)→ts.length=ds.length→Cz ds ts=.ok ks→∀ t ∈ ts,t.length≤16:=by
 induction ds with
 |nil=>intro ts ks _ hl _ t ht;cases ts with|nil=>cases ht|cons a r=>simp at hl
 |cons d ds ih=>
  intro ts ks hd hl h t ht
  cases ts with
  |nil=>cases ht
  |cons a r=>
   rw [Cz] at h
   split at h
   ·cases h
   ·rename_i tr rest htr
    split at h
    ·cases h
    ·rename_i k hp
     split at h
     ·cases h
     ·rename_i ks' hk
      rcases En.1 ht with rfl|ht
      ·exact hd d (Dr ..) tr (by rw [htr];exact Dr ..) _ (Yb hp)
      ·exact ih (fun d' hd'=>hd d' (EO _ hd')) (by simpa using hl) hk t ht
theorem KH {d:DC} (h:Ba d=0):∀ tr ∈ d.AB,BH tr.ts=0∧tr.ts.length≤200:=fun tr htr=>by
 obtain ⟨a,ha⟩:=Pn (FR (Ej h).2.2.2) htr
 exact ⟨(Du ha).2.2.2.1,(Du ha).2.2.1⟩
theorem OM {s:SC} {r:RC} {ks:List Int} (hE:Ap s=0) (h:rowOf s r=.ok ks):r.ts.length≤16∧r.vs.length≤3∧∀ t ∈ r.ts,t.length≤16:=by
 obtain ⟨h1,h2,h3,h4,h5,h6⟩:=BA hE
 unfold rowOf at h
 split at h
 ·cases h
 ·rename_i h7
  refine ⟨by omega,by omega,Xh (fun d hd tr htr t ht=>Gv (KH (h3 d hd) tr htr).1 ht) (by omega) h⟩
theorem Vp {s:Ev} {w:World} (hs:s.rd w) (hE:Ap s.Ac=0):∀ d ∈ s.dm.l,∀ t ∈ d.tr.l,Kn t.ts.l∧t.ts.n≤1000000:=fun d hd t ht=>by
 have h3:=(BA hE).2.2.1 d.Ac (GZ.2 ⟨d,hd,rfl⟩)
 have h4:=KH h3 t.Ac (GZ.2 ⟨t,ht,rfl⟩)
 have h5:t.ts.l.length=t.ts.n:=Row.rd.len (Bg.rd.ts (Row.rd.all (Dm.rd.tr (Row.rd.all (Ev.rd.dm hs) d hd)) t ht))
 exact ⟨SI h4.1,by have:=h4.2;simp only at this;omega⟩
theorem Vt {r:RC} (h1:r.ts.length≤16) (h2:r.vs.length≤3) (h3:∀ t ∈ r.ts,t.length≤16):(IX r).length≤500:=by
 have h4:(r.ts.flatMap Cc).length≤26 * r.ts.length:=Lb fun t ht=>by
  have:=h3 t ht
  have:=Bp t.length
  unfold Cc
  rw [BQ]
  omega
 have h5:(r.vs.flatMap (fun x=>CK (Gq x))).length≤9 * r.vs.length:=Lb fun x hx=>Bp _
 unfold IX
 rw [BQ]
 omega
theorem RZ (s:Ev) (x:Row Rw) (w:World) (hs:s.rd w) (hx:x.rd w) (hn:s.dm.n≤1000000) (hm:s.ms.n≤1000000) (hd:∀ d ∈ s.dm.l,d.tr.n≤1000000∧∀ t ∈ d.tr.l,t.up.n≤100000):
 Calls prog 96 #[.agg s.cs,.slice x.A x.n x.c] w fun e w'=>e=.returned (.int .i64 (BF s.Ac (x.l.map Rw.Ac)))∧Aj w w':=by
 have HC:=Aa (fun w' (hb:Aj w w')=>FM s w' (hs.mono hb) hn hm hd)
 have hlen:Hid (x.l.length=x.n):=hx.len
 have HX:=Aa hx
 have HR:=Aa (fun (hE:Ap s.Ac=0) r w' (hr:Rw.rd w' r) (hb:Aj w w')=>Vo s r w' (hs.mono hb) hr hn (Vp hs hE))
 have n63:=hx.n63
 have H:=Aa ((SL.start No w).alloc s.cs 25)
 (try simp only [LS] at H)
 obtain ⟨A,n,c,rows⟩:=x
 simp only at *
 have hcs:s.cs=#[.slice s.dm.A s.dm.n s.dm.c,.slice s.ms.A s.ms.n s.ms.c]:=rfl
 have wJ:=Aa hcs
 clear hs hx hd hcs
 go_enter func96,ntmps96
 rw [←wJ.Ab] at *
 go_wp2_with ((with_reducible refine OP 10 ?_);(refine Cx BL (H.blk 0 rfl) ?_))
 refine (HC _ H.to).mono ?_;rintro e w1 ⟨rfl,hb1⟩
 replace H:=Aa (H.Au hb1)
 clear hb1 HC
 by_cases hE:Ap s.Ac=0
 ·rw [hE]
  by_cases hl:n≤300
  ·have d1:decide ((300:Int)<n)=false:=by simp<;>omega
   have HB:Hid (BF s.Ac (rows.map Rw.Ac)=FN s.Ac ((rows.map Rw.Ac).drop 0)):=by show _=_;unfold BF;rw [Ah (by omega),Ah (by have:=hlen.Ab;simp;omega)];(try rfl)
   have HE:=Aa hE
   clear hE
   go_wp2_with fail
   generalize w.heap.size=x at *
   clear d1
   go_loopg [20] n (fun gg i wr=>∃ k:Nat,gg=n - k∧k≤n∧i=.int .i64 k∧Hid (SL No w wr [Av x 25 s.cs])∧Hid (BF s.Ac (rows.map Rw.Ac)=FN s.Ac ((rows.map Rw.Ac).drop k)))
   case atStart=>exact ⟨0,rfl,by omega,rfl,H,HB⟩
   case round=>
    clear H HB
    obtain ⟨k,BG,hk,rfl,H,HB⟩:=hrel
    have Cg:=Aa BG
    clear BG
    by_cases hlt:k<n
    ·obtain ⟨bb,oo,r,hA,hbb,Zo,hrr,hrg⟩:=(HX.mono H.to).jK (k:=k) hlt
     simp only at hA
     subst hA
     have hrc:(rows.map Rw.Ac)[k]?=some r.Ac:=by rw [DD,Zo];(try rfl)
     have Jf:=Aa (Rn (s:=s.Ac) hrc)
     have nL:=Aa hrg
     have HRr:=Aa hrr
     clear Zo hrr hrg hrc hbb
     go_wp2_with (first|((with_reducible refine OP 23 ?_);(refine Ae rfl JO (.tmp 22) rfl bb (oo+k * 2) rfl r.cs rfl nL.Ab ?_))|((with_reducible refine OS 7 ?_);(refine Fu JO (r.cs) (SF r) ?_;replace H:=Aa (H.alloc (r.cs) 38);(try simp only [LS] at H)))|((with_reducible refine OP 25 ?_);(refine Cx BL (H.blk 0 rfl) ?_))|((with_reducible refine OP 26 ?_);(refine Cx JO (H.blk 1 rfl) ?_)))
     have nK:=Aa (HR HE r _ (HRr.mono ((Aj.refl _).alloc (.cells r.cs 38))) H.to)
     cases ho:rowOf s.Ac r.Ac with
     |error e1=>
      have hE2:=SH ho
      have HN:Hid (BF s.Ac (rows.map Rw.Ac)=e1):=by show _=_;rw [HB.Ab,Jf.Ab,ho]
      rw [ho] at nK
      have z1:(e1 !=0)=true:=by simp<;>omega
      have z2:(e1==0)=false:=by simp<;>omega
      clear ho HB Jf hE2
      refine nK.mono ?_;rintro e w2 ⟨rfl,hb2⟩
      replace H:=Aa (H.Au hb2)
      clear hb2
      go_wp2
      go_ret
      rw [HN.Ab]
      exact ⟨rfl,H.to⟩
     |ok ks=>
      have HN:Hid (BF s.Ac (rows.map Rw.Ac)=FN s.Ac ((rows.map Rw.Ac).drop (k+1))):=by show _=_;rw [HB.Ab,Jf.Ab,ho]
      rw [ho] at nK
      clear ho HB Jf
      refine nK.mono ?_;rintro e w2 ⟨B,d,rfl,hb2,_⟩
      replace H:=Aa (H.Au hb2)
      replace H:=Aa (H.Gh [0] (by decide) (by simp));(try simp only [LS] at H)
      clear hb2 nK
      go_wp2
      go_roundg (n - (k+1))
      case rel=>exact ⟨k+1,rfl,by omega,by go_num,H,HN⟩
      case measure=>rw [Cg.Ab];omega
    ·have HN:Hid (BF s.Ac (rows.map Rw.Ac)=0):=by show _=_;rw [HB.Ab,EY (by have:=hlen.Ab;simp;omega)];(try rfl)
     clear HB
     go_wp2
     go_ret
     rw [HN.Ab]
     exact ⟨rfl,H.to⟩
  ·have d1:decide ((300:Int)<n)=true:=by simp<;>omega
   have HN:Hid (BF s.Ac (rows.map Rw.Ac)=5):=by show _=_;unfold BF;rw [Ah (by omega),Ak (by have:=hlen.Ab;simp;omega)]
   clear hE
   go_wp2
   go_ret
   rw [HN.Ab]
   exact ⟨rfl,H.to⟩
 ·have HN:Hid (BF s.Ac (rows.map Rw.Ac)=Ap s.Ac):=by show _=_;unfold BF;rw [Ak hE]
  have z1:(Ap s.Ac !=0)=true:=by simpa using hE
  have z2:(Ap s.Ac==0)=false:=by simpa using hE
  clear hE
  go_wp2
  go_ret
  rw [HN.Ab]
  exact ⟨rfl,H.to⟩
theorem dZ {l r:List UInt8} {x:Int} (h:KX l=.ok (x,r)):l=CK (Gq x)++r∧AP x:=by
 unfold KX at h
 rcases LV (l:=l) with ⟨hp,hn⟩|⟨n,z,hn,hz,hlt,hp⟩
 ·rw [hp] at h;cases h
 ·rw [hp] at h
  injection h with h
  injection h with h1 h2
  subst h1
  subst h2
  have:=VM (l:=l) (by rw [hn])
  rw [hn] at this
  rw [Xo,←this.1,Ki]
  exact ⟨rfl,kP hlt⟩
theorem lF {l:List UInt8} {k:Int} (h:KX l=.error k):k=3:=by
 unfold KX at h
 rcases LV (l:=l) with ⟨hp,hn⟩|⟨n,z,hn,hz,hlt,hp⟩
 ·rw [hp] at h;injection h with h;exact h.symm
 ·rw [hp] at h;cases h
def MZ (l:List UInt8):PR (List UInt8):=match Eg 16 l with|.error k=>.error k|.ok (x,r)=>if isTerm x=true then .ok (x,r) else .error 3
def oVs (M:Nat) (o:PR (List (List UInt8))):PR (List Int):=match o with|.error k=>.error k|.ok (_,r)=>AX KX M [] r
def GL (D M:Nat) (l:List UInt8):PR RC:=match AX MZ D [] l with|.error k=>.error k|.ok (ts,r)=>(match AX KX M [] r with|.error k=>.error k|.ok (vs,r2)=>.ok (⟨ts,vs⟩,r2))
def Qt (D M:Nat) (l:List UInt8):PR (List RC):=match Et 300 l with|.error k=>.error k|.ok (n,r)=>AX (GL D M) n [] r
theorem yJ {l:List UInt8} {k:Int} (h:MZ l=.error k):k≠0:=by
 unfold MZ at h
 split at h
 ·rename_i h1;injection h with h;subst h;have:=Ol h1;omega
 ·split at h
  ·cases h
  ·injection h with h;omega
theorem yO {D M:Nat} {l:List UInt8} {k:Int} (h:GL D M l=.error k):k≠0:=by
 unfold GL at h
 split at h
 ·rename_i h1;injection h with h;subst h;exact Ju (fun l k h=>yJ h) h1
 ·split at h
  ·rename_i h1;injection h with h;subst h;exact Ju (fun l k h=>by have:=lF h;omega) h1
  ·cases h
theorem cK {D M:Nat} {l:List UInt8} {k:Int} (h:Qt D M l=.error k):k≠0:=by
 unfold Qt at h
 split at h
 ·rename_i h1;injection h with h;subst h;have:=Fh h1;omega
 ·exact Ju (fun l k h=>yO h) h
def Dn (s:SC) (l:List UInt8):List RC × Int:=
 if Ap s≠0 then ([],Ap s) else
 match Qt s.DF.length s.ms.length l with
 |.error k=>([],k)
 |.ok (rows,r)=>if r=[] then (if BF s rows=0 then (rows,0) else ([],BF s rows)) else ([],3)
theorem bQ (s:Ev) (x:Row Rw) (w:World) (hs:s.rd w) (hx:x.rd w) (hn:s.dm.n≤1000000) (hm:s.ms.n≤1000000) (hd:∀ d ∈ s.dm.l,d.tr.n≤1000000∧∀ t ∈ d.tr.l,t.up.n≤100000):
 Calls prog 6 #[.agg s.cs,.slice x.A x.n x.c] w fun e w'=>e=.returned (.int .i64 (BF s.Ac (x.l.map Rw.Ac)))∧Aj w w':=by
 have HC:=Aa (fun w' (hb:Aj w w')=>Rj s w' (hs.mono hb) hn hm (fun d hd'=>(hd d hd').1))
 have hlen:Hid (x.l.length=x.n):=hx.len
 have HX:=Aa hx
 have HR:=Aa (fun r w' (hr:Rw.rd w' r) (hb:Aj w w')=>rD s r w' (hs.mono hb) hr hn)
 have n63:=hx.n63
 have H:=Aa ((SL.start No w).alloc s.cs 25)
 (try simp only [LS] at H)
 obtain ⟨A,n,c,rows⟩:=x
 simp only at *
 have hcs:s.cs=#[.slice s.dm.A s.dm.n s.dm.c,.slice s.ms.A s.ms.n s.ms.c]:=rfl
 have wJ:=Aa hcs
 clear hs hx hd hcs
 go_enter func6,ntmps6
 rw [←wJ.Ab] at *
 go_wp2_with ((with_reducible refine OP 10 ?_);(refine Cx BL (H.blk 0 rfl) ?_))
 refine (HC _ H.to).mono ?_;rintro e w1 ⟨rfl,hb1⟩
 replace H:=Aa (H.Au hb1)
 clear hb1 HC
 by_cases hE:Ap s.Ac=0
 ·rw [hE]
  by_cases hl:n≤300
  ·have d1:decide ((300:Int)<n)=false:=by simp<;>omega
   have HB:Hid (BF s.Ac (rows.map Rw.Ac)=FN s.Ac ((rows.map Rw.Ac).drop 0)):=by show _=_;unfold BF;rw [Ah (by omega),Ah (by have:=hlen.Ab;simp;omega)];(try rfl)
   have HE:=Aa hE
   clear hE
   go_wp2_with fail
   generalize w.heap.size=x at *
   clear d1
   go_loopg [20] n (fun gg i wr=>∃ k:Nat,gg=n - k∧k≤n∧i=.int .i64 k∧Hid (SL No w wr [Av x 25 s.cs])∧Hid (BF s.Ac (rows.map Rw.Ac)=FN s.Ac ((rows.map Rw.Ac).drop k)))
   case atStart=>exact ⟨0,rfl,by omega,rfl,H,HB⟩
   case round=>
    clear H HB
    obtain ⟨k,BG,hk,rfl,H,HB⟩:=hrel
    have Cg:=Aa BG
    clear BG
    by_cases hlt:k<n
    ·obtain ⟨bb,oo,r,hA,hbb,Zo,hrr,hrg⟩:=(HX.mono H.to).jK (k:=k) hlt
     simp only at hA
     subst hA
     have hrc:(rows.map Rw.Ac)[k]?=some r.Ac:=by rw [DD,Zo];(try rfl)
     have Jf:=Aa (Rn (s:=s.Ac) hrc)
     have nL:=Aa hrg
     have HRr:=Aa hrr
     clear Zo hrr hrg hrc hbb
     go_wp2_with (first|((with_reducible refine OP 23 ?_);(refine Ae rfl JO (.tmp 22) rfl bb (oo+k * 2) rfl r.cs rfl nL.Ab ?_))|((with_reducible refine OS 7 ?_);(refine Fu JO (r.cs) (SF r) ?_;replace H:=Aa (H.alloc (r.cs) 38);(try simp only [LS] at H)))|((with_reducible refine OP 25 ?_);(refine Cx BL (H.blk 0 rfl) ?_))|((with_reducible refine OP 26 ?_);(refine Cx JO (H.blk 1 rfl) ?_)))
     have nK:=Aa (HR r _ (HRr.mono ((Aj.refl _).alloc (.cells r.cs 38))) H.to)
     cases ho:rowOf s.Ac r.Ac with
     |error e1=>
      have hE2:=SH ho
      have HN:Hid (BF s.Ac (rows.map Rw.Ac)=e1):=by show _=_;rw [HB.Ab,Jf.Ab,ho]
      rw [ho] at nK
      have z1:(e1 !=0)=true:=by simp<;>omega
      have z2:(e1==0)=false:=by simp<;>omega
      clear ho HB Jf hE2
      refine nK.mono ?_;rintro e w2 ⟨rfl,hb2⟩
      replace H:=Aa (H.Au hb2)
      clear hb2
      go_wp2
      go_ret
      rw [HN.Ab]
      exact ⟨rfl,H.to⟩
     |ok ks=>
      have HN:Hid (BF s.Ac (rows.map Rw.Ac)=FN s.Ac ((rows.map Rw.Ac).drop (k+1))):=by show _=_;rw [HB.Ab,Jf.Ab,ho]
      rw [ho] at nK
      clear ho HB Jf
      refine nK.mono ?_;rintro e w2 ⟨B,d,rfl,hb2,_⟩
      replace H:=Aa (H.Au hb2)
      replace H:=Aa (H.Gh [0] (by decide) (by simp));(try simp only [LS] at H)
      clear hb2 nK
      go_wp2
      go_roundg (n - (k+1))
      case rel=>exact ⟨k+1,rfl,by omega,by go_num,H,HN⟩
      case measure=>rw [Cg.Ab];omega
    ·have HN:Hid (BF s.Ac (rows.map Rw.Ac)=0):=by show _=_;rw [HB.Ab,EY (by have:=hlen.Ab;simp;omega)];(try rfl)
     clear HB
     go_wp2
     go_ret
     rw [HN.Ab]
     exact ⟨rfl,H.to⟩
  ·have d1:decide ((300:Int)<n)=true:=by simp<;>omega
   have HN:Hid (BF s.Ac (rows.map Rw.Ac)=5):=by show _=_;unfold BF;rw [Ah (by omega),Ak (by have:=hlen.Ab;simp;omega)]
   clear hE
   go_wp2
   go_ret
   rw [HN.Ab]
   exact ⟨rfl,H.to⟩
 ·have HN:Hid (BF s.Ac (rows.map Rw.Ac)=Ap s.Ac):=by show _=_;unfold BF;rw [Ak hE]
  have z1:(Ap s.Ac !=0)=true:=by simpa using hE
  have z2:(Ap s.Ac==0)=false:=by simpa using hE
  clear hE
  go_wp2
  go_ret
  rw [HN.Ab]
  exact ⟨rfl,H.to⟩
def V5 {α:Type} (s:List UInt8) (p:List UInt8→PR α) (t k t' k':Int) (x:α):Prop:=(k≠0∧t'=t∧k'=k)∨(k=0∧∃ tn:Nat,t=tn∧tn≤s.length∧Li s (p (s.drop tn)) t' k' x)
theorem Ur.next {α:Type} {s:List UInt8} {o:PR (List α)} {p:List UInt8→PR α} {n k:Nat} {acc:List α} {t kk t' k':Int} {x:α} (h:Ur s o p n k acc t kk) (hk:k<n) (hx:V5 s p t kk t' k' x):Ur s o p n (k+1) (acc++[x]) t' k':=by
 rcases h with ⟨h1,h2⟩|⟨h1,tn,h3,h4,h2⟩
 ·rcases hx with ⟨_,rfl,rfl⟩|⟨h,_⟩
  ·exact .inl ⟨h1,h2⟩
  ·exact absurd h h1
 ·rcases hx with ⟨h,_⟩|⟨_,tm,h5,h6,h7⟩
  ·exact absurd h1 h
  ·have:tm=tn:=by omega
   subst this
   exact Ur.step hk h2 h7
theorem Ur.st {α:Type} {s:List UInt8} {o:PR (List α)} {p:List UInt8→PR α} {n k:Nat} {acc:List α} {t kk:Int} (h:Ur s o p n k acc t kk):kk≠0∨(kk=0∧∃ tn:Nat,t=tn∧tn≤s.length):=by
 rcases h with ⟨h1,h2⟩|⟨h1,tn,h3,h4,h2⟩
 ·exact .inl h1
 ·exact .inr ⟨h1,tn,h3,h4⟩
theorem Li.GL {s:List UInt8} {D M:Nat} {l:List UInt8} {t1 k1 t2 k2:Int} {ts:List (List UInt8)} {vs:List Int} (h1:Li s (AX MZ D [] l) t1 k1 ts) (h2:Li s (oVs M (AX MZ D [] l)) t2 k2 vs):Li s (GL D M l) t2 k2 ⟨ts,vs⟩:=by
 unfold oVs at h2
 unfold Go.Proofs.YtijplolmkcdflaaGreat.GL
 cases ho:AX MZ D [] l with
 |error e=>
  rw [ho] at h2
  rcases h2 with ⟨a,b⟩|⟨_,_,_,_,b⟩
  ·simp only at b
   injection b with b
   exact .inl ⟨a,by simp only [b]⟩
  ·cases b
 |ok q=>
  obtain ⟨ts',r⟩:=q
  rw [ho] at h1 h2
  simp only at h2 ⊢
  rcases h1 with ⟨_,b⟩|⟨_,tn,_,_,b⟩
  ·cases b
  ·injection b with b
   injection b with b1 b2
   subst b1
   rcases h2 with ⟨a,b⟩|⟨a,tm,c,d,b⟩
   ·exact .inl ⟨a,by rw [b]⟩
   ·exact .inr ⟨a,tm,c,d,by rw [b]⟩
section
variable {P : Program} {w : World}
theorem KS {ops:Array Oper} {o:Oper} {a:Act} {K:Act→World→Prop} {Q:Exit→Act→World→Prop} {X:Prop} (hgd:o.guard=none) {ty:TypeId} {n:Nat} (R:DV P ty n) (x y:Operand) (ho:o.op=.store ty x y)
 (g:Nat) (hx:a.eval x=.pointer (some ⟨g,0,none⟩)) {t:TypeId} {cs:Array Value} (hb:Br w g t cs) (hn:cs.size=n) (cs':Array Value) (hn':cs'.size=n) (hy:a.eval y=.agg cs') (h1:cs'.all (·.oneCell')=true)
 (h:∀ w',Br w' g t cs'→w.grownBy w' (some g)→K (a.put o.dst undef) w'):if Region.wanted o (yielded ops a.tmps)=true then Oper.wp P o a w K Q else X:=by
 have hw:Region.wanted o (yielded ops a.tmps)=true:=by simp [Region.wanted,hgd]
 rw [Ak hw]
 refine UK ty x y ho g 0 cs' hx hy (hb.there (by omega)) (by rw [R.hi,hn']) h1 (h _ ?_ (Db w g _ _))
 have:=Br.Dp cs'.toList 0 hb
 rwa [Js cs cs' (by omega)] at this
end
structure H8 (r:Rw) (w:World):Prop where
 ts:w.ownsRow 0 9 1 (.slice r.ts.A r.ts.n r.ts.c) r.ts.n (r.ts.l.map tx)
 tl:∀ t ∈ r.ts.l,t.length≤16
 vs:w.ownsRow 0 2 1 (.slice r.vs.A r.vs.n r.vs.c) r.vs.n (r.vs.l.map (Value.int .i64))
 vl:∀ x ∈ r.vs.l,AP x
 tn:r.ts.n≤16
 vn:r.vs.n≤3
def Rw.D (r:Rw) (g:Nat):Prop:=r.ts.v.ownBlock=some g∨r.vs.v.ownBlock=some g
abbrev TJ (r:Rw):EE:=⟨r.D,H8 r⟩
theorem H8.rd {r:Rw} {w:World} (h:H8 r w):Rw.rd w r:=
 ⟨⟨by have:=Rd.Bf h.ts;rw [FQ];exact this,fun t ht=>by have:=h.tl t ht;show t.length≤_;omega,by have:=h.tn;omega⟩,⟨by have:=Rd.Bf h.vs;rw [EX];exact this,fun t ht=>h.vl t ht,by have:=h.vn;omega⟩⟩
theorem j6 {A B:Option Addr} {n c m d:Nat} {ts:List (List UInt8)} {vs:List Int} {w:World} (h1:(Cb 9 1 (.slice A n c) n (ts.map tx)).holds w) (h2:(Cb 2 1 (.slice B m d) m (vs.map (Value.int .i64))).holds w) (h3:∀ x ∈ ts,x.length≤16) (h4:∀ x ∈ vs,AP x) (h5:n≤16) (h6:m≤3):(TJ ⟨⟨A,n,c,ts⟩,⟨B,m,d,vs⟩⟩).holds w:=by
 refine ⟨?_,fun w' hs hk=>⟨h1.2 w' hs fun g hg=>hk g (.inl hg),h3,h2.2 w' hs fun g hg=>hk g (.inr hg),h4,h5,h6⟩⟩
 rintro g (hg|hg)
 ·exact h1.1 g hg
 ·exact h2.1 g hg
theorem Q8 {l r:List UInt8} {v:Int} (h:KX l=.ok (v,r)):AP v:=(dZ h).2
def Ad0 (b:Nat) (s:List UInt8) (o:PR RC) (w:World) (e:Ending) (w':World):Prop:=
 match o with
 |.error k=>Tj b s k w e w'
 |.ok (d,l)=>∃ D:Rw,e=.returned (.agg D.cs)∧D.Ac=d∧w.grownBy w' (some b)∧Gb w' b s l∧Uq w w' (TJ D)
theorem Y8 {D M:Nat} {l:List UInt8} {k:Int} (h:AX MZ D [] l=.error k):GL D M l=.error k:=by unfold GL;rw [h]
theorem Ad7 {D M:Nat} {l r:List UInt8} {ts:List (List UInt8)} (h:AX MZ D [] l=.ok (ts,r)):GL D M l=match AX KX M [] r with|.error k=>.error k|.ok (vs,r2)=>.ok (⟨ts,vs⟩,r2):=by unfold GL;rw [h]<;>rfl
theorem fQ (b:Nat) (s l:List UInt8) (d:Ev) (w:World) (hR:Gb w b s l) (hn:d.dm.n≤16) (hm:d.ms.n≤3):
 Calls prog 95 #[.pointer (some ⟨b,0,none⟩),.agg d.cs] w (Ad0 b s (GL d.dm.n d.ms.n l) w):=by
 have hbw:=hR.lt
 have H:=Aa ((((SL.O3 w hR).alloc d.cs 25).alloc #[.slice none 0 0,.slice none 0 0] 38).alloc #[.slice none 0 0,.slice none 0 0] 38)
 (try simp only [LS] at H)
 clear hR
 obtain ⟨⟨DA,n,cn,ds⟩,⟨MB,m,cm,ms⟩⟩:=d
 simp only [Ev.cs] at *
 replace H:=Aa (H.ES 9 1);(try simp only [LS] at H)
 go_enter func95,ntmps95
 have c0:=(H.blk 1 rfl).Am 0
 go_wp2_with fail
 clear c0
 generalize w.heap.size+1+1=y at *
 generalize w.heap.size+1=z at *
 generalize w.heap.size=x at *
 generalize World.alloc (World.alloc _ _) _=w1 at *
 have HP:Hid (AX MZ n [] l=AX MZ (n - 0) [] l):=rfl
 have HTL:Hid (∀ t ∈ ([]:List (List UInt8)),t.length≤16):=by show ∀ t ∈ ([]:List (List UInt8)),_;intro t ht;cases ht
 go_loopg [10] n (fun gg s10 wr=>∃ (k:Nat) (ts:List (List UInt8)) (A:Option Addr) (c:Nat) (l':List UInt8),gg=n - k∧k≤n∧s10=.int .i64 k∧Hid (ts.length=k)∧Hid (∀ t ∈ ts,t.length≤16)∧Hid (SL (One b) w wr [MW b s l',Av x 25 #[.slice DA n cn,.slice MB m cm],Av z 38 #[.slice none 0 0,.slice none 0 0],Av y 38 #[.slice A k c,.slice none 0 0],Cb 9 1 (.slice A k c) k (ts.map tx)])∧Hid (AX MZ n [] l=AX MZ (n - k) ts l'))
 case atStart=>exact ⟨0,[],none,0,l,rfl,by omega,rfl,rfl,HTL,H,HP⟩
 case round=>
  clear H HP HTL
  obtain ⟨k,ts,A,c,l',BG,hk,rfl,hac,HTL,H,HP⟩:=hrel
  have Cg:=Aa BG
  clear BG
  by_cases hlt:k<n
  ·have HN:=Aa (HP.trans (Ir hlt))
   have HT:=Aa (fun w (hr:Gb w b s l')=>KQ b s l' 16 w hr (by omega) (by omega))
   clear HP
   go_wp2_with fail
   cases hx:Eg 16 l' with
   |error e1=>
    have HE:Hid (GL n m l=.error e1):=by
     refine Y8 ?_
     rw [HN.Ab]
     unfold MZ
     rw [hx]
    rw [hx] at HT
    clear hx HN
    refine (HT _ (H.EN 0 rfl)).mono ?_;rintro e w2 ⟨rfl,hg,l3,hr⟩
    replace H:=Aa (H.BP 0 rfl hg hr);(try simp only [LS] at H)
    clear hg hr
    go_wp2_with fail
    refine ⟨rfl,?_⟩
    rw [HE.Ab]
    exact ⟨rfl,H.fr.grown,l3,H.EN 0 rfl⟩
   |ok q=>
    obtain ⟨t,l3⟩:=q
    have ht16:=(MX hx).1
    have HC:=Aa (fun w=>GX t w (by omega))
    cases hT:isTerm t with
    |false=>
     have HE:Hid (GL n m l=.error 3):=by
      refine Y8 ?_
      rw [HN.Ab]
      unfold MZ
      rw [hx]
      simp only
      rw [hT]
      rfl
     rw [hx] at HT
     rw [hT,show Mx false=2 from rfl] at HC
     clear hx HN hT
     refine (HT _ (H.EN 0 rfl)).mono ?_;rintro e w2 ⟨rfl,hg,hr⟩
     replace H:=Aa (H.BP 0 rfl hg hr);(try simp only [LS] at H)
     clear hg hr
     go_wp2_with fail
     refine (HC _).mono ?_;rintro e w3 ⟨rfl,rfl⟩
     go_wp2_with fail
     refine (Ip b s l3 3 _ (H.EN 0 rfl)).mono ?_;rintro e w6 ⟨rfl,rfl⟩
     go_wp2_with fail
     refine ⟨rfl,?_⟩
     rw [HE.Ab]
     exact ⟨rfl,H.fr.grown,_,H.EN 0 rfl⟩
    |true=>
     have Il:Hid (AX MZ n [] l=AX MZ (n - (k+1)) (ts++[t]) l3):=by
      show _=_
      rw [HN.Ab]
      unfold MZ
      rw [hx]
      simp only
      rw [hT]
      rfl
     have HTL2:Hid (∀ y ∈ ts++[t],y.length≤16):=by
      intro y hy
      rcases DT.1 hy with hy|hy
      ·exact HTL y hy
      ·rw [Dt] at hy;subst hy;omega
     rw [hx] at HT
     rw [hT,show Mx true=0 from rfl] at HC
     clear hx HN hT HTL
     refine (HT _ (H.EN 0 rfl)).mono ?_;rintro e w2 ⟨rfl,hg,hr⟩
     replace H:=Aa (H.BP 0 rfl hg hr);(try simp only [LS] at H)
     clear hg hr
     go_wp2_with fail
     refine (HC _).mono ?_;rintro e w3 ⟨rfl,rfl⟩
     go_wp2_with fail
     refine (KP b s l3 3 _ (H.EN 0 rfl)).mono ?_;rintro e w6 ⟨rfl,rfl⟩
     have c1:=(H.blk 3 rfl).Am 0
     go_wp2_with ((with_reducible refine OP 23 ?_);(replace H:=Aa (H.alloc #[.string ⟨t.toArray⟩] 9);(try simp only [LS] at H);refine BI rfl (.tmp 20) (.tmp 22) _ rfl JC 0 (Bw _) _ k _ rfl (H.row 4 rfl) _ 1 1 [.string ⟨t.toArray⟩] rfl (AQ (H.blk 5 rfl) rfl) (by simp [Value.oneCell']) (by unfold maxLen;omega) (by omega) ?_;intro vq wq AR Ay Bb;replace H:=Aa (H.setRow 4 rfl Ay AR Bb);(try simp only [LS] at H);clear AR Ay Bb;obtain ⟨A2,c2,rfl,_⟩:=Ao (H.row 4 rfl);clear c1;have c1:=(H.blk 3 rfl).Am 0;have f1:=(H.blk 3 rfl).frozen 0))
     replace H:=Aa (H.setCell 3 rfl 0 (.slice A2 (k+1) c2));(try simp only [LS] at H)
     replace H:=Aa (H.Gh [0,1,2,3,4] (by decide) (by simp));(try simp only [LS] at H)
     clear c1 f1
     go_wp2_with fail
     go_roundg (n - (k+1))
     case rel=>exact ⟨k+1,ts++[t],A2,c2,l3,rfl,by omega,by go_num,by show _=_;rw [BQ,hac.Ab];(try rfl),HTL2,by rw [BR];exact H,Il⟩
     case measure=>rw [Cg.Ab];omega
  ·obtain rfl:k=n:=by omega
   have HE:Hid (GL k m l=match AX KX m [] l' with|.error k=>.error k|.ok (vs,r2)=>.ok (⟨ts,vs⟩,r2)):=Ad7 (by rw [HP.Ab,Ql];(try rfl))
   clear HP
   replace H:=Aa (H.ES 2 1);(try simp only [LS] at H)
   have c6:=(H.blk 1 rfl).Am 1
   go_wp2_with fail
   clear c6
   obtain ⟨l1,hl1⟩:∃ l1,l1=l':=⟨_,rfl⟩
   rw [←hl1] at HE H
   have HP:Hid (AX KX m [] l1=AX KX (m - 0) [] l1):=rfl
   have HVL:Hid (∀ t ∈ ([]:List Int),AP t):=by show ∀ t ∈ ([]:List Int),_;intro t ht;cases ht
   clear hl1
   go_loopg [29] m (fun gg s29 wr=>∃ (j:Nat) (vs:List Int) (B:Option Addr) (e:Nat) (l':List UInt8),gg=m - j∧j≤m∧s29=.int .i64 j∧Hid (vs.length=j)∧Hid (∀ t ∈ vs,AP t)∧Hid (SL (One b) w wr [MW b s l',Av x 25 #[.slice DA k cn,.slice MB m cm],Av z 38 #[.slice none 0 0,.slice none 0 0],Av y 38 #[.slice A k c,.slice B j e],Cb 9 1 (.slice A k c) k (ts.map tx),Cb 2 1 (.slice B j e) j (vs.map (Value.int .i64))])∧Hid (AX KX m [] l1=AX KX (m - j) vs l'))
   case atStart=>exact ⟨0,[],none,0,l1,rfl,by omega,rfl,rfl,HVL,H,HP⟩
   case round=>
    clear H HP HVL
    obtain ⟨j,vs,B,e,l',hgj,hj,rfl,hmc,HVL,H,HP⟩:=hrel
    have Kv:=Aa hgj
    clear hgj
    by_cases hlt2:j<m
    ·have HN:=Aa (HP.trans (Ir hlt2))
     have HA:=Aa (fun w (hr:Gb w b s l')=>Q9 b s l' w hr)
     clear HP
     go_upto_region 10 with fail
     cases hx:KX l' with
     |error e1=>
      rw [hx] at HA HN
      clear hx
      refine EG (S:=fun _=>True) (by kernel_rfl) trivial fun hHeld=>?_
      replace H:=Aa (H.drew)
      refine BJ NG ?_
      refine BJ NW ?_
      refine NV KG KF (fun KK Ad=>?_) fun KK Ad=>?_
      ·have c1:=(H.blk 3 rfl).Am 1
       go_simp
       clear c1
       refine Ai Ad trivial fun hHeld=>?_
       clear Ad KK
       refine BD KF fun KK Ad=>?_
       go_simp
       refine (HA _ (H.EN 0 rfl)).mono ?_;rintro e' w3 ⟨rfl,hg3,l3,hr3⟩
       replace H:=Aa (H.BP 0 rfl hg3 hr3);(try simp only [LS] at H)
       refine ⟨rfl,?_⟩
       rw [HE.Ab,show AX KX m [] l1=.error e1 from HN.Ab]
       exact ⟨rfl,H.fr.grown,l3,H.EN 0 rfl⟩
      ·go_simp
       refine (HA _ (H.EN 0 rfl)).mono ?_;rintro e' w3 ⟨rfl,hg3,l3,hr3⟩
       replace H:=Aa (H.BP 0 rfl hg3 hr3);(try simp only [LS] at H)
       refine ⟨rfl,?_⟩
       rw [HE.Ab,show AX KX m [] l1=.error e1 from HN.Ab]
       exact ⟨rfl,H.fr.grown,l3,H.EN 0 rfl⟩
     |ok q=>
      obtain ⟨v,l3⟩:=q
      have hv:=Q8 hx
      have HVL2:Hid (∀ y ∈ vs++[v],AP y):=by
       intro y hy
       rcases DT.1 hy with hy|hy
       ·exact HVL y hy
       ·rw [Dt] at hy;subst hy;exact hv
      rw [hx] at HA HN
      have HN:Hid (AX KX m [] l1=AX KX (m - (j+1)) (vs++[v]) l3):=HN.Ab
      clear hx hv
      refine EG (S:=fun _=>True) (by kernel_rfl) trivial fun hHeld=>?_
      replace H:=Aa (H.drew)
      refine BJ NG ?_
      refine BJ NW ?_
      refine NV KG KF (fun KK Ad=>?_) fun KK Ad=>?_
      ·have c1:=(H.blk 3 rfl).Am 1
       go_simp
       clear c1
       refine Ai Ad trivial fun hHeld=>?_
       clear Ad KK
       refine BD KF fun KK Ad=>?_
       go_simp
       refine (HA _ (H.EN 0 rfl)).mono ?_;rintro e' w3 ⟨rfl,hg3,hr3⟩
       replace H:=Aa (H.BP 0 rfl hg3 hr3);(try simp only [LS] at H)
       clear hg3 hr3
       refine Ai Ad trivial fun hHeld=>?_
       clear Ad KK
       refine BD Mr fun KK Ad=>?_
       refine Bu rfl WW (.tmp 34) rfl (.int .i64 v) rfl #[.int .i64 v] rfl rfl (by omega) ?_
       replace H:=Aa (H.alloc #[.int .i64 v] 2);(try simp only [LS] at H)
       refine Ai Ad trivial fun hHeld=>?_
       clear Ad KK
       refine BD Lv fun KK Ad=>?_
       refine Aw rfl (.tmp 32) (.tmp 35) _ rfl WW 0 (Bw _) _ j _ rfl (H.row 5 rfl) _ 1 1 _ rfl (AQ (H.blk 6 rfl) rfl) (by simp [Value.oneCell']) (by unfold maxLen;omega) (by omega) ?_
       intro vq wq AR Ay Bb
       replace H:=Aa (H.setRow 5 rfl Ay AR Bb);(try simp only [LS] at H)
       clear AR Ay Bb
       obtain ⟨B2,d2,rfl,_⟩:=Ao (H.row 5 rfl)
       refine Ai Ad trivial fun hHeld=>?_
       clear Ad KK
       refine BD Mq fun KK Ad=>?_
       go_simp
       refine Ai Ad trivial fun hHeld=>?_
       clear Ad KK
       refine BD LX fun KK Ad=>?_
       have c1:=(H.blk 3 rfl).Am 1;have f1:=(H.blk 3 rfl).frozen 1
       go_simp
       replace H:=Aa (H.setCell 3 rfl 1 (.slice B2 (j+1) d2));(try simp only [LS] at H)
       clear c1 f1
       refine Ai Ad trivial fun hHeld=>?_
       clear Ad KK
       refine BX ?_
       clear hHeld
       replace H:=Aa (H.Gh [0,1,2,3,4,5] (by decide) (by simp));(try simp only [LS] at H)
       go_wp2_with fail
       go_roundg (m - (j+1))
       case rel=>exact ⟨j+1,vs++[v],B2,d2,l3,rfl,by omega,by go_num,by show _=_;rw [BQ,hmc.Ab];(try rfl),HVL2,by rw [BR];exact H,HN⟩
       case measure=>rw [Kv.Ab];omega
      ·go_simp
       refine (HA _ (H.EN 0 rfl)).mono ?_;rintro e' w3 ⟨rfl,hg3,hr3⟩
       replace H:=Aa (H.BP 0 rfl hg3 hr3);(try simp only [LS] at H)
       clear hg3 hr3
       refine Ai Ad trivial fun hHeld=>?_
       clear Ad KK
       refine NV KG Mr (fun KK Ad=>?_) fun KK Ad=>?_
       ·have c1:=(H.blk 3 rfl).Am 1
        go_simp
        clear c1
        refine Ai Ad trivial fun hHeld=>?_
        clear Ad KK
        refine BD Mr fun KK Ad=>?_
        refine Bu rfl WW (.tmp 34) rfl (.int .i64 v) rfl #[.int .i64 v] rfl rfl (by omega) ?_
        replace H:=Aa (H.alloc #[.int .i64 v] 2);(try simp only [LS] at H)
        refine Ai Ad trivial fun hHeld=>?_
        clear Ad KK
        refine BD Lv fun KK Ad=>?_
        refine Aw rfl (.tmp 32) (.tmp 35) _ rfl WW 0 (Bw _) _ j _ rfl (H.row 5 rfl) _ 1 1 _ rfl (AQ (H.blk 6 rfl) rfl) (by simp [Value.oneCell']) (by unfold maxLen;omega) (by omega) ?_
        intro vq wq AR Ay Bb
        replace H:=Aa (H.setRow 5 rfl Ay AR Bb);(try simp only [LS] at H)
        clear AR Ay Bb
        obtain ⟨B2,d2,rfl,_⟩:=Ao (H.row 5 rfl)
        refine Ai Ad trivial fun hHeld=>?_
        clear Ad KK
        refine BD Mq fun KK Ad=>?_
        go_simp
        refine Ai Ad trivial fun hHeld=>?_
        clear Ad KK
        refine BD LX fun KK Ad=>?_
        have c1:=(H.blk 3 rfl).Am 1;have f1:=(H.blk 3 rfl).frozen 1
        go_simp
        replace H:=Aa (H.setCell 3 rfl 1 (.slice B2 (j+1) d2));(try simp only [LS] at H)
        clear c1 f1
        refine Ai Ad trivial fun hHeld=>?_
        clear Ad KK
        refine BX ?_
        clear hHeld
        replace H:=Aa (H.Gh [0,1,2,3,4,5] (by decide) (by simp));(try simp only [LS] at H)
        go_wp2_with fail
        go_roundg (m - (j+1))
        case rel=>exact ⟨j+1,vs++[v],B2,d2,l3,rfl,by omega,by go_num,by show _=_;rw [BQ,hmc.Ab];(try rfl),HVL2,by rw [BR];exact H,HN⟩
        case measure=>rw [Kv.Ab];omega
       ·refine Bu rfl WW (.tmp 34) rfl (.int .i64 v) rfl #[.int .i64 v] rfl rfl (by omega) ?_
        replace H:=Aa (H.alloc #[.int .i64 v] 2);(try simp only [LS] at H)
        refine Ai Ad trivial fun hHeld=>?_
        clear Ad KK
        refine BD KG fun KK Ad=>?_
        have c1:=(H.blk 3 rfl).Am 1
        go_simp
        clear c1
        refine Ai Ad trivial fun hHeld=>?_
        clear Ad KK
        refine BD Lv fun KK Ad=>?_
        refine Aw rfl (.tmp 32) (.tmp 35) _ rfl WW 0 (Bw _) _ j _ rfl (H.row 5 rfl) _ 1 1 _ rfl (AQ (H.blk 6 rfl) rfl) (by simp [Value.oneCell']) (by unfold maxLen;omega) (by omega) ?_
        intro vq wq AR Ay Bb
        replace H:=Aa (H.setRow 5 rfl Ay AR Bb);(try simp only [LS] at H)
        clear AR Ay Bb
        obtain ⟨B2,d2,rfl,_⟩:=Ao (H.row 5 rfl)
        refine Ai Ad trivial fun hHeld=>?_
        clear Ad KK
        refine BD Mq fun KK Ad=>?_
        go_simp
        refine Ai Ad trivial fun hHeld=>?_
        clear Ad KK
        refine BD LX fun KK Ad=>?_
        have c1:=(H.blk 3 rfl).Am 1;have f1:=(H.blk 3 rfl).frozen 1
        go_simp
        replace H:=Aa (H.setCell 3 rfl 1 (.slice B2 (j+1) d2));(try simp only [LS] at H)
        clear c1 f1
        refine Ai Ad trivial fun hHeld=>?_
        clear Ad KK
        refine BX ?_
        clear hHeld
        replace H:=Aa (H.Gh [0,1,2,3,4,5] (by decide) (by simp));(try simp only [LS] at H)
        go_wp2_with fail
        go_roundg (m - (j+1))
        case rel=>exact ⟨j+1,vs++[v],B2,d2,l3,rfl,by omega,by go_num,by show _=_;rw [BQ,hmc.Ab];(try rfl),HVL2,by rw [BR];exact H,HN⟩
        case measure=>rw [Kv.Ab];omega
    ·have HN:Hid (GL k m l=.ok (⟨ts,vs⟩,l')):=by show _=_;rw [HE.Ab,HP.Ab,show m - j=0 by omega];(try rfl)
     clear HP HE
     replace H:=Aa (H.both 4 5 (by omega) rfl rfl (TJ ⟨⟨A,k,c,ts⟩,⟨B,j,e,vs⟩⟩) (j6 (H.get 4 rfl) (H.get 5 rfl) HTL HVL hn (by omega)) (fun g hg=>hg));(try simp only [LS] at H)
     obtain ⟨D,hD⟩:∃ D:Rw,D=⟨⟨A,k,c,ts⟩,⟨B,j,e,vs⟩⟩:=⟨_,rfl⟩
     have hDs:D.cs=#[.slice A k c,.slice B j e]:=by rw [hD]
     have Gg:D.Ac=⟨ts,vs⟩:=by rw [hD]
     rw [←hD,←hDs] at H
     rw [←Gg] at HN
     clear hD hDs Gg
     go_wp2_with (first|((with_reducible refine OP 39 ?_);(refine Cx JO (H.blk 3 rfl) ?_))|((with_reducible refine OS 4 ?_);(refine Ec JO H 2 rfl (D.cs) (SF D) ?_;clear H;intro wq H;(try simp only [LS] at H))))
     refine Ce (Aq rfl JO rfl (H.blk 2 rfl) rfl) rfl ?_
     rw [HN.Ab]
     exact ⟨D,rfl,rfl,H.fr.grown,H.EN 0 rfl,H.get 4 rfl,H.RB 4 0 (by omega) rfl rfl rfl⟩
theorem Uw (D:Rw):∀ u ∈ ([.slice D.ts.A D.ts.n D.ts.c,.slice D.vs.A D.vs.n D.vs.c]:List Value),u.oneCell'=true:=by simp [Value.oneCell']
def Rbat (w0:World) (s:List UInt8) (B g z:Nat) (d:Ev) (o:PR (List RC)) (k:Int) (w':World):Prop:=
 k=Zx o∧∃ (X:Row Rw) (q:List UInt8),SL No w0 w' (IZ B s q [Av g 26 #[.slice X.A X.n X.c],Cb 38 2 (.slice X.A X.n X.c) X.n (X.l.flatMap Ar.cells),BK TJ X.l,Av z 25 d.cs])∧X.n≤300∧∀ rows r,o=.ok (rows,r)→X.l.map Rw.Ac=rows
theorem ZG (w0:World) (B g z:Nat) (s:List UInt8) (d:Ev) (w:World) (hn:d.dm.n≤16) (hm:d.ms.n≤3) (h:SL No w0 w (IZ B s s [Av g 26 #[.slice none 0 0],Cb 38 2 (.slice none 0 0) 0 (([]:List Rw).flatMap Ar.cells),BK TJ ([]:List Rw),Av z 25 d.cs])):
 Calls prog 93 #[.pointer (some ⟨B+1,0,none⟩),.pointer (some ⟨g,0,none⟩),.pointer (some ⟨z,0,none⟩)] w (LH B s (Rbat w0 s B g z d (Qt d.dm.n d.ms.n s))):=by
 have HT:=Aa (fun w (hr:Gb w (B+1) s s)=>Gp (B+1) s s 300 w hr (by omega) (by omega))
 have H:Hid (SL No w0 w [MW (B+1) s s,Av B 45 #[.int .i64 0],Av (B+2) 166 #[.pointer (some ⟨B+1,0,none⟩)],Av g 26 #[.slice none 0 0],Cb 38 2 (.slice none 0 0) 0 (([]:List Rw).flatMap Ar.cells),BK TJ ([]:List Rw),Av z 25 d.cs]):=h
 clear h
 go_enter func93,ntmps93
 go_wp2_with fail
 cases hx:Et 300 s with
 |error k=>
  have HE:Hid (Qt d.dm.n d.ms.n s=.error k):=by show _=_;unfold Qt;rw [hx]
  rw [hx] at HT
  clear hx
  refine (HT _ (H.EN 0 rfl)).mono ?_;rintro e w2 ⟨rfl,hg,l1,hr⟩
  replace H:=Aa (H.BP 0 rfl hg hr);(try simp only [LS] at H)
  clear hg hr
  go_wp2_with fail
  refine ⟨rfl,?_⟩
  have H9:SL No w0 _ (IZ B s l1 [Av g 26 #[.slice none 0 0],Cb 38 2 (.slice none 0 0) 0 (([]:List Rw).flatMap Ar.cells),BK TJ ([]:List Rw),Av z 25 d.cs]):=H.Ab
  exact SL.err H9 ⟨by rw [HE.Ab];(try rfl),⟨none,0,0,[]⟩,l1,H9,Bw _,fun _ _ h=>by rw [HE.Ab] at h;cases h⟩
 |ok q=>
  obtain ⟨n,l1⟩:=q
  have Ae1:=(Ex hx).2.1
  have HE:Hid (Qt d.dm.n d.ms.n s=AX (GL d.dm.n d.ms.n) n [] l1):=by show _=_;unfold Qt;rw [hx]
  rw [hx] at HT
  clear hx
  refine (HT _ (H.EN 0 rfl)).mono ?_;rintro e w2 ⟨rfl,hg,hr⟩
  replace H:=Aa (H.BP 0 rfl hg hr);(try simp only [LS] at H)
  clear hg hr HT
  go_wp2_with fail
  have HP:Hid (AX (GL d.dm.n d.ms.n) n [] l1=AX (GL d.dm.n d.ms.n) (n - 0) (([]:List Rw).map Rw.Ac) l1):=rfl
  go_loopg [6] n (fun gg s6 wr=>∃ (k:Nat) (rows:List Rw) (A:Option Addr) (c:Nat) (l':List UInt8),gg=n - k∧k≤n∧s6=.int .i64 k∧Hid (rows.length=k)∧Hid (SL No w0 wr [MW (B+1) s l',Av B 45 #[.int .i64 0],Av (B+2) 166 #[.pointer (some ⟨B+1,0,none⟩)],Av g 26 #[.slice A k c],Cb 38 2 (.slice A k c) k (rows.flatMap Ar.cells),BK TJ rows,Av z 25 d.cs])∧Hid (AX (GL d.dm.n d.ms.n) n [] l1=AX (GL d.dm.n d.ms.n) (n - k) (rows.map Rw.Ac) l'))
  case atStart=>exact ⟨0,[],none,0,l1,rfl,by omega,rfl,rfl,H,HP⟩
  case round=>
   clear H HP
   obtain ⟨k,rows,A,c,l',BG,hk,rfl,hac,H,HP⟩:=hrel
   have Cg:=Aa BG
   have hk300:k≤300:=by omega
   clear BG
   by_cases hlt:k<n
   ·have HN:=Aa (HP.trans (Ir hlt))
    have HA:=Aa (fun w (hr:Gb w (B+1) s l')=>fQ (B+1) s l' d w hr hn hm)
    clear HP
    go_upto_region 2 with fail
    cases hx:GL d.dm.n d.ms.n l' with
    |error e1=>
     rw [hx] at HA HN
     clear hx
     refine EG (S:=fun _=>True) (by kernel_rfl) trivial fun hHeld=>?_
     replace H:=Aa (H.drew)
     refine BJ KG ?_
     refine NV NG NW (fun KK Ad=>?_) fun KK Ad=>?_
     ·have c1:=(H.blk 3 rfl).Am 0
      go_simp
      clear c1
      refine Ai Ad trivial fun hHeld=>?_
      clear Ad KK
      refine BD NW fun KK Ad=>?_
      refine JD rfl BL (.tmp 2) rfl _ rfl (H.blk 6 rfl) rfl ?_
      refine Ai Ad trivial fun hHeld=>?_
      clear Ad KK
      refine BD KF fun KK Ad=>?_
      go_simp
      refine (HA _ (H.EN 0 rfl)).mono ?_;rintro e' w3 ⟨rfl,hg3,l3,hr3⟩
      replace H:=Aa (H.BP 0 rfl hg3 hr3);(try simp only [LS] at H)
      refine ⟨rfl,?_⟩
      have H9:SL No w0 _ (IZ B s l3 [Av g 26 #[.slice A k c],Cb 38 2 (.slice A k c) k (rows.flatMap Ar.cells),BK TJ rows,Av z 25 d.cs]):=H.Ab
      exact SL.err H9 ⟨by rw [HE.Ab];exact HN.Ab ▸ rfl,⟨A,k,c,rows⟩,l3,H9,by show k≤300;omega,fun _ _ h=>by rw [HE.Ab,HN.Ab] at h;cases h⟩
     ·refine JD rfl BL (.tmp 2) rfl _ rfl (H.blk 6 rfl) rfl ?_
      refine Ai Ad trivial fun hHeld=>?_
      clear Ad KK
      refine NV NG KF (fun KK Ad=>?_) fun KK Ad=>?_
      ·have c1:=(H.blk 3 rfl).Am 0
       go_simp
       clear c1
       refine Ai Ad trivial fun hHeld=>?_
       clear Ad KK
       refine BD KF fun KK Ad=>?_
       go_simp
       refine (HA _ (H.EN 0 rfl)).mono ?_;rintro e' w3 ⟨rfl,hg3,l3,hr3⟩
       replace H:=Aa (H.BP 0 rfl hg3 hr3);(try simp only [LS] at H)
       refine ⟨rfl,?_⟩
       have H9:SL No w0 _ (IZ B s l3 [Av g 26 #[.slice A k c],Cb 38 2 (.slice A k c) k (rows.flatMap Ar.cells),BK TJ rows,Av z 25 d.cs]):=H.Ab
       exact SL.err H9 ⟨by rw [HE.Ab];exact HN.Ab ▸ rfl,⟨A,k,c,rows⟩,l3,H9,by show k≤300;omega,fun _ _ h=>by rw [HE.Ab,HN.Ab] at h;cases h⟩
      ·go_simp
       refine (HA _ (H.EN 0 rfl)).mono ?_;rintro e' w3 ⟨rfl,hg3,l3,hr3⟩
       replace H:=Aa (H.BP 0 rfl hg3 hr3);(try simp only [LS] at H)
       refine ⟨rfl,?_⟩
       have H9:SL No w0 _ (IZ B s l3 [Av g 26 #[.slice A k c],Cb 38 2 (.slice A k c) k (rows.flatMap Ar.cells),BK TJ rows,Av z 25 d.cs]):=H.Ab
       exact SL.err H9 ⟨by rw [HE.Ab];exact HN.Ab ▸ rfl,⟨A,k,c,rows⟩,l3,H9,by show k≤300;omega,fun _ _ h=>by rw [HE.Ab,HN.Ab] at h;cases h⟩
    |ok q=>
     obtain ⟨rc,l3⟩:=q
     rw [hx] at HA HN
     have HN:Hid (AX (GL d.dm.n d.ms.n) n [] l1=AX (GL d.dm.n d.ms.n) (n - (k+1)) (rows.map Rw.Ac++[rc]) l3):=HN.Ab
     clear hx
     refine EG (S:=fun _=>True) (by kernel_rfl) trivial fun hHeld=>?_
     replace H:=Aa (H.drew)
     refine BJ KG ?_
     refine NV NG NW (fun KK Ad=>?_) fun KK Ad=>?_
     ·have c1:=(H.blk 3 rfl).Am 0
      go_simp
      clear c1
      refine Ai Ad trivial fun hHeld=>?_
      clear Ad KK
      refine BD NW fun KK Ad=>?_
      refine JD rfl BL (.tmp 2) rfl _ rfl (H.blk 6 rfl) rfl ?_
      refine Ai Ad trivial fun hHeld=>?_
      clear Ad KK
      refine BD KF fun KK Ad=>?_
      go_simp
      refine (HA _ (H.EN 0 rfl)).mono ?_;rintro e' w3 ⟨D,rfl,Gg,hg3,hr3,hnew⟩
      replace H:=Aa (H.Gc 0 rfl hg3 hr3 (TJ D) hnew.1 hnew.2);(try simp only [LS] at H)
      have NY:=Aa Gg
      clear hg3 hr3 hnew Gg
      refine Ai Ad trivial fun hHeld=>?_
      clear Ad KK
      refine BD Mr fun KK Ad=>?_
      refine Bc rfl XB (.tmp 11) rfl (D.cs) rfl rfl (by omega) ?_
      replace H:=Aa (H.CJ ((Aj.refl _).alloc _) (Dc _ 38 (D.cs) _ rfl));(try simp only [LS] at H)
      refine Ai Ad trivial fun hHeld=>?_
      clear Ad KK
      refine BD Lv fun KK Ad=>?_
      refine Aw rfl (.tmp 8) (.tmp 12) _ rfl XB 0 (Bw _) _ k _ rfl (H.row 4 rfl) _ 1 1 _ rfl (Rd.Bf (H.row 8 rfl)) (Uw D) (by unfold maxLen;omega) (by omega) ?_
      intro vq wq AR Ay Bb
      replace H:=Aa (H.setRow 4 rfl Ay AR Bb);(try simp only [LS] at H)
      clear AR Ay Bb
      obtain ⟨A2,c2,rfl,_⟩:=Ao (H.row 4 rfl)
      refine Ai Ad trivial fun hHeld=>?_
      clear Ad KK
      refine BD Mq fun KK Ad=>?_
      have c1:=(H.blk 3 rfl).Am 0;have f1:=(H.blk 3 rfl).frozen 0
      go_simp
      replace H:=Aa (H.setCell 3 rfl 0 (.slice A2 (k+1) c2));(try simp only [LS] at H)
      clear c1 f1
      refine Ai Ad trivial fun hHeld=>?_
      clear Ad KK
      refine BX ?_
      clear hHeld
      replace H:=Aa (H.both 5 7 (by omega) rfl rfl (BK TJ (rows++[D])) (Bq (H.get 5 rfl) (H.get 7 rfl)) Co);(try simp only [LS] at H)
      replace H:=Aa (H.Gh [0,1,2,3,4,5,6] (by decide) (by simp));(try simp only [LS] at H)
      have Il:Hid (AX (GL d.dm.n d.ms.n) n [] l1=AX (GL d.dm.n d.ms.n) (n - (k+1)) ((rows++[D]).map Rw.Ac) l3):=by show _=_;rw [HN.Ab,BR,DI,EF,NY.Ab]
      go_wp2_with fail
      go_roundg (n - (k+1))
      case rel=>exact ⟨k+1,rows++[D],A2,c2,l3,rfl,by omega,by go_num,by show _=_;rw [BQ,hac.Ab];(try rfl),by rw [FD,CY,IM,EZ];exact H,Il⟩
      case measure=>rw [Cg.Ab];omega
     ·refine JD rfl BL (.tmp 2) rfl _ rfl (H.blk 6 rfl) rfl ?_
      refine Ai Ad trivial fun hHeld=>?_
      clear Ad KK
      refine NV NG KF (fun KK Ad=>?_) fun KK Ad=>?_
      ·have c1:=(H.blk 3 rfl).Am 0
       go_simp
       clear c1
       refine Ai Ad trivial fun hHeld=>?_
       clear Ad KK
       refine BD KF fun KK Ad=>?_
       go_simp
       refine (HA _ (H.EN 0 rfl)).mono ?_;rintro e' w3 ⟨D,rfl,Gg,hg3,hr3,hnew⟩
       replace H:=Aa (H.Gc 0 rfl hg3 hr3 (TJ D) hnew.1 hnew.2);(try simp only [LS] at H)
       have NY:=Aa Gg
       clear hg3 hr3 hnew Gg
       refine Ai Ad trivial fun hHeld=>?_
       clear Ad KK
       refine BD Mr fun KK Ad=>?_
       refine Bc rfl XB (.tmp 11) rfl (D.cs) rfl rfl (by omega) ?_
       replace H:=Aa (H.CJ ((Aj.refl _).alloc _) (Dc _ 38 (D.cs) _ rfl));(try simp only [LS] at H)
       refine Ai Ad trivial fun hHeld=>?_
       clear Ad KK
       refine BD Lv fun KK Ad=>?_
       refine Aw rfl (.tmp 8) (.tmp 12) _ rfl XB 0 (Bw _) _ k _ rfl (H.row 4 rfl) _ 1 1 _ rfl (Rd.Bf (H.row 8 rfl)) (Uw D) (by unfold maxLen;omega) (by omega) ?_
       intro vq wq AR Ay Bb
       replace H:=Aa (H.setRow 4 rfl Ay AR Bb);(try simp only [LS] at H)
       clear AR Ay Bb
       obtain ⟨A2,c2,rfl,_⟩:=Ao (H.row 4 rfl)
       refine Ai Ad trivial fun hHeld=>?_
       clear Ad KK
       refine BD Mq fun KK Ad=>?_
       have c1:=(H.blk 3 rfl).Am 0;have f1:=(H.blk 3 rfl).frozen 0
       go_simp
       replace H:=Aa (H.setCell 3 rfl 0 (.slice A2 (k+1) c2));(try simp only [LS] at H)
       clear c1 f1
       refine Ai Ad trivial fun hHeld=>?_
       clear Ad KK
       refine BX ?_
       clear hHeld
       replace H:=Aa (H.both 5 7 (by omega) rfl rfl (BK TJ (rows++[D])) (Bq (H.get 5 rfl) (H.get 7 rfl)) Co);(try simp only [LS] at H)
       replace H:=Aa (H.Gh [0,1,2,3,4,5,6] (by decide) (by simp));(try simp only [LS] at H)
       have Il:Hid (AX (GL d.dm.n d.ms.n) n [] l1=AX (GL d.dm.n d.ms.n) (n - (k+1)) ((rows++[D]).map Rw.Ac) l3):=by show _=_;rw [HN.Ab,BR,DI,EF,NY.Ab]
       go_wp2_with fail
       go_roundg (n - (k+1))
       case rel=>exact ⟨k+1,rows++[D],A2,c2,l3,rfl,by omega,by go_num,by show _=_;rw [BQ,hac.Ab];(try rfl),by rw [FD,CY,IM,EZ];exact H,Il⟩
       case measure=>rw [Cg.Ab];omega
      ·go_simp
       refine (HA _ (H.EN 0 rfl)).mono ?_;rintro e' w3 ⟨D,rfl,Gg,hg3,hr3,hnew⟩
       replace H:=Aa (H.Gc 0 rfl hg3 hr3 (TJ D) hnew.1 hnew.2);(try simp only [LS] at H)
       have NY:=Aa Gg
       clear hg3 hr3 hnew Gg
       refine Ai Ad trivial fun hHeld=>?_
       clear Ad KK
       refine NV NG Mr (fun KK Ad=>?_) fun KK Ad=>?_
       ·have c1:=(H.blk 3 rfl).Am 0
        go_simp
        clear c1
        refine Ai Ad trivial fun hHeld=>?_
        clear Ad KK
        refine BD Mr fun KK Ad=>?_
        refine Bc rfl XB (.tmp 11) rfl (D.cs) rfl rfl (by omega) ?_
        replace H:=Aa (H.CJ ((Aj.refl _).alloc _) (Dc _ 38 (D.cs) _ rfl));(try simp only [LS] at H)
        refine Ai Ad trivial fun hHeld=>?_
        clear Ad KK
        refine BD Lv fun KK Ad=>?_
        refine Aw rfl (.tmp 8) (.tmp 12) _ rfl XB 0 (Bw _) _ k _ rfl (H.row 4 rfl) _ 1 1 _ rfl (Rd.Bf (H.row 8 rfl)) (Uw D) (by unfold maxLen;omega) (by omega) ?_
        intro vq wq AR Ay Bb
        replace H:=Aa (H.setRow 4 rfl Ay AR Bb);(try simp only [LS] at H)
        clear AR Ay Bb
        obtain ⟨A2,c2,rfl,_⟩:=Ao (H.row 4 rfl)
        refine Ai Ad trivial fun hHeld=>?_
        clear Ad KK
        refine BD Mq fun KK Ad=>?_
        have c1:=(H.blk 3 rfl).Am 0;have f1:=(H.blk 3 rfl).frozen 0
        go_simp
        replace H:=Aa (H.setCell 3 rfl 0 (.slice A2 (k+1) c2));(try simp only [LS] at H)
        clear c1 f1
        refine Ai Ad trivial fun hHeld=>?_
        clear Ad KK
        refine BX ?_
        clear hHeld
        replace H:=Aa (H.both 5 7 (by omega) rfl rfl (BK TJ (rows++[D])) (Bq (H.get 5 rfl) (H.get 7 rfl)) Co);(try simp only [LS] at H)
        replace H:=Aa (H.Gh [0,1,2,3,4,5,6] (by decide) (by simp));(try simp only [LS] at H)
        have Il:Hid (AX (GL d.dm.n d.ms.n) n [] l1=AX (GL d.dm.n d.ms.n) (n - (k+1)) ((rows++[D]).map Rw.Ac) l3):=by show _=_;rw [HN.Ab,BR,DI,EF,NY.Ab]
        go_wp2_with fail
        go_roundg (n - (k+1))
        case rel=>exact ⟨k+1,rows++[D],A2,c2,l3,rfl,by omega,by go_num,by show _=_;rw [BQ,hac.Ab];(try rfl),by rw [FD,CY,IM,EZ];exact H,Il⟩
        case measure=>rw [Cg.Ab];omega
       ·refine Bc rfl XB (.tmp 11) rfl (D.cs) rfl rfl (by omega) ?_
        replace H:=Aa (H.CJ ((Aj.refl _).alloc _) (Dc _ 38 (D.cs) _ rfl));(try simp only [LS] at H)
        refine Ai Ad trivial fun hHeld=>?_
        clear Ad KK
        refine BD NG fun KK Ad=>?_
        have c1:=(H.blk 3 rfl).Am 0
        go_simp
        clear c1
        refine Ai Ad trivial fun hHeld=>?_
        clear Ad KK
        refine BD Lv fun KK Ad=>?_
        refine Aw rfl (.tmp 8) (.tmp 12) _ rfl XB 0 (Bw _) _ k _ rfl (H.row 4 rfl) _ 1 1 _ rfl (Rd.Bf (H.row 8 rfl)) (Uw D) (by unfold maxLen;omega) (by omega) ?_
        intro vq wq AR Ay Bb
        replace H:=Aa (H.setRow 4 rfl Ay AR Bb);(try simp only [LS] at H)
        clear AR Ay Bb
        obtain ⟨A2,c2,rfl,_⟩:=Ao (H.row 4 rfl)
        refine Ai Ad trivial fun hHeld=>?_
        clear Ad KK
        refine BD Mq fun KK Ad=>?_
        have c1:=(H.blk 3 rfl).Am 0;have f1:=(H.blk 3 rfl).frozen 0
        go_simp
        replace H:=Aa (H.setCell 3 rfl 0 (.slice A2 (k+1) c2));(try simp only [LS] at H)
        clear c1 f1
        refine Ai Ad trivial fun hHeld=>?_
        clear Ad KK
        refine BX ?_
        clear hHeld
        replace H:=Aa (H.both 5 7 (by omega) rfl rfl (BK TJ (rows++[D])) (Bq (H.get 5 rfl) (H.get 7 rfl)) Co);(try simp only [LS] at H)
        replace H:=Aa (H.Gh [0,1,2,3,4,5,6] (by decide) (by simp));(try simp only [LS] at H)
        have Il:Hid (AX (GL d.dm.n d.ms.n) n [] l1=AX (GL d.dm.n d.ms.n) (n - (k+1)) ((rows++[D]).map Rw.Ac) l3):=by show _=_;rw [HN.Ab,BR,DI,EF,NY.Ab]
        go_wp2_with fail
        go_roundg (n - (k+1))
        case rel=>exact ⟨k+1,rows++[D],A2,c2,l3,rfl,by omega,by go_num,by show _=_;rw [BQ,hac.Ab];(try rfl),by rw [FD,CY,IM,EZ];exact H,Il⟩
        case measure=>rw [Cg.Ab];omega
   ·have HN:Hid (Qt d.dm.n d.ms.n s=.ok (rows.map Rw.Ac,l')):=by show _=_;rw [HE.Ab,HP.Ab,show n - k=0 by omega];(try rfl)
    clear HP HE
    go_wp2_with fail
    go_end0
    have H9:SL No w0 _ (IZ B s l' [Av g 26 #[.slice A k c],Cb 38 2 (.slice A k c) k (rows.flatMap Ar.cells),BK TJ rows,Av z 25 d.cs]):=H.Ab
    exact SL.ok H9 ⟨by rw [HN.Ab];(try rfl),⟨A,k,c,rows⟩,l',H9,by show k≤300;omega,fun rs r h=>by rw [HN.Ab] at h;injection h with h;injection h with h _⟩
abbrev jV (X:Row Rw):EE:=⟨fun g=>(Cb 38 2 (.slice X.A X.n X.c) X.n (X.l.flatMap Ar.cells)).D g∨(BK TJ X.l).D g,fun w=>X.rd w∧X.n≤300⟩
theorem Ym {X:Row Rw} {w:World} (h1:(Cb 38 2 (.slice X.A X.n X.c) X.n (X.l.flatMap Ar.cells)).holds w) (h2:(BK TJ X.l).holds w) (h3:X.n≤300):(jV X).holds w:=
 ⟨fun g hg=>hg.elim (h1.1 g) (h2.1 g),fun w' hs hk=>⟨⟨Rd.Bf (h1.2 w' hs fun g hg=>hk g (.inl hg)),fun r hr=>(h2.2 w' hs (fun g hg=>hk g (.inr hg)) r hr).rd,by omega⟩,h3⟩⟩
theorem JH (w:World):(jV ⟨none,0,0,[]⟩).holds w:=Ym (Gf (QW w 0 _ _)) (Df _ w) (by show 0≤300;omega)
theorem LD {m:Nat}:∀ g,(jV ⟨none,0,0,[]⟩).D g→m≤g:=by
 rintro g (h|⟨T,hT,_⟩)
 ·simp [Value.ownBlock] at h
 ·cases hT
def Af4 (r:List RC × Int) (w:World) (e:Ending) (w':World):Prop:=∃ X:Row Rw,e=.returned (.tuple #[.slice X.A X.n X.c,.int .i64 r.2])∧X.l.map Rw.Ac=r.1∧Aj w w'∧Uq w w' (jV X)
theorem fP (d:Ev) (s:List UInt8) (w:World) (hd:d.rd w) (hs:s.length≤140737488351232) (hn:d.dm.n≤1000000) (hm:d.ms.n≤1000000) (hdd:∀ x ∈ d.dm.l,x.tr.n≤1000000∧∀ t ∈ x.tr.l,t.up.n≤100000):
 Calls prog 58 #[.agg d.cs,.string ⟨s.toArray⟩] w (Af4 (Dn d.Ac s) w):=by
 have hmf:∀ (fn:Fn) (first cap:Array Value) (w:World),(Instr.makeFunc fn first cap).run prog w=.ok (.func fn first cap) w:=fun _ _ _ _=>rfl
 have HC:=Aa (fun w' (hb:Aj w w')=>FM d w' (hd.mono hb) hn hm hdd)
 have HBC:=Aa (fun (X:Row Rw) w' (hX:X.rd w') (hb:Aj w w')=>RZ d X w' (hd.mono hb) hX hn hm hdd)
 have hl1:d.Ac.DF.length=d.dm.n:=by have:d.dm.l.length=d.dm.n:=hd.dm.len;simpa using this
 have hl2:d.Ac.ms.length=d.ms.n:=by have:d.ms.l.length=d.ms.n:=hd.ms.len;simpa using this
 have H:=Aa ((SL.start No w).alloc d.cs 25)
 (try simp only [LS] at H)
 have hcs:d.cs=#[.slice d.dm.A d.dm.n d.dm.c,.slice d.ms.A d.ms.n d.ms.c]:=rfl
 have wJ:=Aa hcs
 clear hcs hd hdd
 by_cases hE:Ap d.Ac=0
 ·obtain ⟨_,q2,_,_,q5,_⟩:=BA hE
  have hn16:d.dm.n≤16:=by omega
  have hm3:d.ms.n≤3:=by omega
  have HT0:Hid (Dn d.Ac s=match Qt d.dm.n d.ms.n s with
   |.error k=>([],k)
   |.ok (rows,r)=>if r=[] then (if BF d.Ac rows=0 then (rows,0) else ([],BF d.Ac rows)) else ([],3)):=by
   show _=_
   unfold Dn
   rw [Ah (by omega),hl1,hl2]
   (try rfl)
  rw [hE] at HC
  clear hE q2 q5 hl1 hl2
  go_enter func58,ntmps58
  rw [←wJ.Ab] at *
  go_wp2_with ((with_reducible refine OP 9 ?_);(refine Cx BL (H.blk 0 rfl) ?_))
  refine (HC _ H.to).mono ?_;rintro e w1 ⟨rfl,hb1⟩
  replace H:=Aa (H.Au hb1)
  clear hb1 HC
  generalize w.heap.size=z at *
  go_wp2_with fail
  replace H:=Aa (H.alloc #[.slice none 0 0] 26);(try simp only [LS] at H)
  replace H:=Aa (H.ES 38 2);(try simp only [LS] at H)
  replace H:=Aa (H.add (Aj.refl _) (BK TJ []) (Df _ _) Iy);(try simp only [LS] at H)
  replace H:=Aa (H.Gh [1,2,3,0] (by decide) (by simp));(try simp only [LS] at H)
  generalize w1.heap.size=g at *
  generalize w1.alloc (.cells #[.slice none 0 0] 26)=W at *
  refine (ZL 93 #[.pointer (some ⟨g,0,none⟩),.pointer (some ⟨z,0,none⟩)] s W hs (Rbat w s W.heap.size g z d (Qt d.dm.n d.ms.n s)) (mR func93 (by kernel_rfl) (by kernel_rfl)) (fun w4 h1 h2 h3 h4 h5=>ZG w W.heap.size g z s d w4 hn16 hm3 (H.begin h1 h3 h4 h5))).mono ?_
  rintro e w5 ⟨k,w4,rfl,⟨hk,X,q,hS,Ae2,hD⟩,eF,_⟩
  replace H:=Aa (hS.ended eF);(try simp only [LS] at H)
  clear hS eF
  generalize W.heap.size=B at *
  cases hT:Qt d.dm.n d.ms.n s with
  |error k'=>
   have HT:Hid (Dn d.Ac s=([],k')):=by show _=_;rw [HT0.Ab,hT]
   have hk':=cK hT
   rw [hT] at hk
   have hk2:k=k':=hk
   subst hk2
   have dk:(k==0)=false:=by simpa using hk'
   have dk2:(k !=0)=true:=by simpa using hk'
   clear hT hk hk' hD HT0
   go_wp2
   go_ret2
   rw [HT.Ab]
   exact ⟨⟨none,0,0,[]⟩,rfl,rfl,H.to,JH _,LD⟩
  |ok q=>
   obtain ⟨rs,l⟩:=q
   rw [hT] at hk
   obtain rfl:=hD _ _ hT
   by_cases hl:l=[]
   ·have HT1:Hid (Dn d.Ac s=if BF d.Ac (X.l.map Rw.Ac)=0 then (X.l.map Rw.Ac,0) else ([],BF d.Ac (X.l.map Rw.Ac))):=by show _=_;rw [HT0.Ab,hT];simp only;rw [Ak hl]
    have hk2:k=0:=by rw [hk];show (if l=[] then (0:Int) else 3)=0;rw [Ak hl]
    subst hk2
    clear hT hk hl hD HT0
    replace H:=Aa (H.both 1 2 (by omega) rfl rfl (jV X) (Ym (H.get 1 rfl) (H.get 2 rfl) Ae2) (fun g hg=>hg));(try simp only [LS] at H)
    have c0:=(H.blk 0 rfl).Am 0
    go_wp2_with ((with_reducible refine OP 19 ?_);(refine Cx BL (H.blk 2 rfl) ?_))
    refine (HBC X _ (H.at_ 1 rfl).1 H.to).mono ?_;rintro e w6 ⟨rfl,hb6⟩
    replace H:=Aa (H.Au hb6)
    clear hb6 HBC c0
    by_cases hE2:BF d.Ac (X.l.map Rw.Ac)=0
    ·have HT:Hid (Dn d.Ac s=(X.l.map Rw.Ac,0)):=by show _=_;rw [HT1.Ab,Ak hE2]
     rw [hE2]
     clear hE2 HT1
     have c0:=(H.blk 0 rfl).Am 0
     go_wp2
     go_ret2
     rw [HT.Ab]
     exact ⟨X,rfl,rfl,H.to,H.get 1 rfl,H.new 1 rfl⟩
    ·have HT:Hid (Dn d.Ac s=([],BF d.Ac (X.l.map Rw.Ac))):=by show _=_;rw [HT1.Ab,Ah hE2]
     have dk:(BF d.Ac (X.l.map Rw.Ac)==0)=false:=by simpa using hE2
     have dk2:(BF d.Ac (X.l.map Rw.Ac) !=0)=true:=by simpa using hE2
     clear hE2 HT1
     go_wp2
     go_ret2
     rw [HT.Ab]
     exact ⟨⟨none,0,0,[]⟩,rfl,rfl,H.to,JH _,LD⟩
   ·have HT:Hid (Dn d.Ac s=([],3)):=by show _=_;rw [HT0.Ab,hT];simp only;rw [Ah hl]
    have hk2:k=3:=by rw [hk];show (if l=[] then (0:Int) else 3)=3;rw [Ah hl]
    subst hk2
    clear hT hk hl hD HT0
    go_wp2
    go_ret2
    rw [HT.Ab]
    exact ⟨⟨none,0,0,[]⟩,rfl,rfl,H.to,JH _,LD⟩
 ·have HT:Hid (Dn d.Ac s=([],Ap d.Ac)):=by show _=_;unfold Dn;rw [Ak hE]
  have dE:(Ap d.Ac==0)=false:=by simpa using hE
  have dE2:(Ap d.Ac !=0)=true:=by simpa using hE
  clear hE
  go_enter func58,ntmps58
  rw [←wJ.Ab] at *
  go_wp2_with ((with_reducible refine OP 9 ?_);(refine Cx BL (H.blk 0 rfl) ?_))
  refine (HC _ H.to).mono ?_;rintro e w1 ⟨rfl,hb1⟩
  replace H:=Aa (H.Au hb1)
  clear hb1 HC
  go_wp2
  go_ret2
  rw [HT.Ab]
  exact ⟨⟨none,0,0,[]⟩,rfl,rfl,H.to,JH _,LD⟩
abbrev Ig {α:Type} (r:α→EE) (l:List α):EE:=⟨fun g=>∃ a,a ∈ l∧(r a).D g,fun w=>(∀ a ∈ l,(r a).holds w)∧l.Pairwise (fun a b=>∀ g,(r a).D g→¬ (r b).D g)⟩
theorem Ka {α:Type} (r:α→EE) (w:World):(Ig r []).holds w:=⟨fun g ⟨a,ha,_⟩=>(by cases ha),fun w' _ _=>⟨(fun a ha=>by cases ha),List.Pairwise.nil⟩⟩
theorem Ov {α:Type} {r:α→EE} {P:Nat→Prop}:∀ g,(Ig r []).D g→P g:=fun g ⟨a,ha,_⟩=>by cases ha
section
variable {α : Type} {r : α → EE} {S : Nat → Prop} {w0 w w' : World} {l : List EE}
theorem SL.xN (h:SL S w0 w l) (i j:Nat) {bs:List α} {a:α} (hij:i≠j) (hi:l[i]?=some (Ig r bs)) (hj:l[j]?=some (r a)):SL S w0 w ((l.set i (Ig r (bs++[a]))).eraseIdx j):=by
 have h1:=h.get i hi
 have h2:=h.get j hj
 refine h.both i j hij hi hj _ ⟨fun g ⟨u,hu,hg⟩=>?_,fun w' hs hk=>⟨fun u hu=>?_,?_⟩⟩ (fun g ⟨u,hu,hg⟩=>?_)
 ·rcases DT.1 hu with hu|hu
  ·exact h1.1 g ⟨u,hu,hg⟩
  ·rw [Dt] at hu;subst hu;exact h2.1 g hg
 ·rcases DT.1 hu with hu'|hu'
  ·exact (h1.now.1 u hu').keep hs fun g hg=>hk g ⟨u,hu,hg⟩
  ·rw [Dt] at hu';subst hu';exact h2.keep hs fun g hg=>hk g ⟨u,hu,hg⟩
 ·rw [UR]
  refine ⟨h1.now.2,List.pairwise_singleton _ _,fun u hu v hv g hg hg'=>?_⟩
  rw [Dt] at hv
  subst hv
  exact h.Xq i j _ _ hij hi hj g ⟨u,hu,hg⟩ hg'
 ·rcases DT.1 hu with hu|hu
  ·exact .inl ⟨u,hu,hg⟩
  ·rw [Dt] at hu;subst hu;exact .inr hg
theorem SL.join {l':List EE} (h:SL S w0 w l) (h':SL No w w' l'):SL S w0 w' (l++l'):=by
 have hb:=h.Au h'.to
 have key:∀ (j:Nat) q,(l++l')[j]?=some q→(l[j]?=some q∧j<l.length)∨(l'[j - l.length]?=some q∧l.length≤j):=by
  intro j q hq
  rcases Nt j l.length with hj|hj
  ·rw [Nz hj] at hq
   exact .inl ⟨hq,hj⟩
  ·rw [NZ hj] at hq
   exact .inr ⟨hq,hj⟩
 have hlt:∀ (i:Nat) q,l[i]?=some q→∀ g,q.D g→g<w.heap.size:=fun i q hi g hg=>(h.all i q hi).1 g hg
 have hge:∀ (i:Nat) q,l'[i]?=some q→∀ g,q.D g→w.heap.size≤g:=fun i q hi g hg=>(h'.own i q hi g hg).elim (fun h=>h) (fun h=>h.elim)
 refine ⟨hb.fr,fun j q hq=>?_,fun j k q q' hjk hq hq' g hg hg'=>?_,fun j q hq g hg=>?_⟩
 ·rcases key j q hq with ⟨hq1,_⟩|⟨hq1,_⟩
  ·exact hb.all j q hq1
  ·exact h'.all _ q hq1
 ·rcases key j q hq with ⟨hq1,hj⟩|⟨hq1,hj⟩
  ·rcases key k q' hq' with ⟨hq2,hk⟩|⟨hq2,hk⟩
   ·exact h.Xq j k q q' hjk hq1 hq2 g hg hg'
   ·have:=hlt j q hq1 g hg
    have:=hge _ q' hq2 g hg'
    omega
  ·rcases key k q' hq' with ⟨hq2,hk⟩|⟨hq2,hk⟩
   ·have:=hlt k q' hq2 g hg'
    have:=hge _ q hq1 g hg
    omega
   ·exact h'.Xq (j - l.length) (k - l.length) q q' (by omega) hq1 hq2 g hg hg'
 ·rcases key j q hq with ⟨hq1,_⟩|⟨hq1,_⟩
  ·exact h.own j q hq1 g hg
  ·exact .inl (Gm h.fr.size (hge _ q hq1 g hg))
end
theorem Y4:BC prog 126 36 1 24:=BC.mk' (z:=.slice none 0 0) underlying126 (by kernel_rfl) rfl (by omega)
abbrev rIv (x:Row Int):EE:=Cb 2 1 (.slice x.A x.n x.c) x.n (x.l.map (Value.int .i64))
def G8 (rows:List Rw) (w:World) (e:Ending) (w':World):Prop:=∃ (A:Option Addr) (c:Nat) (L:List (Row Int)),e=.returned (.slice A rows.length c)∧L.map Row.l=rows.map (fun r=>r.vs.l)∧SL No w w' [Cb 36 1 (.slice A rows.length c) rows.length (L.map Row.v),Ig rIv L]
theorem Ae0 (w:World) (t:TypeId) (size:Nat):(w.alloc (.cells #[] t)).ownsRow w.heap.size t size (.slice (some ⟨w.heap.size,0,none⟩) 0 0) 0 []:=World.ownsRow_made w #[] 0 (BZ _) (by unfold maxLen;omega) (by simp)
theorem iO (x:Row Rw) (w:World) (hx:x.rd w) (hn:x.n≤1000000) (hv:∀ r ∈ x.l,r.vs.n≤1000000):
 Calls prog 60 #[.slice x.A x.n x.c] w (G8 x.l w):=by
 have hlen:Hid (x.l.length=x.n):=hx.len
 have HX:=Aa hx
 have HV:=Aa hv
 have H:=Aa ((SL.start No w).ES 36 1)
 (try simp only [LS] at H)
 replace H:=Aa (H.add (Aj.refl _) (Ig rIv []) (Ka _ _) Ov);(try simp only [LS] at H)
 obtain ⟨A,n,c,rows⟩:=x
 simp only at *
 clear hx hv
 have HL:Hid (([]:List (Row Int)).map Row.l=(rows.take 0).map (fun r=>r.vs.l)):=rfl
 go_enter func60,ntmps60
 go_wp2_with fail
 go_loopg [3,8] n (fun gg s3 s8 wr=>∃ (k:Nat) (B:Option Addr) (d:Nat) (L:List (Row Int)),gg=n - k∧k≤n∧s8=.int .i64 k∧s3=.slice B k d∧Hid (L.length=k)∧Hid (SL No w wr [Cb 36 1 (.slice B k d) k (L.map Row.v),Ig rIv L])∧Hid (L.map Row.l=(rows.take k).map (fun r=>r.vs.l)))
 case atStart=>exact ⟨0,none,0,[],rfl,by omega,rfl,rfl,rfl,H,HL⟩
 case round=>
  clear H HL
  obtain ⟨k,B,d,L,BG,hk,rfl,rfl,hLk,H,HL⟩:=hrel
  have Cg:=Aa BG
  clear BG
  by_cases hlt:k<n
  ·obtain ⟨bb,oo,r,hA,hbb,Zo,hrr,hrg⟩:=(HX.mono H.to).jK (k:=k) hlt
   simp only at hA
   subst hA
   have hvn:=HV r (CE Zo)
   have Us:=Aa (Ci Zo)
   have nL:=Aa hrg
   have V8:=Aa (fun w' (hb:Aj wr w')=>(hrr.mono hb).vs.ints)
   have hl4:Hid (r.vs.l.length=r.vs.n):=hrr.vs.len
   clear Zo hrr hrg hbb
   obtain ⟨W0,hW0⟩:∃ W0,W0=wr:=⟨_,rfl⟩
   subst hW0
   have HB:Hid (Aj W0 W0):=Aj.refl _
   go_wp2_with (first|((with_reducible refine OP 11 ?_);(refine Ae rfl JO (.tmp 10) rfl bb (oo+k * 2) rfl r.cs rfl nL.Ab ?_))|((with_reducible refine OS 5 ?_);(refine Fu JO (r.cs) (SF r) ?_;replace H:=Aa (H.alloc (r.cs) 38);(try simp only [LS] at H);replace HB:=Aa (HB.alloc (.cells r.cs 38));replace H:=Aa (H.CJ ((Aj.refl _).alloc _) (Ae0 _ 2 1));(try simp only [LS] at H);replace HB:=Aa (HB.alloc (.cells #[] 2));have c1:=(H.blk 2 rfl).Am 1))|((with_reducible refine OP 16 ?_);(refine BI rfl (.tmp 13) (.tmp 15) _ rfl WW 0 (Bw _) _ 0 _ rfl (H.row 3 rfl) r.vs.A r.vs.n r.vs.c _ rfl (V8 _ HB.Ab) (by intro u hu;obtain ⟨z,_,rfl⟩:=GZ.1 hu;rfl) (by unfold maxLen;omega) (by omega) ?_;intro vq wq AR Ay Bb;replace H:=Aa (H.setRow 3 rfl Ay AR Bb);(try simp only [LS] at H);clear AR Ay Bb;obtain ⟨A2,c2,rfl,_⟩:=Ao (H.row 3 rfl);clear c1;(try simp only [Hw,Fy] at H)))|((with_reducible refine OP 18 ?_);(replace H:=Aa (H.alloc #[.slice A2 r.vs.n c2] 36);(try simp only [LS] at H);refine BI rfl (.tmp 12) (.tmp 17) _ rfl Y4 0 (Bw _) _ k _ rfl (H.row 0 rfl) _ 1 1 _ rfl (AQ (H.blk 4 rfl) rfl) (by simp [Value.oneCell']) (by unfold maxLen;omega) (by omega) ?_;intro vq wq AR Ay Bb;replace H:=Aa (H.setRow 0 rfl Ay AR Bb);(try simp only [LS] at H);clear AR Ay Bb;obtain ⟨A9,c9,rfl,_⟩:=Ao (H.row 0 rfl))))
   replace H:=Aa (H.xN 1 3 (a:=⟨A2,r.vs.n,c2,r.vs.l⟩) (by omega) rfl rfl);(try simp only [LS] at H)
   replace H:=Aa (H.Gh [0,1] (by decide) (by simp));(try simp only [LS] at H)
   have HL2:Hid ((L++[Row.mk A2 r.vs.n c2 r.vs.l]).map Row.l=(rows.take (k+1)).map (fun r=>r.vs.l)):=by show _=_;rw [Us.Ab,BR,BR,HL.Ab];(try rfl)
   clear HL HB
   go_wp2_with fail
   go_roundg (n - (k+1))
   case rel=>exact ⟨k+1,A9,c9,L++[⟨A2,r.vs.n,c2,r.vs.l⟩],rfl,by omega,by go_num,rfl,by show _=_;rw [BQ,hLk.Ab];(try rfl),by rw [BR];exact H,HL2⟩
   case measure=>rw [Cg.Ab];omega
  ·obtain rfl:k=n:=by omega
   go_wp2
   go_ret
   have hl:=hlen.Ab
   refine ⟨B,d,L,?_,?_,?_⟩
   ·rw [hl];(try rfl)
   ·rw [HL.Ab,DY (by omega)]
   ·rw [hl];exact H.Ab
def FewR (x:Row Rw):Prop:=x.n≤310∧∀ r ∈ x.l,r.ts.n≤20∧r.vs.n≤20
theorem qZ (x:Row Rw) (w:World) (hx:x.rd w):Calls prog 7 #[.slice x.A x.n x.c] w (ZY (FewR x) w):=by
 have hlen:Hid (x.l.length=x.n):=hx.len
 have HX:=Aa hx
 have n63:=hx.n63
 have HB:Hid (Aj w w):=Aj.refl _
 obtain ⟨A,n,c,rows⟩:=x
 simp only at *
 clear hx
 have HA:Hid (∀ (i:Nat) r,i<0→rows[i]?=some r→r.ts.n≤20∧r.vs.n≤20):=fun i t hi=>absurd hi (by omega)
 go_enter func7,ntmps7
 go_wp2_with fail
 go_loopg [3,4] 312 (fun gg s3 s4 wr=>∃ (k sm:Nat),gg=312 - k∧k≤311∧k≤n∧s4=.int .i64 k∧s3=.int .i64 sm∧sm≤20000 * k∧w=wr∧Hid (∀ (i:Nat) r,i<k→rows[i]?=some r→r.ts.n≤20∧r.vs.n≤20))
 case atStart=>exact ⟨0,0,rfl,by omega,by omega,rfl,rfl,by omega,rfl,HA⟩
 case round=>
  clear HA
  obtain ⟨k,sm,BG,hk311,hkn,rfl,rfl,hsm,rfl,HA⟩:=hrel
  have Cg:=Aa BG
  clear BG
  by_cases hlt:k<n∧k≤310
  ·obtain ⟨h1,h2⟩:=hlt
   have e1:decide ((k:Int)≤310)=true:=by simp<;>omega
   obtain ⟨bb,oo,r,hA,hbb,Zo,hrr,hrg⟩:=HX.jK (k:=k) h1
   simp only at hA
   subst hA
   have q0:=hrg 0 _ rfl
   have q1:=hrg 1 _ rfl
   simp only [Jk] at q0
   have HRK:=Aa Zo
   have wH:=Aa hrr.ts
   have i0:(0:Int)≤k:=by omega
   have i1:(k:Int)<n:=by omega
   clear Zo hrg hbb
   by_cases g1:r.ts.n≤20
   ·have e2:decide ((20:Int)<r.ts.n)=false:=by simp<;>omega
    by_cases g2:r.vs.n≤20
    ·have e3:decide ((20:Int)<r.vs.n)=false:=by simp<;>omega
     have HN:Hid (∀ (i:Nat) r,i<k+1→rows[i]?=some r→r.ts.n≤20∧r.vs.n≤20):=by
      intro i r' hi hir
      rcases (show i<k∨i=k by omega) with h|h
      ·exact HA i r' h hir
      ·subst h
       rw [HRK.Ab] at hir
       injection hir with hir
       subst hir
       exact ⟨g1,g2⟩
     clear HA hrr
     obtain ⟨⟨A3,n3,c3,ts⟩,⟨A4,n4,c4,vs⟩⟩:=r
     simp only at *
     go_wp2_with fail
     clear q0 q1
     go_loopg [3,39] n3 (fun gg s3 s39 wx=>∃ (j s2:Nat),gg=n3 - j∧j≤n3∧s39=.int .i64 j∧s3=.int .i64 s2∧s2≤20000 * k+1000 * j∧w=wx)
     case atStart=>exact ⟨0,sm,rfl,by omega,rfl,rfl,by omega,rfl⟩
     case round=>
      obtain ⟨j,s2,hgj,hj,rfl,rfl,hs2,rfl⟩:=hrel
      have Kv:=Aa hgj
      clear hgj
      by_cases hjlt:j<n3
      ·obtain ⟨b4,o4,t,Zq,htk,htl,q⟩:=wH.FE (k:=j) hjlt
       simp only at Zq
       subst Zq
       have hmin:∃ q:Nat,(min (t.length:Int) 1000)=q∧q≤1000:=⟨min t.length 1000,by omega,by omega⟩
       obtain ⟨qq,hq,hq2⟩:=hmin
       have HQ:=Aa hq
       clear htk hq
       go_wp2
       rw [HQ.Ab]
       go_roundg (n3 - (j+1))
       case rel=>exact ⟨j+1,s2+qq,rfl,by omega,by go_num,by go_num,by omega,rfl⟩
       case measure=>rw [Kv.Ab];omega
      ·go_wp2_with fail
       go_roundg (312 - (k+1))
       case rel=>exact ⟨k+1,s2,rfl,by omega,by omega,by go_num,rfl,by omega,rfl,HN⟩
       case measure=>rw [Cg.Ab];omega
    ·have e3:decide ((20:Int)<r.vs.n)=true:=by simp<;>omega
     go_wp2
     go_ret
     exact ⟨false,rfl,(fun h=>by cases h),HB.Ab⟩
   ·have e2:decide ((20:Int)<r.ts.n)=true:=by simp<;>omega
    go_wp2
    go_ret
    exact ⟨false,rfl,(fun h=>by cases h),HB.Ab⟩
  ·have e0:(decide ((k:Int)<n)=false∧decide (k<n)=false∧¬ k<n)∨(decide ((k:Int)<n)=true∧decide (k<n)=true∧k<n∧decide ((k:Int)≤310)=false):=by
    by_cases h:k<n
    ·right
     refine ⟨by simp<;>omega,by simp<;>omega,h,by simp<;>omega⟩
    ·left
     refine ⟨by simp<;>omega,by simp<;>omega,h⟩
   clear hlt
   have nQ:Hid (n≤310→∀ r ∈ rows,r.ts.n≤20∧r.vs.n≤20):=by
    intro h20 d hd
    obtain ⟨i,hi⟩:=Iz.1 hd
    have hil:i<rows.length:=(Ca.1 hi).1
    refine HA i d ?_ hi
    have:=hlen.Ab
    rcases e0 with ⟨_,_,h⟩|⟨_,_,h,h'⟩
    ·omega
    ·simp at h';omega
   clear HA
   rcases e0 with ⟨e1,e2,e3⟩|⟨e1,e2,e3,e4⟩
   all_goals
    by_cases z1:n≤310
    ·have z3:decide ((n:Int)≤310)=true:=by simp<;>omega
     go_wp2
     all_goals
      go_ret
      exact ⟨_,rfl,fun _=>⟨z1,nQ z1⟩,HB.Ab⟩
    ·have z3:decide ((n:Int)≤310)=false:=by simp<;>omega
     go_wp2
     go_ret
     exact ⟨false,rfl,(fun h=>by cases h),HB.Ab⟩
end Go.Proofs.YtijplolmkcdflaaGreat
namespace Go.Proofs.YtijplolmkcdflaaGreat
open Go.RowKit
structure PC where
 f:Int
 t:Int
 lo:List UInt8
 hi:List UInt8
 set:List (List UInt8)
 g:Bool
 MN:Int
deriving DecidableEq
abbrev PC.nil:PC:=⟨0,0,[],[],[],false,0⟩
def Gy (tr:List (List UInt8)):List (List UInt8)→Int
 |[]=>0
 |s::r=>match posOf s tr with|none=>13|some _=>Gy tr r
def Fx (p:PC):Int:=if 0<p.set.length then 2 else if 16<p.lo.length∨16<p.hi.length then 5 else 0
def Ez (tr:List (List UInt8)) (p:PC):Int:=if p.lo=[]∧p.hi=[] then (if BH p.set≠0 then BH p.set else Gy tr p.set) else 2
def AO (d:DC) (p:PC):Int:=
 if p.f=0 then (if p.t=0∧p.lo=[]∧p.hi=[]∧p.set.length=0 then 0 else 2)
 else if p.f=1∨p.f=2 then
  (if 0≤p.t then (match d.AB[p.t.toNat]? with|none=>2|some tr=>if p.f=1 then Fx p else Ez tr.ts p) else 2)
 else 2
def Wn (d:DC) (k:Int):Bool:=decide (0≤k) && decide (k<(d.AB.length:Int))
def CB (d:DC) (p:PC):Int:=if AO d p≠0 then AO d p else if (p.g=true∧Wn d p.MN=false)∨(p.g=false∧p.MN≠0) then 2 else 0
def Cn:List DC→List PC→Int
 |d::ds,p::ps=>if CB d p≠0 then CB d p else Cn ds ps
 |_,_=>0
def Bl (s:SC) (q:List PC):Int:=if Ap s≠0 then Ap s else if q.length≠s.DF.length then 2 else Cn s.DF q
def Dv (p:PC):List UInt8:=
 CK p.f.toNat++((if p.f=1 then CK p.t.toNat++Cc p.lo++Cc p.hi else if p.f=2 then CK p.t.toNat++MS p.set else [])++CK (if p.g=true then p.MN.toNat+1 else 0))
def Tf (q:List PC):List UInt8:=q.flatMap Dv
theorem PX {ds:List DC} {ps:List PC} {k:Nat} {d:DC} {p:PC} (hd:ds[k]?=some d) (hp:ps[k]?=some p):Cn (ds.drop k) (ps.drop k)=if CB d p≠0 then CB d p else Cn (ds.drop (k+1)) (ps.drop (k+1)):=by
 obtain ⟨h1,rfl⟩:=Ca.1 hd
 obtain ⟨h2,rfl⟩:=Ca.1 hp
 rw [DZ h1,DZ h2,Cn]
theorem TM {tr ss:List (List UInt8)} {k:Nat} {s:List UInt8} (h:ss[k]?=some s):Gy tr (ss.drop k)=match posOf s tr with|none=>13|some _=>Gy tr (ss.drop (k+1)):=by
 obtain ⟨h1,rfl⟩:=Ca.1 h
 rw [DZ h1,Gy]
theorem tL {tr ss:List (List UInt8)} (h:Gy tr ss=0):∀ s ∈ ss,∃ i,posOf s tr=some i:=by
 induction ss with
 |nil=>intro s hs;cases hs
 |cons a r ih=>
  intro s hs
  rw [Gy] at h
  cases hp:posOf a tr with
  |none=>rw [hp] at h;cases h
  |some i=>
   rw [hp] at h
   rcases En.1 hs with rfl|hs
   ·exact ⟨i,hp⟩
   ·exact ih h s hs
theorem rT {s t:List UInt8} {ts:List (List UInt8)}:∀ {i:Nat},posOf s ts=some i→posOf t ts=some i→s=t:=by
 induction ts with
 |nil=>intro i h;cases h
 |cons a r ih=>
  intro i h1 h2
  rw [posOf] at h1 h2
  by_cases e1:(a==s)=true
  ·rw [Ak e1] at h1
   by_cases e2:(a==t)=true
   ·rw [Sm] at e1 e2
    exact e1.symm.trans e2
   ·rw [Ah e2] at h2
    cases hp:posOf t r with
    |none=>rw [hp] at h2;cases h2
    |some j=>
     rw [hp] at h2
     simp at h1 h2
     omega
  ·rw [Ah e1] at h1
   cases hp:posOf s r with
   |none=>rw [hp] at h1;cases h1
   |some j=>
    rw [hp] at h1
    by_cases e2:(a==t)=true
    ·rw [Ak e2] at h2
     simp at h1 h2
     omega
    ·rw [Ah e2] at h2
     cases hq:posOf t r with
     |none=>rw [hq] at h2;cases h2
     |some k=>
      rw [hq] at h2
      simp at h1 h2
      have e:j=k:=by omega
      subst e
      exact ih hp hq
theorem bL {ts:List (List UInt8)} (h:Kn ts):ts.Nodup:=h.imp (fun {a b} hab e=>by rw [e,Oz] at hab;cases hab)
theorem N8 {tr ss:List (List UInt8)} (h:BH ss=0) (hm:Gy tr ss=0):ss.length≤tr.length:=by
 have h1:=bL (SI h)
 have h2:=tL hm
 have h3:(ss.map (fun s=>(posOf s tr).getD 0)).Nodup:=by
  have key:∀ l:List (List UInt8),l.Nodup→(∀ s ∈ l,∃ i,posOf s tr=some i)→(l.map (fun s=>(posOf s tr).getD 0)).Nodup:=by
   intro l
   induction l with
   |nil=>intro _ _;exact List.nodup_nil
   |cons a r ih=>
    intro hd hs
    rw [Su] at hd
    rw [DI,Su]
    refine ⟨fun hm=>?_,ih hd.2 (fun s h=>hs s (EO _ h))⟩
    obtain ⟨b,hb,he⟩:=GZ.1 hm
    obtain ⟨i,hi⟩:=hs a (Dr ..)
    obtain ⟨j,hj⟩:=hs b (EO _ hb)
    rw [hi,hj] at he
    have e:j=i:=he
    subst e
    exact hd.1 (rT hi hj ▸ hb)
  exact key ss h1 h2
 have h4:=Ot (ys:=List.range tr.length) h3 (fun x hx=>by
  obtain ⟨s,hs,rfl⟩:=GZ.1 hx
  obtain ⟨i,hi⟩:=h2 s hs
  rw [hi]
  exact MP.2 (Ru hi))
 rw [Cq,List.length_range] at h4
 exact h4
structure nI (d:DC) (p:PC):Prop where
 f:p.f=0∧p.t=0∧p.lo=[]∧p.hi=[]∧p.set=[]∨(p.f=1∧p.set=[]∧p.lo.length≤16∧p.hi.length≤16∧0≤p.t∧p.t<d.AB.length)∨(p.f=2∧p.lo=[]∧p.hi=[]∧BH p.set=0∧0≤p.t∧∃ tr,d.AB[p.t.toNat]?=some tr∧Gy tr.ts p.set=0)
 b:p.g=true∧0≤p.MN∧p.MN<d.AB.length∨p.g=false∧p.MN=0
theorem Ja {d:DC} {p:PC} (h:CB d p=0):nI d p:=by
 unfold CB at h
 split at h
 ·rename_i h1;exact absurd h h1
 ·rename_i h1
  have h0:AO d p=0:=by omega
  split at h
  ·cases h
  ·rename_i h2
   refine ⟨?_,?_⟩
   ·unfold AO at h0
    split at h0
    ·rename_i hf
     split at h0
     ·rename_i hg
      exact .inl ⟨hf,hg.1,hg.2.1,hg.2.2.1,List.length_eq_zero_iff.1 hg.2.2.2⟩
     ·cases h0
    ·split at h0
     ·rename_i hf
      split at h0
      ·rename_i ht
       cases htr:d.AB[p.t.toNat]? with
       |none=>rw [htr] at h0;cases h0
       |some tr=>
        rw [htr] at h0
        simp only at h0
        have htl:=(Ca.1 htr).1
        split at h0
        ·rename_i hf1
         unfold Fx at h0
         split at h0
         ·cases h0
         ·split at h0
          ·cases h0
          ·rename_i h5 h6
           exact .inr (.inl ⟨hf1,List.length_eq_zero_iff.1 (by omega),by omega,by omega,ht,by omega⟩)
        ·rename_i hf1
         unfold Ez at h0
         split at h0
         ·rename_i hl
          split at h0
          ·rename_i h5;exact absurd h0 h5
          ·rename_i h5
           exact .inr (.inr ⟨by omega,hl.1,hl.2,by omega,ht,tr,rfl,h0⟩)
         ·cases h0
      ·cases h0
     ·cases h0
   ·cases hg:p.g with
    |true=>
     rw [hg] at h2
     cases hh:Wn d p.MN with
     |true=>
      unfold Wn at hh
      rw [XD,Tx,Tx] at hh
      exact .inl ⟨rfl,hh.1,hh.2⟩
     |false=>exact absurd (.inl ⟨rfl,hh⟩) h2
    |false=>
     rw [hg] at h2
     refine .inr ⟨rfl,?_⟩
     refine Decidable.byContradiction fun hc=>h2 (.inr ⟨rfl,hc⟩)
theorem Oo {ds:List DC}:∀ {ps:List PC},Cn ds ps=0→ps.length=ds.length→∀ (k:Nat) d p,ds[k]?=some d→ps[k]?=some p→CB d p=0:=by
 induction ds with
 |nil=>intro ps _ _ k d p hd;simp at hd
 |cons d ds ih=>
  intro ps h hl k d' p' hd hp
  cases ps with
  |nil=>simp at hl
  |cons p ps=>
   rw [Cn] at h
   split at h
   ·rename_i h1;exact absurd h h1
   ·rename_i h1
    cases k with
    |zero=>
     simp only [PM,Option.some.injEq] at hd hp
     subst hd hp
     omega
    |succ k=>
     simp only [FW] at hd hp
     exact ih h (by simpa using hl) k d' p' hd hp
theorem Em {s:SC} {q:List PC} (h:Bl s q=0):Ap s=0∧q.length=s.DF.length∧Cn s.DF q=0:=by
 unfold Bl at h
 split at h
 ·rename_i h1;exact absurd h h1
 ·split at h
  ·cases h
  ·exact ⟨by omega,by omega,h⟩
def WY (f:Nat) (o:PR (Int × List UInt8 × List UInt8 × List (List UInt8))):PR PC:=match o with|.error k=>.error k|.ok ((t,lo,hi,set),r)=>(match Et 4 r with|.error k=>.error k|.ok (b,r2)=>.ok (⟨f,t,lo,hi,set,decide (0<b),(b:Int) - (if 0<b then 1 else 0)⟩,r2))
def O6 (l:List UInt8):PR (Int × List UInt8 × List UInt8 × List (List UInt8)):=match Et 3 l with|.error k=>.error k|.ok (t,r)=>(match Eg 16 r with|.error k=>.error k|.ok (lo,r2)=>(match Eg 16 r2 with|.error k=>.error k|.ok (hi,r3)=>.ok ((t,lo,hi,[]),r3)))
def Y9 (l:List UInt8):PR (Int × List UInt8 × List UInt8 × List (List UInt8)):=match Et 3 l with|.error k=>.error k|.ok (t,r)=>(match tread 200 r with|.error k=>.error k|.ok (set,r2)=>.ok ((t,[],[],set),r2))
def Dj (l:List UInt8):PR PC:=match Et 2 l with|.error k=>.error k|.ok (f,r)=>WY f (if f=1 then O6 r else if f=2 then Y9 r else .ok ((0,[],[],[]),r))
def JZ (n:Nat) (l:List UInt8):PR (List PC):=AX Dj n [] l
def DR (s:SC) (b:List UInt8):List PC × Int:=
 if Ap s≠0 then ([],Ap s) else
 match JZ s.DF.length b with
 |.error k=>([],k)
 |.ok (q,r)=>if r≠[] then ([],3) else if Bl s q=0 then (q,0) else ([],Bl s q)
theorem jX {l r:List UInt8} {p:PC} (h:Dj l=.ok (p,r)):l=Dv p++r:=by
 have hA:∀ (f:Nat) (t:Int) (lo hi:List UInt8) (set:List (List UInt8)) (r1:List UInt8),WY f (.ok ((t,lo,hi,set),r1))=.ok (p,r)→p.f=f∧p.t=t∧p.lo=lo∧p.hi=hi∧p.set=set∧r1=CK (if p.g=true then p.MN.toNat+1 else 0)++r:=by
  intro f t lo hi set r1 h
  unfold WY at h
  simp only at h
  cases h1:Et 4 r1 with
  |error k=>rw [h1] at h;cases h
  |ok x=>
   obtain ⟨b,r2⟩:=x
   rw [h1] at h
   injection h with h
   injection h with e1 e2
   subst e1 e2
   refine ⟨rfl,rfl,rfl,rfl,rfl,?_⟩
   rw [Ef h1]
   by_cases hb:0<b
   ·simp only [hb,decide_true,ER]
    congr 2
    omega
   ·have:b=0:=by omega
    subst this
    simp
 unfold Dj at h
 cases h1:Et 2 l with
 |error k=>rw [h1] at h;cases h
 |ok x=>
  obtain ⟨f,r0⟩:=x
  rw [h1] at h
  simp only at h
  have hf:=(Ex h1).2.1
  rw [Ef h1]
  unfold Dv
  by_cases f1:f=1
  ·subst f1
   rw [Ak rfl] at h
   unfold O6 at h
   cases h2:Et 3 r0 with
   |error k=>rw [h2] at h;cases h
   |ok x=>
    obtain ⟨t,r2⟩:=x
    rw [h2] at h
    simp only at h
    cases h3:Eg 16 r2 with
    |error k=>rw [h3] at h;cases h
    |ok x=>
     obtain ⟨lo,r3⟩:=x
     rw [h3] at h
     simp only at h
     cases h4:Eg 16 r3 with
     |error k=>rw [h4] at h;cases h
     |ok x=>
      obtain ⟨hi,r4⟩:=x
      rw [h4] at h
      simp only at h
      obtain ⟨e1,e2,e3,e4,e5,e6⟩:=hA _ _ _ _ _ _ h
      rw [e1,e2,e3,e4,Ak (by rfl),Ef h2,IE h3,IE h4,e6]
      simp only [Dk,Da]
  ·rw [Ah f1] at h
   by_cases f2:f=2
   ·subst f2
    rw [Ak rfl] at h
    unfold Y9 at h
    cases h2:Et 3 r0 with
    |error k=>rw [h2] at h;cases h
    |ok x=>
     obtain ⟨t,r2⟩:=x
     rw [h2] at h
     simp only at h
     cases h3:tread 200 r2 with
     |error k=>rw [h3] at h;cases h
     |ok x=>
      obtain ⟨set,r3⟩:=x
      rw [h3] at h
      simp only at h
      obtain ⟨e1,e2,e3,e4,e5,e6⟩:=hA _ _ _ _ _ _ h
      rw [e1,e2,e5,Ah (by omega),Ak (by rfl),Ef h2,(MR h3).2,e6]
      simp only [Dk,Da]
   ·rw [Ah f2] at h
    have f0:f=0:=by omega
    subst f0
    obtain ⟨e1,e2,e3,e4,e5,e6⟩:=hA _ _ _ _ _ _ h
    rw [e1,Ah (by omega),Ah (by omega),e6]
    simp only [Dk,Fy,Da]
theorem XY {l:List UInt8} {k:Int} (h:Dj l=.error k):k≠0:=by
 have hA:∀ (f:Nat) (t:Int) (lo hi:List UInt8) (set:List (List UInt8)) (r1:List UInt8),WY f (.ok ((t,lo,hi,set),r1))=.error k→k≠0:=by
  intro f t lo hi set r1 h
  unfold WY at h
  simp only at h
  cases h1:Et 4 r1 with
  |error e=>rw [h1] at h;injection h with h;subst h;have:=Fh h1;omega
  |ok x=>rw [h1] at h;cases h
 have hE:∀ (f:Nat) e,WY f (.error e)=.error k→e=k:=by
  intro f e h
  unfold WY at h
  injection h
 unfold Dj at h
 cases h1:Et 2 l with
 |error e=>rw [h1] at h;injection h with h;subst h;have:=Fh h1;omega
 |ok x=>
  obtain ⟨f,r0⟩:=x
  rw [h1] at h
  simp only at h
  by_cases f1:f=1
  ·rw [Ak f1] at h
   unfold O6 at h
   cases h2:Et 3 r0 with
   |error e=>rw [h2] at h;have:=hE _ _ h;have:=Fh h2;omega
   |ok x=>
    obtain ⟨t,r2⟩:=x
    rw [h2] at h
    simp only at h
    cases h3:Eg 16 r2 with
    |error e=>rw [h3] at h;have:=hE _ _ h;have:=Ol h3;omega
    |ok x=>
     obtain ⟨lo,r3⟩:=x
     rw [h3] at h
     simp only at h
     cases h4:Eg 16 r3 with
     |error e=>rw [h4] at h;have:=hE _ _ h;have:=Ol h4;omega
     |ok x=>
      rw [h4] at h
      exact hA _ _ _ _ _ _ h
  ·rw [Ah f1] at h
   by_cases f2:f=2
   ·rw [Ak f2] at h
    unfold Y9 at h
    cases h2:Et 3 r0 with
    |error e=>rw [h2] at h;have:=hE _ _ h;have:=Fh h2;omega
    |ok x=>
     obtain ⟨t,r2⟩:=x
     rw [h2] at h
     simp only at h
     cases h3:tread 200 r2 with
     |error e=>rw [h3] at h;have:=hE _ _ h;have:=XG h3;omega
     |ok x=>
      rw [h3] at h
      exact hA _ _ _ _ _ _ h
   ·rw [Ah f2] at h
    exact hA _ _ _ _ _ _ h
theorem ZJ {s:SC} {b:List UInt8} (h:(DR s b).2=0):Bl s (DR s b).1=0∧Tf (DR s b).1=b:=by
 unfold DR at h ⊢
 by_cases hs:Ap s=0
 ·rw [Ah (by omega)] at h ⊢
  cases h1:JZ s.DF.length b with
  |error k=>
   rw [h1] at h
   simp only at h
   exact absurd h (Ju (fun l k h=>XY h) h1)
  |ok x=>
   obtain ⟨q,r⟩:=x
   rw [h1] at h
   simp only at h ⊢
   by_cases hr:r=[]
   ·rw [Ah (by simp [hr])] at h ⊢
    by_cases he:Bl s q=0
    ·rw [Ak he]
     obtain ⟨xs,a1,a2,a3⟩:=Qy (put:=Dv) (fun l x r h=>jX h) h1
     rw [Fy] at a1
     subst a1
     refine ⟨he,?_⟩
     rw [a3,hr,EZ]
     rfl
    ·rw [Ah he] at h
     exact absurd h he
   ·rw [Ak hr] at h
    cases h
 ·rw [Ak hs] at h
  exact absurd h hs
end Go.Proofs.YtijplolmkcdflaaGreat
namespace Go.Proofs.YtijplolmkcdflaaGreat
open Tryz
open Go.RowKit Go.ChangeShapes Go.WideShapes Go.Deep
structure Pk where
 f:Int
 t:Int
 lo:List UInt8
 hi:List UInt8
 set:Row (List UInt8)
 g:Bool
 MN:Int
abbrev Pk.cs (p:Pk):Array Value:=#[.int .i64 p.f,.int .i64 p.t,.string ⟨p.lo.toArray⟩,.string ⟨p.hi.toArray⟩,.slice p.set.A p.set.n p.set.c,.bool p.g,.int .i64 p.MN]
structure Pk.rd (w:World) (p:Pk):Prop where
 f:AP p.f
 t:AP p.t
 lo:p.lo.length≤140737488351232
 hi:p.hi.length≤140737488351232
 set:p.set.rd w
 MN:AP p.MN
theorem Pk.rd.mono {w w':World} {p:Pk} (h:p.rd w) (hb:Aj w w'):p.rd w':=⟨h.f,h.t,h.lo,h.hi,h.set.mono hb,h.MN⟩
instance Ad4:Ar Pk where
 size:=7
 bytes:=88
 cells p:=p.cs.toList
 ok w p:=p.rd w
 len _:=rfl
 pos:=by omega
 mono hb h:=h.mono hb
abbrev Pk.Ac (p:Pk):PC:=⟨p.f,p.t,p.lo,p.hi,p.set.l,p.g,p.MN⟩
theorem Nb (p:Pk):p.cs.all (·.oneCell')=true:=by simp [Value.oneCell']
theorem Ea:DV prog 80 7:=⟨⟨_,underlying80,rfl⟩,by kernel_rfl⟩
theorem wL:BC prog 27 80 7 88:=BC.mk' (z:=.agg #[.int .i64 0,.int .i64 0,.string ⟨#[]⟩,.string ⟨#[]⟩,.slice none 0 0,.bool false,.int .i64 0]) underlying27 (by kernel_rfl) rfl (by omega)
theorem Ac7:prog.cellsOf 4=1:=by kernel_rfl
theorem c_pk:prog.cellsOf 80=7:=by kernel_rfl
theorem Af0:prog.cellsOf 27=1:=by kernel_rfl
theorem Ae9:prog.cellsOf 29=1:=by kernel_rfl
theorem FH:DV prog 29 1:=⟨⟨_,underlying29,rfl⟩,by kernel_rfl⟩
theorem zC:JW prog 80 Pk:=by
 intro H enc w base spare held fuel cs x h hz
 have hl:=Jr underlying80 h c_pk
 obtain ⟨a0,h0,w0⟩:=Ei underlying80 h hz 0 _ rfl (Mf underlying3) pG
 obtain ⟨a1,h1,w1⟩:=Ei underlying80 h hz 1 _ rfl (Mf underlying3) pG
 obtain ⟨a2,h2,w2⟩:=Ei underlying80 h hz 2 _ rfl (KY underlying9) fO
 obtain ⟨a3,h3,w3⟩:=Ei underlying80 h hz 3 _ rfl (KY underlying9) fO
 obtain ⟨a4,h4,w4⟩:=Ei underlying80 h hz 4 _ rfl Nc ZE
 obtain ⟨a5,h5,w5⟩:=Ei underlying80 h hz 5 _ rfl (dI underlying4) Ac7
 obtain ⟨a6,h6,w6⟩:=Ei underlying80 h hz 6 _ rfl (Mf underlying3) pG
 refine ⟨⟨a0,a1,a2,a3,a4,a5,a6⟩,?_,⟨w0,w1,w2,w3,Row.ok.Vw w4,w6⟩⟩
 match cs,hl with
 |[x0,x1,x2,x3,x4,x5,x6],_=>
  simp [Ar.cells,Row.v] at h0 h1 h2 h3 h4 h5 h6
  simp [Ar.cells,h0,h1,h2,h3,h4,h5,h6]
theorem sP:JW prog 27 (Row Pk):=Jv underlying27 c_pk (by kernel_rfl) zC
structure Qr where
 ps:Row Pk
abbrev Qr.cs (q:Qr):Array Value:=#[.slice q.ps.A q.ps.n q.ps.c]
abbrev Qr.rd (w:World) (q:Qr):Prop:=q.ps.rd w
abbrev Qr.Ac (q:Qr):List PC:=q.ps.l.map Pk.Ac
theorem yH (q:Qr):q.cs.all (·.oneCell')=true:=by simp [Value.oneCell']
theorem O9 {H:Type} {enc:TypeId × Value→H} {w:World} {base b0:Nat} {spare:Nat→Bool} {held:Bool} {r:Reach} {v:Value} {d:DataW H} {p:List MemPlace}
 (hv:Value.okWide prog w r b0 29 v) (h:DataW.Trod enc prog w base spare held 29 v d p) (hz:MH prog 29 d):∃ q:Qr,v=.agg q.cs∧q.rd w:=by
 obtain ⟨cs,rfl,_⟩:=okWide_struct underlying29 hv
 obtain ⟨fuel,hf⟩:=h
 have hl:=Jr underlying29 hf Ae9
 obtain ⟨a,ha,wa⟩:=Ei underlying29 hf hz 0 _ rfl sP Af0
 refine ⟨⟨a⟩,?_,Row.ok.Vw wa⟩
 simp only [Value.cells] at ha hl
 obtain ⟨cl⟩:=cs
 match cl,hl with
 |[x0],_=>
  simp [Ar.cells,Row.v] at ha
  simp [ha]
theorem Row.rd.rW {w:World} {x:Row Pk} (h:x.rd w) {k:Nat} (hk:k<x.n):∃ b o t,x.A=some ⟨b,o,none⟩∧b<w.heap.size∧x.l[k]?=some t∧t.rd w∧w.rangeAt b (o+k * 7) t.cs.toList:=by
 obtain ⟨b,o,t,e,hb,ht,hc⟩:=Md h.r hk
 exact ⟨b,o,t,e,hb,ht,h.all t (CE ht),hc⟩
end Go.Proofs.YtijplolmkcdflaaGreat
namespace Go.Proofs.YtijplolmkcdflaaGreat
open Tryz
open Go.RowKit
section
variable {P : Program}
theorem Fq {ops:Array Oper} {rest:List Oper} {o:Oper} {a:Act} {w:World} {Q:Exit→Act→World→Prop} (hgd:o.guard=none) {t:TypeId} (x:Operand) {i:Nat} (ho:o.op=.build t #[(i,x)])
 {vx v:Value} (hx:a.eval x=vx) (hr:∀ w,(Instr.build t #[(i,vx)]).run P w=.ok v w)
 (h:wpList P ops Q rest (a.put o.dst v) w):wpList P ops Q (o::rest) a w:=by
 refine MO hgd fun K hK=>?_
 unfold Oper.wp execOp
 simp only [ho,PI,DI,EF,hx,IP,hr,JK,JJ]
 exact hK _ _ h
end
structure I1 (p:Pk) (w:World):Prop where
 f:AP p.f
 t:AP p.t
 lo:p.lo.length≤16
 hi:p.hi.length≤16
 set:w.ownsRow 0 9 1 (.slice p.set.A p.set.n p.set.c) p.set.n (p.set.l.map tx)
 sl:∀ x ∈ p.set.l,x.length≤16
 sn:p.set.n≤200
 b:AP p.MN
def Pk.D (p:Pk) (g:Nat):Prop:=p.set.v.ownBlock=some g
abbrev Oi (p:Pk):EE:=⟨p.D,I1 p⟩
theorem I1.rd {p:Pk} {w:World} (h:I1 p w):Pk.rd w p:=
 ⟨h.f,h.t,by have:=h.lo;omega,by have:=h.hi;omega,⟨by have:=Rd.Bf h.set;rw [FQ];exact this,fun t ht=>by have:=h.sl t ht;show t.length≤_;omega,by have:=h.sn;omega⟩,h.b⟩
theorem Ml {f t b:Int} {lo hi:List UInt8} {A:Option Addr} {n c:Nat} {set:List (List UInt8)} {g:Bool} {w:World} (h1:(Cb 9 1 (.slice A n c) n (set.map tx)).holds w) (hf:AP f) (ht:AP t) (hlo:lo.length≤16) (hhi:hi.length≤16) (hs:∀ x ∈ set,x.length≤16) (hn:n≤200) (hb:AP b):(Oi ⟨f,t,lo,hi,⟨A,n,c,set⟩,g,b⟩).holds w:=
 ⟨fun g hg=>h1.1 g hg,fun w' hs' hk=>⟨hf,ht,hlo,hhi,h1.2 w' hs' fun g hg=>hk g hg,hs,hn,hb⟩⟩
def Ad1 (b:Nat) (s:List UInt8) (o:PR PC) (w:World) (e:Ending) (w':World):Prop:=
 match o with
 |.error k=>Tj b s k w e w'
 |.ok (d,l)=>∃ D:Pk,e=.returned (.agg D.cs)∧D.Ac=d∧w.grownBy w' (some b)∧Gb w' b s l∧Uq w w' (Oi D)
theorem jZ (b:Nat) (s l:List UInt8) (w:World) (hR:Gb w b s l):
 Calls prog 102 #[.pointer (some ⟨b,0,none⟩)] w (Ad1 b s (Dj l) w):=by
 have hbw:=hR.lt
 have H:=Aa ((SL.O3 w hR).alloc #[.int .i64 0,.int .i64 0,.string ⟨#[]⟩,.string ⟨#[]⟩,.slice none 0 0,.bool false,.int .i64 0] 80)
 (try simp only [LS] at H)
 clear hR
 go_enter func102,ntmps102
 go_wp2_with fail
 generalize w.heap.size=y at *
 generalize World.alloc _ _=w1 at *
 have HT:=Aa (fun w (hr:Gb w b s l)=>Gp b s l 2 w hr (by omega) (by omega))
 cases hx:Et 2 l with
 |error e1=>
  have HE:Hid (Dj l=.error e1):=by show _=_;unfold Dj;rw [hx]
  rw [hx] at HT
  clear hx
  refine (HT _ (H.EN 0 rfl)).mono ?_;rintro e w2 ⟨rfl,hg,l3,hr⟩
  replace H:=Aa (H.BP 0 rfl hg hr);(try simp only [LS] at H)
  clear hg hr
  go_wp2_with fail
  refine ⟨rfl,?_⟩
  rw [HE.Ab]
  exact ⟨rfl,H.fr.grown,l3,H.EN 0 rfl⟩
 |ok q=>
  obtain ⟨f,r0⟩:=q
  have hf2:=(Ex hx).2.1
  have HP:Hid (Dj l=WY f (if f=1 then O6 r0 else if f=2 then Y9 r0 else .ok ((0,[],[],[]),r0))):=by show _=_;unfold Dj;rw [hx]
  rw [hx] at HT
  refine (HT _ (H.EN 0 rfl)).mono ?_;rintro e w2 ⟨rfl,hg,hr⟩
  replace H:=Aa (H.BP 0 rfl hg hr);(try simp only [LS] at H)
  clear hg hr HT hx
  go_upto_region 2 with (first|((with_reducible refine OP 7 ?_);refine Fq (vx:=.int .i64 (f:Nat)) (v:=.agg #[.int .i64 (f:Nat),.int .i64 0,.string ⟨#[]⟩,.string ⟨#[]⟩,.slice none 0 0,.bool false,.int .i64 0]) rfl (.tmp 6) rfl rfl (by intro w;kernel_rfl) ?_)|((with_reducible refine OS 3 ?_);(refine Fu Ea (#[.int .i64 (f:Nat),.int .i64 0,.string ⟨#[]⟩,.string ⟨#[]⟩,.slice none 0 0,.bool false,.int .i64 0]) (by simp [Value.oneCell']) ?_;replace H:=Aa (H.alloc (#[.int .i64 (f:Nat),.int .i64 0,.string ⟨#[]⟩,.string ⟨#[]⟩,.slice none 0 0,.bool false,.int .i64 0]) 80);(try simp only [LS] at H))))
  (try simp only [Act.put,LP])
  generalize w2.heap.size=z at *
  generalize World.alloc _ _=w2b at *
  have hf3:f=0∨f=1∨f=2:=by omega
  generalize hfi:((f:Nat):Int)=fi at H ⊢
  rcases hf3 with rfl|rfl|rfl
  ·obtain rfl:fi=0:=by omega
   obtain ⟨r1,hr1⟩:∃ r1,r1=r0:=⟨_,rfl⟩
   rw [←hr1] at HP H
   clear hr1
   have HO:Hid (Dj l=WY 0 (.ok ((0,[],[],[]),r1))):=by show _=_;rw [HP.Ab];(try rfl)
   clear HP
   have Ga:=(H.blk 2 rfl).Am 0
   go_wp2_with fail
   clear Ga
   replace H:=Aa (H.ES 9 1);(try simp only [LS] at H)
   have HT:=Aa (fun w (hr:Gb w b s r1)=>Gp b s r1 4 w hr (by omega) (by omega))
   cases RJ:Et 4 r1 with
   |error e1=>
    have HE:Hid (Dj l=.error e1):=by show _=_;rw [HO.Ab];unfold WY;simp only;rw [RJ]
    rw [RJ] at HT
    clear RJ
    refine (HT _ (H.EN 0 rfl)).mono ?_;rintro e w2 ⟨rfl,hg,l3,hr⟩
    replace H:=Aa (H.BP 0 rfl hg hr);(try simp only [LS] at H)
    clear hg hr
    go_wp2_with fail
    refine ⟨rfl,?_⟩
    rw [HE.Ab]
    exact ⟨rfl,H.fr.grown,l3,H.EN 0 rfl⟩
   |ok q=>
    obtain ⟨bn,l9⟩:=q
    have hbn:=(Ex RJ).2.1
    rw [RJ] at HT
    refine (HT _ (H.EN 0 rfl)).mono ?_;rintro e w7 ⟨rfl,hg,hr⟩
    replace H:=Aa (H.BP 0 rfl hg hr);(try simp only [LS] at H)
    clear hg hr HT
    by_cases hb0:bn=0
    ·subst hb0
     have wz:IntKind.i64.wrap ((0:Int) - 1)=-1:=rfl
     have mz:max (-1:Int) 0=0:=rfl
     have NJ:=(H.blk 2 rfl).Am 5;have D7:=(H.blk 2 rfl).frozen 5
     have aC:=(H.blk 2 rfl).Am 6;have D6:=(H.blk 2 rfl).frozen 6
     go_upto_region 12 with fail
     replace H:=Aa (H.setCell 2 rfl 5 (.bool false));(try simp only [LS] at H)
     replace H:=Aa (H.setCell 2 rfl 6 (.int .i64 0));(try simp only [LS] at H)
     clear NJ aC D7 D6
     obtain ⟨D,hD⟩:∃ D:Pk,D=⟨0,0,[],[],⟨none,0,0,[]⟩,false,0⟩:=⟨_,rfl⟩
     have hDs:D.cs=#[.int .i64 0,.int .i64 0,.string ⟨#[]⟩,.string ⟨#[]⟩,.slice none 0 0,.bool false,.int .i64 0]:=by rw [hD]
     have Gg:D.Ac=⟨0,0,[],[],[],false,0⟩:=by rw [hD]
     have IJ:Oi D=Oi ⟨0,0,[],[],⟨none,0,0,[]⟩,false,0⟩:=by rw [hD]
     replace H:=Aa (H.turn 3 rfl (Oi D) (by rw [IJ];exact Ml (H.get 3 rfl) (by unfold AP;omega) (by unfold AP;omega) (Bw _) (Bw _) (by intro x hx;cases hx) (Bw _) (by unfold AP;omega)) (by rw [hD];exact fun g hg=>hg));(try simp only [LS] at H)
     rw [←hDs] at H
     have HN:Hid (Dj l=.ok (D.Ac,l9)):=by show _=_;rw [HO.Ab,Gg];unfold WY;simp only;rw [RJ];(try rfl)
     clear hD hDs Gg IJ RJ HO
     go_wp2_with (first|((with_reducible refine OP 38 ?_);(refine Cx Ea (H.blk 2 rfl) ?_))|((with_reducible refine OS 2 ?_);(refine Ec Ea H 1 rfl (D.cs) (Nb D) ?_;clear H;intro wq H;(try simp only [LS] at H))))
     refine Ce (Aq rfl Ea rfl (H.blk 1 rfl) rfl) rfl ?_
     rw [HN.Ab]
     exact ⟨D,rfl,rfl,H.fr.grown,H.EN 0 rfl,H.get 3 rfl,H.RB 3 0 (by omega) rfl rfl rfl⟩
    ·have d1:decide ((0:Int)<(bn:Int))=true:=by simp<;>omega
     have d2:decide (0<bn)=true:=by simp<;>omega
     have wz:IntKind.i64.wrap ((bn:Int) - 1)=(bn:Int) - 1:=Kj _ (by omega)
     have mz:max ((bn:Int) - 1) 0=(bn:Int) - 1:=by omega
     have NJ:=(H.blk 2 rfl).Am 5;have D7:=(H.blk 2 rfl).frozen 5
     have aC:=(H.blk 2 rfl).Am 6;have D6:=(H.blk 2 rfl).frozen 6
     go_upto_region 12 with fail
     replace H:=Aa (H.setCell 2 rfl 5 (.bool true));(try simp only [LS] at H)
     replace H:=Aa (H.setCell 2 rfl 6 (.int .i64 ((bn:Int) - 1)));(try simp only [LS] at H)
     clear NJ aC D7 D6
     obtain ⟨D,hD⟩:∃ D:Pk,D=⟨0,0,[],[],⟨none,0,0,[]⟩,true,((bn:Int) - 1)⟩:=⟨_,rfl⟩
     have hDs:D.cs=#[.int .i64 0,.int .i64 0,.string ⟨#[]⟩,.string ⟨#[]⟩,.slice none 0 0,.bool true,.int .i64 ((bn:Int) - 1)]:=by rw [hD]
     have Gg:D.Ac=⟨0,0,[],[],[],true,((bn:Int) - 1)⟩:=by rw [hD]
     have IJ:Oi D=Oi ⟨0,0,[],[],⟨none,0,0,[]⟩,true,((bn:Int) - 1)⟩:=by rw [hD]
     replace H:=Aa (H.turn 3 rfl (Oi D) (by rw [IJ];exact Ml (H.get 3 rfl) (by unfold AP;omega) (by unfold AP;omega) (Bw _) (Bw _) (by intro x hx;cases hx) (Bw _) (by unfold AP;omega)) (by rw [hD];exact fun g hg=>hg));(try simp only [LS] at H)
     rw [←hDs] at H
     have HN:Hid (Dj l=.ok (D.Ac,l9)):=by show _=_;rw [HO.Ab,Gg];unfold WY;simp only;rw [RJ];simp only;rw [Ak (by omega),UU (by omega)];(try rfl)
     clear hD hDs Gg IJ RJ HO
     go_wp2_with (first|((with_reducible refine OP 38 ?_);(refine Cx Ea (H.blk 2 rfl) ?_))|((with_reducible refine OS 2 ?_);(refine Ec Ea H 1 rfl (D.cs) (Nb D) ?_;clear H;intro wq H;(try simp only [LS] at H))))
     refine Ce (Aq rfl Ea rfl (H.blk 1 rfl) rfl) rfl ?_
     rw [HN.Ab]
     exact ⟨D,rfl,rfl,H.fr.grown,H.EN 0 rfl,H.get 3 rfl,H.RB 3 0 (by omega) rfl rfl rfl⟩
  ·obtain rfl:fi=1:=by omega
   have K6:Hid (Dj l=WY 1 (O6 r0)):=by show _=_;rw [HP.Ab];(try rfl)
   clear HP
   have Ga:=(H.blk 2 rfl).Am 0
   have RU:=(H.blk 2 rfl).Am 1;have fc1:=(H.blk 2 rfl).frozen 1
   go_wp2_with fail
   have HT:=Aa (fun w (hr:Gb w b s r0)=>Gp b s r0 3 w hr (by omega) (by omega))
   cases hx:Et 3 r0 with
   |error e1=>
    have HE:Hid (Dj l=.error e1):=by show _=_;rw [K6.Ab];unfold O6;rw [hx];(try rfl)
    rw [hx] at HT
    clear hx
    refine (HT _ (H.EN 0 rfl)).mono ?_;rintro e w2 ⟨rfl,hg,l3,hr⟩
    replace H:=Aa (H.BP 0 rfl hg hr);(try simp only [LS] at H)
    clear hg hr
    go_wp2_with fail
    refine ⟨rfl,?_⟩
    rw [HE.Ab]
    exact ⟨rfl,H.fr.grown,l3,H.EN 0 rfl⟩
   |ok q=>
    obtain ⟨t,r2⟩:=q
    have ht3:=(Ex hx).2.1
    rw [hx] at HT
    have HO1:Hid (O6 r0=(match Eg 16 r2 with|.error k=>.error k|.ok (lo,r2)=>(match Eg 16 r2 with|.error k=>.error k|.ok (hi,r3)=>.ok (((t:Int),lo,hi,[]),r3)))):=by show _=_;unfold O6;rw [hx];(try rfl)
    refine (HT _ (H.EN 0 rfl)).mono ?_;rintro e w2 ⟨rfl,hg,hr⟩
    replace H:=Aa (H.BP 0 rfl hg hr);(try simp only [LS] at H)
    clear hg hr hx HT Ga RU fc1
    have RU:=(H.blk 2 rfl).Am 1;have fc1:=(H.blk 2 rfl).frozen 1
    go_wp2_with fail
    replace H:=Aa (H.setCell 2 rfl 1 (.int .i64 (t:Nat)));(try simp only [LS] at H)
    clear RU fc1
    have TZ:=(H.blk 2 rfl).Am 2;have fc2:=(H.blk 2 rfl).frozen 2
    have HT:=Aa (fun w (hr:Gb w b s r2)=>KQ b s r2 16 w hr (by omega) (by omega))
    cases hx:Eg 16 r2 with
    |error e1=>
     have HE:Hid (Dj l=.error e1):=by show _=_;rw [K6.Ab,HO1.Ab,hx];(try rfl)
     rw [hx] at HT
     clear hx
     refine (HT _ (H.EN 0 rfl)).mono ?_;rintro e w2 ⟨rfl,hg,l3,hr⟩
     replace H:=Aa (H.BP 0 rfl hg hr);(try simp only [LS] at H)
     clear hg hr
     go_wp2_with fail
     refine ⟨rfl,?_⟩
     rw [HE.Ab]
     exact ⟨rfl,H.fr.grown,l3,H.EN 0 rfl⟩
    |ok q=>
     obtain ⟨lo,r3⟩:=q
     have hlo:=(MX hx).1
     rw [hx] at HT
     have ZT:Hid (O6 r0=(match Eg 16 r3 with|.error k=>.error k|.ok (hi,r3)=>.ok (((t:Int),lo,hi,[]),r3))):=by show _=_;rw [HO1.Ab,hx];(try rfl)
     refine (HT _ (H.EN 0 rfl)).mono ?_;rintro e w3 ⟨rfl,hg,hr⟩
     replace H:=Aa (H.BP 0 rfl hg hr);(try simp only [LS] at H)
     clear hg hr hx HT TZ fc2
     have TZ:=(H.blk 2 rfl).Am 2;have fc2:=(H.blk 2 rfl).frozen 2
     go_wp2_with fail
     replace H:=Aa (H.setCell 2 rfl 2 (.string ⟨lo.toArray⟩));(try simp only [LS] at H)
     clear TZ fc2
     have cc3:=(H.blk 2 rfl).Am 3;have fc3:=(H.blk 2 rfl).frozen 3
     have HT:=Aa (fun w (hr:Gb w b s r3)=>KQ b s r3 16 w hr (by omega) (by omega))
     cases hx:Eg 16 r3 with
     |error e1=>
      have HE:Hid (Dj l=.error e1):=by show _=_;rw [K6.Ab,ZT.Ab,hx];(try rfl)
      rw [hx] at HT
      clear hx
      refine (HT _ (H.EN 0 rfl)).mono ?_;rintro e w2 ⟨rfl,hg,l3,hr⟩
      replace H:=Aa (H.BP 0 rfl hg hr);(try simp only [LS] at H)
      clear hg hr
      go_wp2_with fail
      refine ⟨rfl,?_⟩
      rw [HE.Ab]
      exact ⟨rfl,H.fr.grown,l3,H.EN 0 rfl⟩
     |ok q=>
      obtain ⟨hi,r1⟩:=q
      have hhi:=(MX hx).1
      rw [hx] at HT
      have HO:Hid (Dj l=WY 1 (.ok (((t:Int),lo,hi,[]),r1))):=by show _=_;rw [K6.Ab,ZT.Ab,hx];(try rfl)
      refine (HT _ (H.EN 0 rfl)).mono ?_;rintro e w4 ⟨rfl,hg,hr⟩
      replace H:=Aa (H.BP 0 rfl hg hr);(try simp only [LS] at H)
      clear hg hr hx HT cc3 fc3 K6 HO1 ZT
      have cc3:=(H.blk 2 rfl).Am 3;have fc3:=(H.blk 2 rfl).frozen 3
      go_wp2_with fail
      replace H:=Aa (H.setCell 2 rfl 3 (.string ⟨hi.toArray⟩));(try simp only [LS] at H)
      clear cc3 fc3
      replace H:=Aa (H.ES 9 1);(try simp only [LS] at H)
      have HT:=Aa (fun w (hr:Gb w b s r1)=>Gp b s r1 4 w hr (by omega) (by omega))
      cases RJ:Et 4 r1 with
      |error e1=>
       have HE:Hid (Dj l=.error e1):=by show _=_;rw [HO.Ab];unfold WY;simp only;rw [RJ]
       rw [RJ] at HT
       clear RJ
       refine (HT _ (H.EN 0 rfl)).mono ?_;rintro e w2 ⟨rfl,hg,l3,hr⟩
       replace H:=Aa (H.BP 0 rfl hg hr);(try simp only [LS] at H)
       clear hg hr
       go_wp2_with fail
       refine ⟨rfl,?_⟩
       rw [HE.Ab]
       exact ⟨rfl,H.fr.grown,l3,H.EN 0 rfl⟩
      |ok q=>
       obtain ⟨bn,l9⟩:=q
       have hbn:=(Ex RJ).2.1
       rw [RJ] at HT
       refine (HT _ (H.EN 0 rfl)).mono ?_;rintro e w7 ⟨rfl,hg,hr⟩
       replace H:=Aa (H.BP 0 rfl hg hr);(try simp only [LS] at H)
       clear hg hr HT
       by_cases hb0:bn=0
       ·subst hb0
        have wz:IntKind.i64.wrap ((0:Int) - 1)=-1:=rfl
        have mz:max (-1:Int) 0=0:=rfl
        have NJ:=(H.blk 2 rfl).Am 5;have D7:=(H.blk 2 rfl).frozen 5
        have aC:=(H.blk 2 rfl).Am 6;have D6:=(H.blk 2 rfl).frozen 6
        go_upto_region 12 with fail
        replace H:=Aa (H.setCell 2 rfl 5 (.bool false));(try simp only [LS] at H)
        replace H:=Aa (H.setCell 2 rfl 6 (.int .i64 0));(try simp only [LS] at H)
        clear NJ aC D7 D6
        obtain ⟨D,hD⟩:∃ D:Pk,D=⟨1,t,lo,hi,⟨none,0,0,[]⟩,false,0⟩:=⟨_,rfl⟩
        have hDs:D.cs=#[.int .i64 1,.int .i64 t,.string ⟨lo.toArray⟩,.string ⟨hi.toArray⟩,.slice none 0 0,.bool false,.int .i64 0]:=by rw [hD]
        have Gg:D.Ac=⟨1,t,lo,hi,[],false,0⟩:=by rw [hD]
        have IJ:Oi D=Oi ⟨1,t,lo,hi,⟨none,0,0,[]⟩,false,0⟩:=by rw [hD]
        replace H:=Aa (H.turn 3 rfl (Oi D) (by rw [IJ];exact Ml (H.get 3 rfl) (by unfold AP;omega) (by unfold AP;omega) (by omega) (by omega) (by intro x hx;cases hx) (Bw _) (by unfold AP;omega)) (by rw [hD];exact fun g hg=>hg));(try simp only [LS] at H)
        rw [←hDs] at H
        have HN:Hid (Dj l=.ok (D.Ac,l9)):=by show _=_;rw [HO.Ab,Gg];unfold WY;simp only;rw [RJ];(try rfl)
        clear hD hDs Gg IJ RJ HO
        go_wp2_with (first|((with_reducible refine OP 38 ?_);(refine Cx Ea (H.blk 2 rfl) ?_))|((with_reducible refine OS 2 ?_);(refine Ec Ea H 1 rfl (D.cs) (Nb D) ?_;clear H;intro wq H;(try simp only [LS] at H))))
        refine Ce (Aq rfl Ea rfl (H.blk 1 rfl) rfl) rfl ?_
        rw [HN.Ab]
        exact ⟨D,rfl,rfl,H.fr.grown,H.EN 0 rfl,H.get 3 rfl,H.RB 3 0 (by omega) rfl rfl rfl⟩
       ·have d1:decide ((0:Int)<(bn:Int))=true:=by simp<;>omega
        have d2:decide (0<bn)=true:=by simp<;>omega
        have wz:IntKind.i64.wrap ((bn:Int) - 1)=(bn:Int) - 1:=Kj _ (by omega)
        have mz:max ((bn:Int) - 1) 0=(bn:Int) - 1:=by omega
        have NJ:=(H.blk 2 rfl).Am 5;have D7:=(H.blk 2 rfl).frozen 5
        have aC:=(H.blk 2 rfl).Am 6;have D6:=(H.blk 2 rfl).frozen 6
        go_upto_region 12 with fail
        replace H:=Aa (H.setCell 2 rfl 5 (.bool true));(try simp only [LS] at H)
        replace H:=Aa (H.setCell 2 rfl 6 (.int .i64 ((bn:Int) - 1)));(try simp only [LS] at H)
        clear NJ aC D7 D6
        obtain ⟨D,hD⟩:∃ D:Pk,D=⟨1,t,lo,hi,⟨none,0,0,[]⟩,true,((bn:Int) - 1)⟩:=⟨_,rfl⟩
        have hDs:D.cs=#[.int .i64 1,.int .i64 t,.string ⟨lo.toArray⟩,.string ⟨hi.toArray⟩,.slice none 0 0,.bool true,.int .i64 ((bn:Int) - 1)]:=by rw [hD]
        have Gg:D.Ac=⟨1,t,lo,hi,[],true,((bn:Int) - 1)⟩:=by rw [hD]
        have IJ:Oi D=Oi ⟨1,t,lo,hi,⟨none,0,0,[]⟩,true,((bn:Int) - 1)⟩:=by rw [hD]
        replace H:=Aa (H.turn 3 rfl (Oi D) (by rw [IJ];exact Ml (H.get 3 rfl) (by unfold AP;omega) (by unfold AP;omega) (by omega) (by omega) (by intro x hx;cases hx) (Bw _) (by unfold AP;omega)) (by rw [hD];exact fun g hg=>hg));(try simp only [LS] at H)
        rw [←hDs] at H
        have HN:Hid (Dj l=.ok (D.Ac,l9)):=by show _=_;rw [HO.Ab,Gg];unfold WY;simp only;rw [RJ];simp only;rw [Ak (by omega),UU (by omega)];(try rfl)
        clear hD hDs Gg IJ RJ HO
        go_wp2_with (first|((with_reducible refine OP 38 ?_);(refine Cx Ea (H.blk 2 rfl) ?_))|((with_reducible refine OS 2 ?_);(refine Ec Ea H 1 rfl (D.cs) (Nb D) ?_;clear H;intro wq H;(try simp only [LS] at H))))
        refine Ce (Aq rfl Ea rfl (H.blk 1 rfl) rfl) rfl ?_
        rw [HN.Ab]
        exact ⟨D,rfl,rfl,H.fr.grown,H.EN 0 rfl,H.get 3 rfl,H.RB 3 0 (by omega) rfl rfl rfl⟩
  ·obtain rfl:fi=2:=by omega
   have K6:Hid (Dj l=WY 2 (Y9 r0)):=by show _=_;rw [HP.Ab];(try rfl)
   clear HP
   have Ga:=(H.blk 2 rfl).Am 0
   have RU:=(H.blk 2 rfl).Am 1;have fc1:=(H.blk 2 rfl).frozen 1
   go_wp2_with fail
   have HT:=Aa (fun w (hr:Gb w b s r0)=>Gp b s r0 3 w hr (by omega) (by omega))
   cases hx:Et 3 r0 with
   |error e1=>
    have HE:Hid (Dj l=.error e1):=by show _=_;rw [K6.Ab];unfold Y9;rw [hx];(try rfl)
    rw [hx] at HT
    clear hx
    refine (HT _ (H.EN 0 rfl)).mono ?_;rintro e w2 ⟨rfl,hg,l3,hr⟩
    replace H:=Aa (H.BP 0 rfl hg hr);(try simp only [LS] at H)
    clear hg hr
    go_wp2_with fail
    refine ⟨rfl,?_⟩
    rw [HE.Ab]
    exact ⟨rfl,H.fr.grown,l3,H.EN 0 rfl⟩
   |ok q=>
    obtain ⟨t,r2⟩:=q
    have ht3:=(Ex hx).2.1
    rw [hx] at HT
    have HO1:Hid (Y9 r0=(match tread 200 r2 with|.error k=>.error k|.ok (set,r2)=>.ok (((t:Int),[],[],set),r2))):=by show _=_;unfold Y9;rw [hx];(try rfl)
    refine (HT _ (H.EN 0 rfl)).mono ?_;rintro e w2 ⟨rfl,hg,hr⟩
    replace H:=Aa (H.BP 0 rfl hg hr);(try simp only [LS] at H)
    clear hg hr hx HT Ga RU fc1
    have RU:=(H.blk 2 rfl).Am 1;have fc1:=(H.blk 2 rfl).frozen 1
    go_wp2_with fail
    replace H:=Aa (H.setCell 2 rfl 1 (.int .i64 (t:Nat)));(try simp only [LS] at H)
    clear RU fc1
    have cc4:=(H.blk 2 rfl).Am 4;have fc4:=(H.blk 2 rfl).frozen 4
    have HT:=Aa (fun w (hr:Gb w b s r2)=>XH b s r2 200 w hr (by omega) (by omega) (by omega))
    cases hx:tread 200 r2 with
    |error e1=>
     have HE:Hid (Dj l=.error e1):=by show _=_;rw [K6.Ab,HO1.Ab,hx];(try rfl)
     rw [hx] at HT
     clear hx
     refine (HT _ (H.EN 0 rfl)).mono ?_;rintro e w2 ⟨rfl,hg,l3,hr⟩
     replace H:=Aa (H.BP 0 rfl hg hr);(try simp only [LS] at H)
     clear hg hr
     go_wp2_with fail
     refine ⟨rfl,?_⟩
     rw [HE.Ab]
     exact ⟨rfl,H.fr.grown,l3,H.EN 0 rfl⟩
    |ok q=>
     obtain ⟨set,r1⟩:=q
     have hsn:set.length≤200:=by have:=XF hx;omega
     have HSL:Hid (∀ x ∈ set,x.length≤16):=fun x hx'=>Gv (MR hx).1 hx'
     have HO:Hid (Dj l=WY 2 (.ok (((t:Int),[],[],set),r1))):=by show _=_;rw [K6.Ab,HO1.Ab,hx];(try rfl)
     rw [hx] at HT
     refine (HT _ (H.EN 0 rfl)).mono ?_;rintro e w3 ⟨v,rfl,hxx⟩
     obtain ⟨SA,SC,rfl,_⟩:=Ao hxx.own
     replace H:=Aa (H.Gc 0 rfl hxx.g hxx.r (Cb 9 1 (.slice SA set.length SC) set.length (set.map tx)) (Gf hxx.own) (fun g hg=>Gj hxx.own hg));(try simp only [LS] at H)
     clear hx hxx HT cc4 fc4 K6 HO1
     have cc4:=(H.blk 2 rfl).Am 4;have fc4:=(H.blk 2 rfl).frozen 4
     go_wp2_with fail
     replace H:=Aa (H.setCell 2 rfl 4 (.slice SA set.length SC));(try simp only [LS] at H)
     clear cc4 fc4
     have HT:=Aa (fun w (hr:Gb w b s r1)=>Gp b s r1 4 w hr (by omega) (by omega))
     cases RJ:Et 4 r1 with
     |error e1=>
      have HE:Hid (Dj l=.error e1):=by show _=_;rw [HO.Ab];unfold WY;simp only;rw [RJ]
      rw [RJ] at HT
      clear RJ
      refine (HT _ (H.EN 0 rfl)).mono ?_;rintro e w2 ⟨rfl,hg,l3,hr⟩
      replace H:=Aa (H.BP 0 rfl hg hr);(try simp only [LS] at H)
      clear hg hr
      go_wp2_with fail
      refine ⟨rfl,?_⟩
      rw [HE.Ab]
      exact ⟨rfl,H.fr.grown,l3,H.EN 0 rfl⟩
     |ok q=>
      obtain ⟨bn,l9⟩:=q
      have hbn:=(Ex RJ).2.1
      rw [RJ] at HT
      refine (HT _ (H.EN 0 rfl)).mono ?_;rintro e w7 ⟨rfl,hg,hr⟩
      replace H:=Aa (H.BP 0 rfl hg hr);(try simp only [LS] at H)
      clear hg hr HT
      by_cases hb0:bn=0
      ·subst hb0
       have wz:IntKind.i64.wrap ((0:Int) - 1)=-1:=rfl
       have mz:max (-1:Int) 0=0:=rfl
       have NJ:=(H.blk 2 rfl).Am 5;have D7:=(H.blk 2 rfl).frozen 5
       have aC:=(H.blk 2 rfl).Am 6;have D6:=(H.blk 2 rfl).frozen 6
       go_upto_region 12 with fail
       replace H:=Aa (H.setCell 2 rfl 5 (.bool false));(try simp only [LS] at H)
       replace H:=Aa (H.setCell 2 rfl 6 (.int .i64 0));(try simp only [LS] at H)
       clear NJ aC D7 D6
       obtain ⟨D,hD⟩:∃ D:Pk,D=⟨2,t,[],[],⟨SA,set.length,SC,set⟩,false,0⟩:=⟨_,rfl⟩
       have hDs:D.cs=#[.int .i64 2,.int .i64 t,.string ⟨#[]⟩,.string ⟨#[]⟩,.slice SA set.length SC,.bool false,.int .i64 0]:=by rw [hD]
       have Gg:D.Ac=⟨2,t,[],[],set,false,0⟩:=by rw [hD]
       have IJ:Oi D=Oi ⟨2,t,[],[],⟨SA,set.length,SC,set⟩,false,0⟩:=by rw [hD]
       replace H:=Aa (H.turn 3 rfl (Oi D) (by rw [IJ];exact Ml (H.get 3 rfl) (by unfold AP;omega) (by unfold AP;omega) (Bw _) (Bw _) HSL hsn (by unfold AP;omega)) (by rw [hD];exact fun g hg=>hg));(try simp only [LS] at H)
       rw [←hDs] at H
       have HN:Hid (Dj l=.ok (D.Ac,l9)):=by show _=_;rw [HO.Ab,Gg];unfold WY;simp only;rw [RJ];(try rfl)
       clear hD hDs Gg IJ RJ HO
       go_wp2_with (first|((with_reducible refine OP 38 ?_);(refine Cx Ea (H.blk 2 rfl) ?_))|((with_reducible refine OS 2 ?_);(refine Ec Ea H 1 rfl (D.cs) (Nb D) ?_;clear H;intro wq H;(try simp only [LS] at H))))
       refine Ce (Aq rfl Ea rfl (H.blk 1 rfl) rfl) rfl ?_
       rw [HN.Ab]
       exact ⟨D,rfl,rfl,H.fr.grown,H.EN 0 rfl,H.get 3 rfl,H.RB 3 0 (by omega) rfl rfl rfl⟩
      ·have d1:decide ((0:Int)<(bn:Int))=true:=by simp<;>omega
       have d2:decide (0<bn)=true:=by simp<;>omega
       have wz:IntKind.i64.wrap ((bn:Int) - 1)=(bn:Int) - 1:=Kj _ (by omega)
       have mz:max ((bn:Int) - 1) 0=(bn:Int) - 1:=by omega
       have NJ:=(H.blk 2 rfl).Am 5;have D7:=(H.blk 2 rfl).frozen 5
       have aC:=(H.blk 2 rfl).Am 6;have D6:=(H.blk 2 rfl).frozen 6
       go_upto_region 12 with fail
       replace H:=Aa (H.setCell 2 rfl 5 (.bool true));(try simp only [LS] at H)
       replace H:=Aa (H.setCell 2 rfl 6 (.int .i64 ((bn:Int) - 1)));(try simp only [LS] at H)
       clear NJ aC D7 D6
       obtain ⟨D,hD⟩:∃ D:Pk,D=⟨2,t,[],[],⟨SA,set.length,SC,set⟩,true,((bn:Int) - 1)⟩:=⟨_,rfl⟩
       have hDs:D.cs=#[.int .i64 2,.int .i64 t,.string ⟨#[]⟩,.string ⟨#[]⟩,.slice SA set.length SC,.bool true,.int .i64 ((bn:Int) - 1)]:=by rw [hD]
       have Gg:D.Ac=⟨2,t,[],[],set,true,((bn:Int) - 1)⟩:=by rw [hD]
       have IJ:Oi D=Oi ⟨2,t,[],[],⟨SA,set.length,SC,set⟩,true,((bn:Int) - 1)⟩:=by rw [hD]
       replace H:=Aa (H.turn 3 rfl (Oi D) (by rw [IJ];exact Ml (H.get 3 rfl) (by unfold AP;omega) (by unfold AP;omega) (Bw _) (Bw _) HSL hsn (by unfold AP;omega)) (by rw [hD];exact fun g hg=>hg));(try simp only [LS] at H)
       rw [←hDs] at H
       have HN:Hid (Dj l=.ok (D.Ac,l9)):=by show _=_;rw [HO.Ab,Gg];unfold WY;simp only;rw [RJ];simp only;rw [Ak (by omega),UU (by omega)];(try rfl)
       clear hD hDs Gg IJ RJ HO
       go_wp2_with (first|((with_reducible refine OP 38 ?_);(refine Cx Ea (H.blk 2 rfl) ?_))|((with_reducible refine OS 2 ?_);(refine Ec Ea H 1 rfl (D.cs) (Nb D) ?_;clear H;intro wq H;(try simp only [LS] at H))))
       refine Ce (Aq rfl Ea rfl (H.blk 1 rfl) rfl) rfl ?_
       rw [HN.Ab]
       exact ⟨D,rfl,rfl,H.fr.grown,H.EN 0 rfl,H.get 3 rfl,H.RB 3 0 (by omega) rfl rfl rfl⟩
theorem WH (x:Row (List UInt8)) (w:World) (hx:x.rd w) (hn:x.n≤1000000):
 Calls prog 137 #[.slice x.A x.n x.c] w fun e w'=>∃ (A:Option Addr) (c:Nat),e=.returned (.slice A x.n c)∧Aj w w'∧w'.ownsRow w.heap.size 9 1 (.slice A x.n c) x.n (x.l.map tx):=by
 have hr:Rd w 1 x.A x.n (x.l.map tx):=hx.texts
 have hlen:Hid (x.l.length=x.n):=hx.len
 obtain ⟨A,n,c,l⟩:=x
 simp only at *
 clear hx
 cases A with
 |none=>
  obtain rfl:n=0:=by
   rcases Tt n with h|h
   ·exact h
   ·obtain ⟨ad,e,_⟩:=hr.2 h;cases e
  have hl:l=[]:=Km hlen.Ab
  subst hl
  have he:=fun (c:Nat) (w:World)=>Tu (P:=prog) w 23 9 none 0 c 0 0 underlying23
  go_enter func137,ntmps137
  go_wp2
  go_ret
  exact ⟨none,0,rfl,Aj.refl _,QW _ _ _ _⟩
 |some ad=>
  have he:=fun (n c:Nat) (w:World)=>Tu (P:=prog) w 23 9 (some ad) n c 0 0 underlying23
  have hbs:∀ w:World,(Instr.buildSlice 23 0 #[]).run prog w=.ok (.slice (some ⟨w.heap.size,0,none⟩) 0 0) (w.alloc (.cells #[] 9)):=fun _=>by kernel_rfl
  have hown:(w.alloc (.cells #[] 9)).ownsRow w.heap.size 9 1 (.slice (some ⟨w.heap.size,0,none⟩) 0 0) 0 []:=⟨rfl,.inr ⟨w.heap.size,0,#[],rfl,BZ _,Qn w _,BZ _,Bw _,rfl,rfl⟩⟩
  go_enter func137,ntmps137
  go_wp2_with ((with_reducible refine OP 7 ?_);refine KO rfl (.tmp 5) (.tmp 6) _ rfl JC w ((Aj.refl w).alloc _) _ 0 [] rfl hown (some ad) n c (l.map tx) rfl (hr.Au ((Aj.refl w).alloc _)) (by simp [Value.oneCell',tx]) (by unfold maxLen;omega) (by omega) ?_;intro v2 w2 hown2 hB2 hg2 hat2)
  go_ret
  simp only [Hw,Fy] at hown2
  obtain ⟨A2,c2,rfl,hc2⟩:=Ao hown2
  exact ⟨A2,c2,rfl,hB2,hown2⟩
theorem mO (x:Row (Int)) (w:World) (hx:x.rd w) (hn:x.n≤1000000):
 Calls prog 69 #[.slice x.A x.n x.c] w fun e w'=>∃ (A:Option Addr) (c:Nat),e=.returned (.slice A x.n c)∧Aj w w'∧w'.ownsRow w.heap.size 3 1 (.slice A x.n c) x.n (x.l.map (Value.int .i64)):=by
 have hr:Rd w 1 x.A x.n (x.l.map (Value.int .i64)):=hx.ints
 have hlen:Hid (x.l.length=x.n):=hx.len
 obtain ⟨A,n,c,l⟩:=x
 simp only at *
 clear hx
 cases A with
 |none=>
  obtain rfl:n=0:=by
   rcases Tt n with h|h
   ·exact h
   ·obtain ⟨ad,e,_⟩:=hr.2 h;cases e
  have hl:l=[]:=Km hlen.Ab
  subst hl
  have he:=fun (c:Nat) (w:World)=>Tu (P:=prog) w 47 3 none 0 c 0 0 underlying47
  go_enter func69,ntmps69
  go_wp2
  go_ret
  exact ⟨none,0,rfl,Aj.refl _,QW _ _ _ _⟩
 |some ad=>
  have he:=fun (n c:Nat) (w:World)=>Tu (P:=prog) w 47 3 (some ad) n c 0 0 underlying47
  have hbs:∀ w:World,(Instr.buildSlice 47 0 #[]).run prog w=.ok (.slice (some ⟨w.heap.size,0,none⟩) 0 0) (w.alloc (.cells #[] 3)):=fun _=>by kernel_rfl
  have hown:(w.alloc (.cells #[] 3)).ownsRow w.heap.size 3 1 (.slice (some ⟨w.heap.size,0,none⟩) 0 0) 0 []:=⟨rfl,.inr ⟨w.heap.size,0,#[],rfl,BZ _,Qn w _,BZ _,Bw _,rfl,rfl⟩⟩
  go_enter func69,ntmps69
  go_wp2_with ((with_reducible refine OP 7 ?_);refine KO rfl (.tmp 5) (.tmp 6) _ rfl Lf w ((Aj.refl w).alloc _) _ 0 [] rfl hown (some ad) n c (l.map (Value.int .i64)) rfl (hr.Au ((Aj.refl w).alloc _)) (by simp [Value.oneCell',tx]) (by unfold maxLen;omega) (by omega) ?_;intro v2 w2 hown2 hB2 hg2 hat2)
  go_ret
  simp only [Hw,Fy] at hown2
  obtain ⟨A2,c2,rfl,hc2⟩:=Ao hown2
  exact ⟨A2,c2,rfl,hB2,hown2⟩
theorem oH {s:SC} (h:Ap s=0):∀ d ∈ s.DF,d.nm.length≤12∧d.AB.length≤4∧∀ t ∈ d.AB,t.nm.length≤12∧(∀ x ∈ t.ts,x.length≤16)∧t.ts.length≤200∧t.up.length≤200:=fun d hd=>by
 have h1:=(BA h).2.2.1 d hd
 obtain ⟨h2,h3,h4,h5⟩:=Ej h1
 refine ⟨(DW h2).2,h4,fun t ht=>?_⟩
 obtain ⟨a,ha⟩:=Pn (FR h5) ht
 obtain ⟨e1,_,e3,e4,_⟩:=Du ha
 exact ⟨(DW e1).2,fun x hx=>Gv e4 hx,e3,Qo ha⟩
theorem RV (s:Ev) (w:World) (hs:s.rd w) (hE:Ap s.Ac=0):
 Calls prog 92 #[.agg s.cs] w fun e w'=>∃ D:Ev,e=.returned (.agg D.cs)∧D.Ac=s.Ac∧Aj w w'∧Uq w w' (KU D):=by
 obtain ⟨e1,e2,e3,e4,e5,e6⟩:=BA hE
 have HTI:=Aa (oH hE)
 have hl1:Hid (s.dm.l.length=s.dm.n):=hs.dm.len
 have hl2:Hid (s.ms.l.length=s.ms.n):=hs.ms.len
 have hn16:s.dm.n≤16:=by have:=hl1.Ab;have:s.Ac.DF.length=s.dm.l.length:=Cq ..;omega
 have hm3:s.ms.n≤3:=by have:=hl2.Ab;have:s.Ac.ms.length=s.ms.l.length:=rfl;omega
 have HD:=Aa hs.dm
 have HCM:=Aa (fun w' (hb:Aj w w')=>WH s.ms w' (hs.ms.mono hb) (by omega))
 have qD:Hid (∀ m ∈ s.ms.l,m.length≤12):=fun m hm=>(DW (e6 m hm)).2
 have H:=Aa (((SL.start No w).alloc s.cs 25).alloc #[.slice none 0 0,.slice none 0 0] 25)
 (try simp only [LS] at H)
 obtain ⟨⟨DA,n,cn,ds⟩,⟨MA,mn,mc,ms⟩⟩:=s
 simp only [Ev.cs,Ev.Ac] at *
 clear hs hE e1 e2 e3 e4 e5 e6
 go_enter func92,ntmps92
 have cs1:=(H.blk 0 rfl).Am 1
 go_wp2_with fail
 refine (HCM _ H.to).mono ?_;rintro e w1 ⟨MB,md,rfl,hb1,hown⟩
 replace H:=Aa (H.CJ hb1 hown);(try simp only [LS] at H)
 clear hb1 hown HCM cs1
 generalize w.heap.size+1=y at *
 generalize w.heap.size=x at *
 have hbd:∀ w:World,(Instr.build 25 #[(1,.slice MB mn md)]).run prog w=.ok (.agg #[.slice none 0 0,.slice MB mn md]) w:=fun _=>by kernel_rfl
 have cs0:=(H.blk 0 rfl).Am 0
 go_upto_region 2 with (first|((with_reducible refine OP 12 ?_);refine Fq (vx:=.slice MB mn md) (v:=.agg #[.slice none 0 0,.slice MB mn md]) rfl (.tmp 11) rfl rfl hbd ?_)|((with_reducible refine OS 3 ?_);(refine Fu BL (#[.slice none 0 0,.slice MB mn md]) (by simp [Value.oneCell']) ?_;replace H:=Aa (H.alloc (#[.slice none 0 0,.slice MB mn md]) 25);(try simp only [LS] at H))))
 (try simp only [Act.put,LP])
 clear hbd cs0
 generalize w1.heap.size=z at *
 generalize World.alloc w1 _=w2 at *
 replace H:=Aa (H.ES 73 2);(try simp only [LS] at H)
 replace H:=Aa (H.add (Aj.refl _) (BK Xj []) (Df _ _) Iy);(try simp only [LS] at H)
 replace H:=Aa (H.Gh [0,1,3,4,5,2] (by decide) (by simp));(try simp only [LS] at H)
 have cs0:=(H.blk 0 rfl).Am 0
 go_wp2_with fail
 clear cs0
 have HN:Hid (([]:List Dm).map Dm.Ac=(ds.map Dm.Ac).take 0):=rfl
 go_loopg [16] n (fun gg i wr=>∃ (k:Nat) (acc:List Dm) (A:Option Addr) (c:Nat),gg=n - k∧k≤n∧i=.int .i64 k∧Hid (acc.length=k)∧Hid (SL No w wr [Av x 25 #[.slice DA n cn,.slice MA mn mc],Av y 25 #[.slice none 0 0,.slice none 0 0],Av z 25 #[.slice A k c,.slice MB mn md],Cb 73 2 (.slice A k c) k (acc.flatMap Ar.cells),BK Xj acc,Cb 9 1 (.slice MB mn md) mn (ms.map tx)])∧Hid (acc.map Dm.Ac=(ds.map Dm.Ac).take k))
 case atStart=>exact ⟨0,[],none,0,rfl,by omega,rfl,rfl,H,HN⟩
 case round=>
  clear H HN
  obtain ⟨k,acc,A,c,BG,hk,rfl,hkc,H,HN⟩:=hrel
  obtain ⟨W0,hW0⟩:∃ W0,W0=wr:=⟨_,rfl⟩
  subst hW0
  have Cg:=Aa BG
  clear BG
  by_cases hlt:k<n
  ·obtain ⟨b1,o1,D,hA,hb1,UC,IJ,hrg1⟩:=(HD.mono H.to).Ta (k:=k) hlt
   simp only at hA
   subst hA
   have Gg:(ds.map Dm.Ac)[k]?=some D.Ac:=by rw [DD,UC];(try rfl)
   have wI:=Aa Gg
   obtain ⟨hnm,htn4,htt⟩:=HTI D.Ac (CE Gg)
   have wS:=Aa htt
   replace IJ:=HD.all D (CE UC)
   have wH:=Aa (fun w' (hb:Aj w w')=>IJ.tr.mono hb)
   have tl:Hid (D.tr.l.length=D.tr.n):=IJ.tr.len
   have HR:=Aa hrg1
   have i0:(0:Int)≤k:=by omega
   have i1:(k:Int)<n:=by omega
   clear UC IJ hrg1 hb1 Gg htt
   obtain ⟨nm,⟨TA,tn,tc,AB⟩⟩:=D
   simp only [Dm.cs,Dm.Ac,Cq] at *
   have htn:tn≤4:=by have:=tl.Ab;omega
   go_upto_region 5 with (first|((with_reducible refine OP 19 ?_);(refine Ae rfl Dl (.tmp 18) rfl b1 (o1+k * 2) rfl #[.string ⟨nm.toArray⟩,.slice TA tn tc] rfl HR.Ab ?_))|((with_reducible refine OS 5 ?_);(refine Fu Dl (#[.string ⟨nm.toArray⟩,.slice TA tn tc]) (by simp [Value.oneCell']) ?_;replace H:=Aa (H.alloc (#[.string ⟨nm.toArray⟩,.slice TA tn tc]) 73);(try simp only [LS] at H))))
   (try simp only [Act.put,LP])
   clear HR
   generalize W0.heap.size=u at *
   generalize World.alloc W0 _=w5 at *
   have hbd:∀ w:World,(Instr.build 73 #[(0,.string ⟨nm.toArray⟩)]).run prog w=.ok (.agg #[.string ⟨nm.toArray⟩,.slice none 0 0]) w:=fun _=>by kernel_rfl
   have cn0:=(H.blk 6 rfl).Am 0
   go_upto_region 6 with (first|((with_reducible refine OP 22 ?_);refine Fq (vx:=.string ⟨nm.toArray⟩) (v:=.agg #[.string ⟨nm.toArray⟩,.slice none 0 0]) rfl (.tmp 21) rfl rfl hbd ?_)|((with_reducible refine OS 6 ?_);(refine Fu Dl (#[.string ⟨nm.toArray⟩,.slice none 0 0]) (by simp [Value.oneCell']) ?_;replace H:=Aa (H.alloc (#[.string ⟨nm.toArray⟩,.slice none 0 0]) 73);(try simp only [LS] at H))))
   (try simp only [Act.put,LP])
   clear hbd cn0
   generalize w5.heap.size=v at *
   generalize World.alloc w5 _=w6 at *
   replace H:=Aa (H.ES 75 3);(try simp only [LS] at H)
   replace H:=Aa (H.add (Aj.refl _) (BK Pt []) (Df _ _) Iy);(try simp only [LS] at H)
   have cn1:=(H.blk 6 rfl).Am 1
   go_wp2_with fail
   clear cn1
   have H0N:=HN
   clear HN
   have Il:Hid (([]:List Bg).map Bg.Ac=(AB.map Bg.Ac).take 0):=rfl
   go_loopg [26] tn (fun gg i wr=>∃ (j:Nat) (Lh:List Bg) (B:Option Addr) (e:Nat),gg=tn - j∧j≤tn∧i=.int .i64 j∧Hid (Lh.length=j)∧Hid (SL No w wr [Av x 25 #[.slice (some ⟨b1,o1,none⟩) n cn,.slice MA mn mc],Av y 25 #[.slice none 0 0,.slice none 0 0],Av z 25 #[.slice A k c,.slice MB mn md],Cb 73 2 (.slice A k c) k (acc.flatMap Ar.cells),BK Xj acc,Cb 9 1 (.slice MB mn md) mn (ms.map tx),Av u 73 #[.string ⟨nm.toArray⟩,.slice TA tn tc],Av v 73 #[.string ⟨nm.toArray⟩,.slice B j e],Cb 75 3 (.slice B j e) j (Lh.flatMap Ar.cells),BK Pt Lh])∧Hid (Lh.map Bg.Ac=(AB.map Bg.Ac).take j))
   case atStart=>exact ⟨0,[],none,0,rfl,by omega,rfl,rfl,H,Il⟩
   case round=>
    clear H Il
    obtain ⟨j,Lh,B,e,hgj,hj,rfl,hjc,H,Il⟩:=hrel
    have Kv:=Aa hgj
    clear hgj
    by_cases hjlt:j<tn
    ·obtain ⟨b2,o2,Tr,hB2,hb2,wO,hTr,hrg2⟩:=(wH _ H.to).JN (k:=j) hjlt
     simp only at hB2
     subst hB2
     have Yp:(AB.map Bg.Ac)[j]?=some Tr.Ac:=by rw [DD,wO];(try rfl)
     obtain ⟨f1,f2,f3,f4⟩:=wS Tr.Ac (CE Yp)
     have l1:Tr.ts.l.length=Tr.ts.n:=hTr.ts.len
     have l2:Tr.up.l.length=Tr.up.n:=hTr.up.len
     simp only at f1 f2 f3 f4
     have Kh:Hid (Tr.nm.length≤12∧(∀ t ∈ Tr.ts.l,t.length≤16)∧(∀ z ∈ Tr.up.l,AP z)∧Tr.ts.n≤200∧Tr.up.n≤200):=⟨f1,f2,hTr.up.all,by omega,by omega⟩
     have HCT:=Aa (fun w' (hb:Aj wr w')=>WH Tr.ts w' (hTr.ts.mono hb) (by omega))
     have HCI:=Aa (fun w' (hb:Aj wr w')=>mO Tr.up w' (hTr.up.mono hb) (by omega))
     have hn3:Tr.ts.n≤200:=by omega
     have hn4:Tr.up.n≤200:=by omega
     have HN:Hid (∀ X:Bg,X.Ac=Tr.Ac→(Lh++[X]).map Bg.Ac=(AB.map Bg.Ac).take (j+1)):=fun X hX=>by rw [BR,Il.Ab,Ci Yp,←hX];(try rfl)
     have HR:=Aa hrg2
     have j0:(0:Int)≤j:=by omega
     have j1:(j:Int)<tn:=by omega
     clear wO hTr hrg2 hb2 Yp f1 f2 f3 f4 l1 l2 Il
     obtain ⟨NU,⟨A3,n3,c3,ts⟩,⟨A4,n4,c4,ups⟩⟩:=Tr
     simp only [Bg.cs] at *
     go_upto_region 9 with (first|((with_reducible refine OP 29 ?_);(refine Ae rfl Es (.tmp 28) rfl b2 (o2+j * 3) rfl #[.string ⟨NU.toArray⟩,.slice A3 n3 c3,.slice A4 n4 c4] rfl HR.Ab ?_))|((with_reducible refine OS 8 ?_);(refine Fu Es (#[.string ⟨NU.toArray⟩,.slice A3 n3 c3,.slice A4 n4 c4]) (by simp [Value.oneCell']) ?_;replace H:=Aa (H.alloc (#[.string ⟨NU.toArray⟩,.slice A3 n3 c3,.slice A4 n4 c4]) 75);(try simp only [LS] at H))))
     (try simp only [Act.put,LP])
     have HB:=Aa ((Aj.refl wr).alloc (.cells #[.string ⟨NU.toArray⟩,.slice A3 n3 c3,.slice A4 n4 c4] 75))
     clear HR
     generalize wr.heap.size=t8 at *
     generalize World.alloc wr _=w7 at *
     refine EG (S:=fun w=>w.cell? ⟨t8,0,none⟩=some (.string ⟨NU.toArray⟩)∧w.cell? ⟨t8,1,none⟩=some (.slice A3 n3 c3)∧w.cell? ⟨t8,2,none⟩=some (.slice A4 n4 c4)) (by kernel_rfl) (by exact ⟨(H.blk 10 rfl).cell 0,(H.blk 10 rfl).cell 1,(H.blk 10 rfl).cell 2⟩) fun hHeld=>?_
     replace H:=Aa (H.drew)
     refine BJ NG ?_
     refine BJ NW ?_
     refine BJ KF ?_
     refine BJ Mr ?_
     refine BJ Lv ?_
     refine BJ LX ?_
     refine BJ Px ?_
     refine NV KG Mq (fun KK Ad=>?_) fun KK Ad=>?_
     ·have cv:=(H.blk 7 rfl).Am 1
      go_simp
      clear cv
      refine Ai Ad (by exact ⟨(H.blk 10 rfl).cell 0,(H.blk 10 rfl).cell 1,(H.blk 10 rfl).cell 2⟩) fun hHeld=>?_
      clear Ad KK
      refine BD Mq fun KK Ad=>?_
      go_simp
      refine (HCT _ HB.drew).mono ?_;rintro e' w6 ⟨A5,c5,rfl,hb6,hown6⟩
      replace H:=Aa (H.CJ hb6 hown6);(try simp only [LS] at H)
      replace HB:=Aa (HB.drew.trans hb6)
      clear hb6 hown6
      refine Ai Ad (by exact ⟨(H.blk 10 rfl).cell 0,(H.blk 10 rfl).cell 1,(H.blk 10 rfl).cell 2⟩) fun hHeld=>?_
      clear Ad KK
      refine BD Qb fun KK Ad=>?_
      go_simp
      refine (HCI _ HB.Ab).mono ?_;rintro e' w7 ⟨A6,c6,rfl,oZ,TR⟩
      replace H:=Aa (H.CJ oZ TR);(try simp only [LS] at H)
      replace HB:=Aa (HB.trans oZ)
      clear oZ TR
      refine Ai Ad (by exact ⟨(H.blk 10 rfl).cell 0,(H.blk 10 rfl).cell 1,(H.blk 10 rfl).cell 2⟩) fun hHeld=>?_
      clear Ad KK
      refine BD Jj fun KK Ad=>?_
      go_simp
      refine Ai Ad (by exact ⟨(H.blk 10 rfl).cell 0,(H.blk 10 rfl).cell 1,(H.blk 10 rfl).cell 2⟩) fun hHeld=>?_
      clear Ad KK
      refine BD IL fun KK Ad=>?_
      refine Bc rfl NM (.tmp 40) rfl (#[.string ⟨NU.toArray⟩,.slice A5 n3 c5,.slice A6 n4 c6]) rfl rfl (by omega) ?_
      replace H:=Aa (H.CJ ((Aj.refl _).alloc _) (Dc _ 75 (#[.string ⟨NU.toArray⟩,.slice A5 n3 c5,.slice A6 n4 c6]) _ rfl));(try simp only [LS] at H)
      refine Ai Ad (by exact ⟨(H.blk 10 rfl).cell 0,(H.blk 10 rfl).cell 1,(H.blk 10 rfl).cell 2⟩) fun hHeld=>?_
      clear Ad KK
      refine BD Ji fun KK Ad=>?_
      refine Aw rfl (.tmp 31) (.tmp 41) _ rfl NM 0 (Bw _) _ j _ rfl (H.row 8 rfl) _ 1 1 _ rfl (Rd.Bf (H.row 13 rfl)) (by simp [Value.oneCell']) (by unfold maxLen;omega) (by omega) ?_
      intro vq wq AR Ay Bb
      replace H:=Aa (H.setRow 8 rfl Ay AR Bb);(try simp only [LS] at H)
      clear AR Ay Bb
      obtain ⟨B9,e9,rfl,_⟩:=Ao (H.row 8 rfl)
      refine Ai Ad (by exact ⟨(H.blk 10 rfl).cell 0,(H.blk 10 rfl).cell 1,(H.blk 10 rfl).cell 2⟩) fun hHeld=>?_
      clear Ad KK
      refine BD KZ fun KK Ad=>?_
      go_simp
      refine Ai Ad (by exact ⟨(H.blk 10 rfl).cell 0,(H.blk 10 rfl).cell 1,(H.blk 10 rfl).cell 2⟩) fun hHeld=>?_
      clear Ad KK
      refine BD Ms fun KK Ad=>?_
      have cv:=(H.blk 7 rfl).Am 1;have fv:=(H.blk 7 rfl).frozen 1
      go_simp
      replace H:=Aa (H.setCell 7 rfl 1 (.slice B9 (j+1) e9));(try simp only [LS] at H)
      clear cv fv
      refine Ai Ad (by exact ⟨(H.blk 10 rfl).cell 0,(H.blk 10 rfl).cell 1,(H.blk 10 rfl).cell 2⟩) fun hHeld=>?_
      clear Ad KK
      refine BX ?_
      clear hHeld
      clear HB
      replace H:=Aa (H.both 11 12 (by omega) rfl rfl (Pt ⟨NU,⟨A5,n3,c5,ts⟩,⟨A6,n4,c6,ups⟩⟩) (KE (base:=0) (show FJ 0 ⟨NU,⟨A5,n3,c5,ts⟩,⟨A6,n4,c6,ups⟩⟩ _ from ⟨H.row 11 rfl,H.row 12 rfl,Kh.1,Kh.2.1,Kh.2.2.1,Kh.2.2.2.1,Kh.2.2.2.2⟩)) (fun g hg=>hg));(try simp only [LS] at H)
      replace H:=Aa (H.both 9 11 (by omega) rfl rfl (BK Pt (Lh++[⟨NU,⟨A5,n3,c5,ts⟩,⟨A6,n4,c6,ups⟩⟩])) (Bq (H.get 9 rfl) (H.get 11 rfl)) Co);(try simp only [LS] at H)
      replace H:=Aa (H.Gh [0,1,2,3,4,5,6,7,8,9] (by decide) (by simp));(try simp only [LS] at H)
      go_wp2_with fail
      go_roundg (tn - (j+1))
      case rel=>exact ⟨j+1,Lh++[⟨NU,⟨A5,n3,c5,ts⟩,⟨A6,n4,c6,ups⟩⟩],B9,e9,rfl,by omega,by go_num,by show _=_;rw [BQ,hjc.Ab];(try rfl),by rw [FD,CY,IM,EZ];exact H,Aa (HN _ rfl)⟩
      case measure=>rw [Kv.Ab];omega
     ·go_simp
      refine (HCT _ HB.drew).mono ?_;rintro e' w6 ⟨A5,c5,rfl,hb6,hown6⟩
      replace H:=Aa (H.CJ hb6 hown6);(try simp only [LS] at H)
      replace HB:=Aa (HB.drew.trans hb6)
      clear hb6 hown6
      refine Ai Ad (by exact ⟨(H.blk 10 rfl).cell 0,(H.blk 10 rfl).cell 1,(H.blk 10 rfl).cell 2⟩) fun hHeld=>?_
      clear Ad KK
      refine NV KG Qb (fun KK Ad=>?_) fun KK Ad=>?_
      ·have cv:=(H.blk 7 rfl).Am 1
       go_simp
       clear cv
       refine Ai Ad (by exact ⟨(H.blk 10 rfl).cell 0,(H.blk 10 rfl).cell 1,(H.blk 10 rfl).cell 2⟩) fun hHeld=>?_
       clear Ad KK
       refine BD Qb fun KK Ad=>?_
       go_simp
       refine (HCI _ HB.Ab).mono ?_;rintro e' w7 ⟨A6,c6,rfl,oZ,TR⟩
       replace H:=Aa (H.CJ oZ TR);(try simp only [LS] at H)
       replace HB:=Aa (HB.trans oZ)
       clear oZ TR
       refine Ai Ad (by exact ⟨(H.blk 10 rfl).cell 0,(H.blk 10 rfl).cell 1,(H.blk 10 rfl).cell 2⟩) fun hHeld=>?_
       clear Ad KK
       refine BD Jj fun KK Ad=>?_
       go_simp
       refine Ai Ad (by exact ⟨(H.blk 10 rfl).cell 0,(H.blk 10 rfl).cell 1,(H.blk 10 rfl).cell 2⟩) fun hHeld=>?_
       clear Ad KK
       refine BD IL fun KK Ad=>?_
       refine Bc rfl NM (.tmp 40) rfl (#[.string ⟨NU.toArray⟩,.slice A5 n3 c5,.slice A6 n4 c6]) rfl rfl (by omega) ?_
       replace H:=Aa (H.CJ ((Aj.refl _).alloc _) (Dc _ 75 (#[.string ⟨NU.toArray⟩,.slice A5 n3 c5,.slice A6 n4 c6]) _ rfl));(try simp only [LS] at H)
       refine Ai Ad (by exact ⟨(H.blk 10 rfl).cell 0,(H.blk 10 rfl).cell 1,(H.blk 10 rfl).cell 2⟩) fun hHeld=>?_
       clear Ad KK
       refine BD Ji fun KK Ad=>?_
       refine Aw rfl (.tmp 31) (.tmp 41) _ rfl NM 0 (Bw _) _ j _ rfl (H.row 8 rfl) _ 1 1 _ rfl (Rd.Bf (H.row 13 rfl)) (by simp [Value.oneCell']) (by unfold maxLen;omega) (by omega) ?_
       intro vq wq AR Ay Bb
       replace H:=Aa (H.setRow 8 rfl Ay AR Bb);(try simp only [LS] at H)
       clear AR Ay Bb
       obtain ⟨B9,e9,rfl,_⟩:=Ao (H.row 8 rfl)
       refine Ai Ad (by exact ⟨(H.blk 10 rfl).cell 0,(H.blk 10 rfl).cell 1,(H.blk 10 rfl).cell 2⟩) fun hHeld=>?_
       clear Ad KK
       refine BD KZ fun KK Ad=>?_
       go_simp
       refine Ai Ad (by exact ⟨(H.blk 10 rfl).cell 0,(H.blk 10 rfl).cell 1,(H.blk 10 rfl).cell 2⟩) fun hHeld=>?_
       clear Ad KK
       refine BD Ms fun KK Ad=>?_
       have cv:=(H.blk 7 rfl).Am 1;have fv:=(H.blk 7 rfl).frozen 1
       go_simp
       replace H:=Aa (H.setCell 7 rfl 1 (.slice B9 (j+1) e9));(try simp only [LS] at H)
       clear cv fv
       refine Ai Ad (by exact ⟨(H.blk 10 rfl).cell 0,(H.blk 10 rfl).cell 1,(H.blk 10 rfl).cell 2⟩) fun hHeld=>?_
       clear Ad KK
       refine BX ?_
       clear hHeld
       clear HB
       replace H:=Aa (H.both 11 12 (by omega) rfl rfl (Pt ⟨NU,⟨A5,n3,c5,ts⟩,⟨A6,n4,c6,ups⟩⟩) (KE (base:=0) (show FJ 0 ⟨NU,⟨A5,n3,c5,ts⟩,⟨A6,n4,c6,ups⟩⟩ _ from ⟨H.row 11 rfl,H.row 12 rfl,Kh.1,Kh.2.1,Kh.2.2.1,Kh.2.2.2.1,Kh.2.2.2.2⟩)) (fun g hg=>hg));(try simp only [LS] at H)
       replace H:=Aa (H.both 9 11 (by omega) rfl rfl (BK Pt (Lh++[⟨NU,⟨A5,n3,c5,ts⟩,⟨A6,n4,c6,ups⟩⟩])) (Bq (H.get 9 rfl) (H.get 11 rfl)) Co);(try simp only [LS] at H)
       replace H:=Aa (H.Gh [0,1,2,3,4,5,6,7,8,9] (by decide) (by simp));(try simp only [LS] at H)
       go_wp2_with fail
       go_roundg (tn - (j+1))
       case rel=>exact ⟨j+1,Lh++[⟨NU,⟨A5,n3,c5,ts⟩,⟨A6,n4,c6,ups⟩⟩],B9,e9,rfl,by omega,by go_num,by show _=_;rw [BQ,hjc.Ab];(try rfl),by rw [FD,CY,IM,EZ];exact H,Aa (HN _ rfl)⟩
       case measure=>rw [Kv.Ab];omega
      ·go_simp
       refine (HCI _ HB.Ab).mono ?_;rintro e' w7 ⟨A6,c6,rfl,oZ,TR⟩
       replace H:=Aa (H.CJ oZ TR);(try simp only [LS] at H)
       replace HB:=Aa (HB.trans oZ)
       clear oZ TR
       refine Ai Ad (by exact ⟨(H.blk 10 rfl).cell 0,(H.blk 10 rfl).cell 1,(H.blk 10 rfl).cell 2⟩) fun hHeld=>?_
       clear Ad KK
       refine NV KG Jj (fun KK Ad=>?_) fun KK Ad=>?_
       ·have cv:=(H.blk 7 rfl).Am 1
        go_simp
        clear cv
        refine Ai Ad (by exact ⟨(H.blk 10 rfl).cell 0,(H.blk 10 rfl).cell 1,(H.blk 10 rfl).cell 2⟩) fun hHeld=>?_
        clear Ad KK
        refine BD Jj fun KK Ad=>?_
        go_simp
        refine Ai Ad (by exact ⟨(H.blk 10 rfl).cell 0,(H.blk 10 rfl).cell 1,(H.blk 10 rfl).cell 2⟩) fun hHeld=>?_
        clear Ad KK
        refine BD IL fun KK Ad=>?_
        refine Bc rfl NM (.tmp 40) rfl (#[.string ⟨NU.toArray⟩,.slice A5 n3 c5,.slice A6 n4 c6]) rfl rfl (by omega) ?_
        replace H:=Aa (H.CJ ((Aj.refl _).alloc _) (Dc _ 75 (#[.string ⟨NU.toArray⟩,.slice A5 n3 c5,.slice A6 n4 c6]) _ rfl));(try simp only [LS] at H)
        refine Ai Ad (by exact ⟨(H.blk 10 rfl).cell 0,(H.blk 10 rfl).cell 1,(H.blk 10 rfl).cell 2⟩) fun hHeld=>?_
        clear Ad KK
        refine BD Ji fun KK Ad=>?_
        refine Aw rfl (.tmp 31) (.tmp 41) _ rfl NM 0 (Bw _) _ j _ rfl (H.row 8 rfl) _ 1 1 _ rfl (Rd.Bf (H.row 13 rfl)) (by simp [Value.oneCell']) (by unfold maxLen;omega) (by omega) ?_
        intro vq wq AR Ay Bb
        replace H:=Aa (H.setRow 8 rfl Ay AR Bb);(try simp only [LS] at H)
        clear AR Ay Bb
        obtain ⟨B9,e9,rfl,_⟩:=Ao (H.row 8 rfl)
        refine Ai Ad (by exact ⟨(H.blk 10 rfl).cell 0,(H.blk 10 rfl).cell 1,(H.blk 10 rfl).cell 2⟩) fun hHeld=>?_
        clear Ad KK
        refine BD KZ fun KK Ad=>?_
        go_simp
        refine Ai Ad (by exact ⟨(H.blk 10 rfl).cell 0,(H.blk 10 rfl).cell 1,(H.blk 10 rfl).cell 2⟩) fun hHeld=>?_
        clear Ad KK
        refine BD Ms fun KK Ad=>?_
        have cv:=(H.blk 7 rfl).Am 1;have fv:=(H.blk 7 rfl).frozen 1
        go_simp
        replace H:=Aa (H.setCell 7 rfl 1 (.slice B9 (j+1) e9));(try simp only [LS] at H)
        clear cv fv
        refine Ai Ad (by exact ⟨(H.blk 10 rfl).cell 0,(H.blk 10 rfl).cell 1,(H.blk 10 rfl).cell 2⟩) fun hHeld=>?_
        clear Ad KK
        refine BX ?_
        clear hHeld
        clear HB
        replace H:=Aa (H.both 11 12 (by omega) rfl rfl (Pt ⟨NU,⟨A5,n3,c5,ts⟩,⟨A6,n4,c6,ups⟩⟩) (KE (base:=0) (show FJ 0 ⟨NU,⟨A5,n3,c5,ts⟩,⟨A6,n4,c6,ups⟩⟩ _ from ⟨H.row 11 rfl,H.row 12 rfl,Kh.1,Kh.2.1,Kh.2.2.1,Kh.2.2.2.1,Kh.2.2.2.2⟩)) (fun g hg=>hg));(try simp only [LS] at H)
        replace H:=Aa (H.both 9 11 (by omega) rfl rfl (BK Pt (Lh++[⟨NU,⟨A5,n3,c5,ts⟩,⟨A6,n4,c6,ups⟩⟩])) (Bq (H.get 9 rfl) (H.get 11 rfl)) Co);(try simp only [LS] at H)
        replace H:=Aa (H.Gh [0,1,2,3,4,5,6,7,8,9] (by decide) (by simp));(try simp only [LS] at H)
        go_wp2_with fail
        go_roundg (tn - (j+1))
        case rel=>exact ⟨j+1,Lh++[⟨NU,⟨A5,n3,c5,ts⟩,⟨A6,n4,c6,ups⟩⟩],B9,e9,rfl,by omega,by go_num,by show _=_;rw [BQ,hjc.Ab];(try rfl),by rw [FD,CY,IM,EZ];exact H,Aa (HN _ rfl)⟩
        case measure=>rw [Kv.Ab];omega
       ·go_simp
        refine Ai Ad (by exact ⟨(H.blk 10 rfl).cell 0,(H.blk 10 rfl).cell 1,(H.blk 10 rfl).cell 2⟩) fun hHeld=>?_
        clear Ad KK
        refine NV KG IL (fun KK Ad=>?_) fun KK Ad=>?_
        ·have cv:=(H.blk 7 rfl).Am 1
         go_simp
         clear cv
         refine Ai Ad (by exact ⟨(H.blk 10 rfl).cell 0,(H.blk 10 rfl).cell 1,(H.blk 10 rfl).cell 2⟩) fun hHeld=>?_
         clear Ad KK
         refine BD IL fun KK Ad=>?_
         refine Bc rfl NM (.tmp 40) rfl (#[.string ⟨NU.toArray⟩,.slice A5 n3 c5,.slice A6 n4 c6]) rfl rfl (by omega) ?_
         replace H:=Aa (H.CJ ((Aj.refl _).alloc _) (Dc _ 75 (#[.string ⟨NU.toArray⟩,.slice A5 n3 c5,.slice A6 n4 c6]) _ rfl));(try simp only [LS] at H)
         refine Ai Ad (by exact ⟨(H.blk 10 rfl).cell 0,(H.blk 10 rfl).cell 1,(H.blk 10 rfl).cell 2⟩) fun hHeld=>?_
         clear Ad KK
         refine BD Ji fun KK Ad=>?_
         refine Aw rfl (.tmp 31) (.tmp 41) _ rfl NM 0 (Bw _) _ j _ rfl (H.row 8 rfl) _ 1 1 _ rfl (Rd.Bf (H.row 13 rfl)) (by simp [Value.oneCell']) (by unfold maxLen;omega) (by omega) ?_
         intro vq wq AR Ay Bb
         replace H:=Aa (H.setRow 8 rfl Ay AR Bb);(try simp only [LS] at H)
         clear AR Ay Bb
         obtain ⟨B9,e9,rfl,_⟩:=Ao (H.row 8 rfl)
         refine Ai Ad (by exact ⟨(H.blk 10 rfl).cell 0,(H.blk 10 rfl).cell 1,(H.blk 10 rfl).cell 2⟩) fun hHeld=>?_
         clear Ad KK
         refine BD KZ fun KK Ad=>?_
         go_simp
         refine Ai Ad (by exact ⟨(H.blk 10 rfl).cell 0,(H.blk 10 rfl).cell 1,(H.blk 10 rfl).cell 2⟩) fun hHeld=>?_
         clear Ad KK
         refine BD Ms fun KK Ad=>?_
         have cv:=(H.blk 7 rfl).Am 1;have fv:=(H.blk 7 rfl).frozen 1
         go_simp
         replace H:=Aa (H.setCell 7 rfl 1 (.slice B9 (j+1) e9));(try simp only [LS] at H)
         clear cv fv
         refine Ai Ad (by exact ⟨(H.blk 10 rfl).cell 0,(H.blk 10 rfl).cell 1,(H.blk 10 rfl).cell 2⟩) fun hHeld=>?_
         clear Ad KK
         refine BX ?_
         clear hHeld
         clear HB
         replace H:=Aa (H.both 11 12 (by omega) rfl rfl (Pt ⟨NU,⟨A5,n3,c5,ts⟩,⟨A6,n4,c6,ups⟩⟩) (KE (base:=0) (show FJ 0 ⟨NU,⟨A5,n3,c5,ts⟩,⟨A6,n4,c6,ups⟩⟩ _ from ⟨H.row 11 rfl,H.row 12 rfl,Kh.1,Kh.2.1,Kh.2.2.1,Kh.2.2.2.1,Kh.2.2.2.2⟩)) (fun g hg=>hg));(try simp only [LS] at H)
         replace H:=Aa (H.both 9 11 (by omega) rfl rfl (BK Pt (Lh++[⟨NU,⟨A5,n3,c5,ts⟩,⟨A6,n4,c6,ups⟩⟩])) (Bq (H.get 9 rfl) (H.get 11 rfl)) Co);(try simp only [LS] at H)
         replace H:=Aa (H.Gh [0,1,2,3,4,5,6,7,8,9] (by decide) (by simp));(try simp only [LS] at H)
         go_wp2_with fail
         go_roundg (tn - (j+1))
         case rel=>exact ⟨j+1,Lh++[⟨NU,⟨A5,n3,c5,ts⟩,⟨A6,n4,c6,ups⟩⟩],B9,e9,rfl,by omega,by go_num,by show _=_;rw [BQ,hjc.Ab];(try rfl),by rw [FD,CY,IM,EZ];exact H,Aa (HN _ rfl)⟩
         case measure=>rw [Kv.Ab];omega
        ·refine Bc rfl NM (.tmp 40) rfl (#[.string ⟨NU.toArray⟩,.slice A5 n3 c5,.slice A6 n4 c6]) rfl rfl (by omega) ?_
         replace H:=Aa (H.CJ ((Aj.refl _).alloc _) (Dc _ 75 (#[.string ⟨NU.toArray⟩,.slice A5 n3 c5,.slice A6 n4 c6]) _ rfl));(try simp only [LS] at H)
         refine Ai Ad (by exact ⟨(H.blk 10 rfl).cell 0,(H.blk 10 rfl).cell 1,(H.blk 10 rfl).cell 2⟩) fun hHeld=>?_
         clear Ad KK
         refine BD KG fun KK Ad=>?_
         have cv:=(H.blk 7 rfl).Am 1
         go_simp
         clear cv
         refine Ai Ad (by exact ⟨(H.blk 10 rfl).cell 0,(H.blk 10 rfl).cell 1,(H.blk 10 rfl).cell 2⟩) fun hHeld=>?_
         clear Ad KK
         refine BD Ji fun KK Ad=>?_
         refine Aw rfl (.tmp 31) (.tmp 41) _ rfl NM 0 (Bw _) _ j _ rfl (H.row 8 rfl) _ 1 1 _ rfl (Rd.Bf (H.row 13 rfl)) (by simp [Value.oneCell']) (by unfold maxLen;omega) (by omega) ?_
         intro vq wq AR Ay Bb
         replace H:=Aa (H.setRow 8 rfl Ay AR Bb);(try simp only [LS] at H)
         clear AR Ay Bb
         obtain ⟨B9,e9,rfl,_⟩:=Ao (H.row 8 rfl)
         refine Ai Ad (by exact ⟨(H.blk 10 rfl).cell 0,(H.blk 10 rfl).cell 1,(H.blk 10 rfl).cell 2⟩) fun hHeld=>?_
         clear Ad KK
         refine BD KZ fun KK Ad=>?_
         go_simp
         refine Ai Ad (by exact ⟨(H.blk 10 rfl).cell 0,(H.blk 10 rfl).cell 1,(H.blk 10 rfl).cell 2⟩) fun hHeld=>?_
         clear Ad KK
         refine BD Ms fun KK Ad=>?_
         have cv:=(H.blk 7 rfl).Am 1;have fv:=(H.blk 7 rfl).frozen 1
         go_simp
         replace H:=Aa (H.setCell 7 rfl 1 (.slice B9 (j+1) e9));(try simp only [LS] at H)
         clear cv fv
         refine Ai Ad (by exact ⟨(H.blk 10 rfl).cell 0,(H.blk 10 rfl).cell 1,(H.blk 10 rfl).cell 2⟩) fun hHeld=>?_
         clear Ad KK
         refine BX ?_
         clear hHeld
         clear HB
         replace H:=Aa (H.both 11 12 (by omega) rfl rfl (Pt ⟨NU,⟨A5,n3,c5,ts⟩,⟨A6,n4,c6,ups⟩⟩) (KE (base:=0) (show FJ 0 ⟨NU,⟨A5,n3,c5,ts⟩,⟨A6,n4,c6,ups⟩⟩ _ from ⟨H.row 11 rfl,H.row 12 rfl,Kh.1,Kh.2.1,Kh.2.2.1,Kh.2.2.2.1,Kh.2.2.2.2⟩)) (fun g hg=>hg));(try simp only [LS] at H)
         replace H:=Aa (H.both 9 11 (by omega) rfl rfl (BK Pt (Lh++[⟨NU,⟨A5,n3,c5,ts⟩,⟨A6,n4,c6,ups⟩⟩])) (Bq (H.get 9 rfl) (H.get 11 rfl)) Co);(try simp only [LS] at H)
         replace H:=Aa (H.Gh [0,1,2,3,4,5,6,7,8,9] (by decide) (by simp));(try simp only [LS] at H)
         go_wp2_with fail
         go_roundg (tn - (j+1))
         case rel=>exact ⟨j+1,Lh++[⟨NU,⟨A5,n3,c5,ts⟩,⟨A6,n4,c6,ups⟩⟩],B9,e9,rfl,by omega,by go_num,by show _=_;rw [BQ,hjc.Ab];(try rfl),by rw [FD,CY,IM,EZ];exact H,Aa (HN _ rfl)⟩
         case measure=>rw [Kv.Ab];omega
    ·obtain rfl:j=tn:=by omega
     have HN3:Hid ((acc++[(⟨nm,⟨B,j,e,Lh⟩⟩:Dm)]).map Dm.Ac=(ds.map Dm.Ac).take (k+1)):=by
      show _=_
      rw [BR,H0N.Ab,Ci wI.Ab]
      have h:=Il.Ab
      rw [DY (by rw [Cq,tl.Ab];omega)] at h
      show _++[(⟨nm,Lh.map Bg.Ac⟩:DC)]=_
      rw [h]
     clear Il
     replace H:=Aa (H.both 8 9 (by omega) rfl rfl (Xj ⟨nm,⟨B,j,e,Lh⟩⟩) (eD (by omega) (by omega) (H.get 8 rfl) (H.get 9 rfl)) (fun g hg=>hg));(try simp only [LS] at H)
     have cz0:=(H.blk 2 rfl).Am 0
     go_wp2_with (first|((with_reducible refine OP 47 ?_);(refine Cx Dl (H.blk 7 rfl) ?_))|((with_reducible refine OP 48 ?_);(refine Cr rfl iB (.tmp 47) rfl (#[.string ⟨nm.toArray⟩,.slice B j e]) rfl rfl (by omega) ?_;replace H:=Aa (H.CJ ((Aj.refl _).alloc _) (Dc _ 73 (#[.string ⟨nm.toArray⟩,.slice B j e]) _ rfl));(try simp only [LS] at H);clear cz0;have cz0:=(H.blk 2 rfl).Am 0))|((with_reducible refine OP 49 ?_);(refine BI rfl (.tmp 46) (.tmp 48) _ rfl iB 0 (Bw _) _ k _ rfl (H.row 3 rfl) _ 1 1 _ rfl (Rd.Bf (H.row 9 rfl)) (UD ⟨nm,⟨B,j,e,Lh⟩⟩) (by unfold maxLen;omega) (by omega) ?_;intro vq wq AR Ay Bb;replace H:=Aa (H.setRow 3 rfl Ay AR Bb);(try simp only [LS] at H);clear AR Ay Bb;obtain ⟨A9,c9,rfl,_⟩:=Ao (H.row 3 rfl);clear cz0;have cz0:=(H.blk 2 rfl).Am 0;have fz0:=(H.blk 2 rfl).frozen 0)))
     replace H:=Aa (H.setCell 2 rfl 0 (.slice A9 (k+1) c9));(try simp only [LS] at H)
     replace H:=Aa (H.both 4 8 (by omega) rfl rfl (BK Xj (acc++[⟨nm,⟨B,j,e,Lh⟩⟩])) (Bq (H.get 4 rfl) (H.get 8 rfl)) Co);(try simp only [LS] at H)
     replace H:=Aa (H.Gh [0,1,2,3,4,5] (by decide) (by simp));(try simp only [LS] at H)
     clear cz0 fz0
     go_wp2_with fail
     go_roundg (n - (k+1))
     case rel=>exact ⟨k+1,acc++[⟨nm,⟨B,j,e,Lh⟩⟩],A9,c9,rfl,by omega,by go_num,by show _=_;rw [BQ,hkc.Ab];(try rfl),by rw [FD,CY,IM,EZ];exact H,HN3⟩
     case measure=>rw [Cg.Ab];omega
  ·obtain rfl:k=n:=by omega
   have HN3:Hid (acc.map Dm.Ac=ds.map Dm.Ac):=by
    have h:=HN.Ab
    rw [DY (by rw [Cq,hl1.Ab];omega)] at h
    exact h
   replace H:=Aa (H.both 3 4 (by omega) rfl rfl (rX acc A k c) (oV (H.get 3 rfl) (H.get 4 rfl)) (fun g hg=>hg));(try simp only [LS] at H)
   replace H:=Aa (H.both 3 4 (by omega) rfl rfl (KU ⟨⟨A,k,c,acc⟩,⟨MB,mn,md,ms⟩⟩) (SV (P8 (H.get 3 rfl)).1 (P8 (H.get 3 rfl)).2 (H.get 4 rfl) qD (by omega) (by omega)) (fun g hg=>hg.elim (fun h=>.inl (.inl h)) (fun h=>h.elim (fun h=>.inl (.inr h)) .inr)));(try simp only [LS] at H)
   go_wp2_with (first|((with_reducible refine OP 52 ?_);(refine Cx BL (H.blk 2 rfl) ?_))|((with_reducible refine OS 2 ?_);(refine Ec BL H 1 rfl (#[.slice A k c,.slice MB mn md]) (by simp [Value.oneCell']) ?_;clear H;intro wq H;(try simp only [LS] at H))))
   refine Ce (Aq rfl BL rfl (H.blk 1 rfl) rfl) rfl ?_
   exact ⟨⟨⟨A,k,c,acc⟩,⟨MB,mn,md,ms⟩⟩,rfl,by show (⟨_,_⟩:SC)=⟨_,_⟩;rw [HN3.Ab],H.to,H.get 3 rfl,H.new 3 rfl⟩
end Go.Proofs.YtijplolmkcdflaaGreat
namespace Go.Proofs.YtijplolmkcdflaaGreat
open Tryz
open Go.RowKit Go.ChangeShapes Go.WideShapes Go.Deep
structure Ct where
 sc:Ev
 fa:Int
 p0:Int
 q0:Int
 p1:Int
 q1:Int
 p2:Int
 q2:Int
abbrev Ct.cs (s:Ct):Array Value:=#[.slice s.sc.dm.A s.sc.dm.n s.sc.dm.c,.slice s.sc.ms.A s.sc.ms.n s.sc.ms.c,.int .i64 s.fa,.int .i64 s.p0,.int .i64 s.q0,.int .i64 s.p1,.int .i64 s.q1,.int .i64 s.p2,.int .i64 s.q2]
structure Ct.rd (w:World) (s:Ct):Prop where
 sc:s.sc.rd w
 fa:AP s.fa
 p0:AP s.p0
 q0:AP s.q0
 p1:AP s.p1
 q1:AP s.q1
 p2:AP s.p2
 q2:AP s.q2
theorem Ct.rd.mono {w w':World} {s:Ct} (h:s.rd w) (hb:Aj w w'):s.rd w':=⟨h.sc.mono hb,h.fa,h.p0,h.q0,h.p1,h.q1,h.p2,h.q2⟩
@[ext] structure CC where
 sc:SC
 fa:Int
 p0:Int
 q0:Int
 p1:Int
 q1:Int
 p2:Int
 q2:Int
abbrev Ct.Ac (s:Ct):CC:=⟨s.sc.Ac,s.fa,s.p0,s.q0,s.p1,s.q1,s.p2,s.q2⟩
abbrev Ct.nil:Ct:=⟨Ev.nil,0,0,0,0,0,0,0⟩
abbrev CC.nil:CC:=⟨SC.nil,0,0,0,0,0,0,0⟩
theorem WA (s:Ct):s.cs.all (·.oneCell')=true:=by simp [Value.oneCell']
theorem Dy:AP 0:=by unfold AP;omega
theorem Yv (w:World):Ct.nil.rd w:=⟨jJ w,Dy,Dy,Dy,Dy,Dy,Dy,Dy⟩
theorem Cw:DV prog 63 9:=⟨⟨_,underlying63,rfl⟩,by kernel_rfl⟩
theorem CO:DV prog 60 2:=⟨⟨_,underlying60,rfl⟩,by kernel_rfl⟩
theorem Aa7:DV prog 61 6:=⟨⟨_,underlying61,rfl⟩,by kernel_rfl⟩
theorem Br.part {w:World} {g:Nat} {t:TypeId} {cs:Array Value} (h:Br w g t cs) (o:Nat) (l:List Value) (hl:(cs.toList.drop o).take l.length=l):w.rangeAt g o l:=fun j v hv=>by
 rw [h.cell]
 rw [←hl,Qk] at hv
 split at hv
 ·rw [KN] at hv
  simpa using hv
 ·cases hv
def Dq (m:Int) (i:Int) (p q:Int):Bool:=!(decide (0≤p) && decide (q≤0))||(decide (m≤i) && !(decide (p=0) && decide (q=0)))
def Cj (c:CC):Int:=
 if Ap c.sc≠0 then Ap c.sc
 else if c.fa<0∨4000<c.fa then 6
 else if Dq c.sc.ms.length 0 c.p0 c.q0 then 2
 else if Dq c.sc.ms.length 1 c.p1 c.q1 then 2
 else if Dq c.sc.ms.length 2 c.p2 c.q2 then 2
 else 0
theorem OY:prog.eqGuardType prog.depth 60=false:=by kernel_rfl
theorem oM (p q:Int) (W:World):(binOp .neq 60 (.agg #[.int .i64 p,.int .i64 q]) (.agg #[.int .i64 0,.int .i64 0])).run prog W=.ok (.bool (!(decide (p=0) && decide (q=0)))) W:=by
 by_cases h1:p=0<;>by_cases h2:q=0<;>go_simp
theorem Zk (p q:Int) (w:World):
 Calls prog 142 #[.agg #[.int .i64 p,.int .i64 q]] w fun e w'=>e=.returned (.bool (decide (0≤p) && decide (q≤0)))∧Aj w w':=by
 by_cases h:0≤p
 ·have d0:decide (0≤p)=true:=by simp [h]
  go_enter func142,ntmps142
  go_wp2
  go_ret
  exact ⟨by first|(rw [d0];rfl)|rfl,(Aj.refl w).alloc _⟩
 ·have d0:decide (0≤p)=false:=by simp [h]
  go_enter func142,ntmps142
  go_wp2
  go_ret
  exact ⟨by first|(rw [d0];rfl)|rfl,(Aj.refl w).alloc _⟩
end Go.Proofs.YtijplolmkcdflaaGreat
namespace Go.Proofs.YtijplolmkcdflaaGreat
open Tryz
open Go.RowKit
def SmS (s:Ev):Prop:=s.dm.n≤1000000∧s.ms.n≤1000000∧∀ d ∈ s.dm.l,d.tr.n≤1000000∧∀ t ∈ d.tr.l,t.up.n≤100000
def Qe (c:CC):Int:=if Dq c.sc.ms.length 2 c.p2 c.q2 then 2 else 0
def Qf (c:CC):Int:=if Dq c.sc.ms.length 1 c.p1 c.q1 then 2 else Qe c
def fI (c:CC):Int:=if Dq c.sc.ms.length 0 c.p0 c.q0 then 2 else Qf c
def LC (c:CC) (k:Nat):Int:=if k=0 then fI c else if k=1 then Qf c else if k=2 then Qe c else 0
theorem vP {c:CC} (h:Ap c.sc≠0):Cj c=Ap c.sc:=by unfold Cj;rw [Ak h]
theorem Yz {c:CC} (h:Ap c.sc=0) (h2:c.fa<0∨4000<c.fa):Cj c=6:=by unfold Cj;rw [Ah (by simp [h]),Ak h2]
theorem fK {c:CC} (h:Ap c.sc=0) (h2:¬ (c.fa<0∨4000<c.fa)):Cj c=LC c 0:=by unfold Cj;rw [Ah (by simp [h]),Ah h2];(try rfl)
theorem QR {m i p q:Int} (h:(decide (0≤p) && decide (q≤0))=false):Dq m i p q=true:=by unfold Dq;rw [h];(try rfl)
theorem Td {m i p q:Int} (h:(decide (0≤p) && decide (q≤0))=true) (h2:¬ m≤i):Dq m i p q=false:=by unfold Dq;rw [h];simp [h2]
theorem WK {m i p q:Int} (h:(decide (0≤p) && decide (q≤0))=true) (h2:m≤i) {b:Bool} (h3:(!(decide (p=0) && decide (q=0)))=b):Dq m i p q=b:=by unfold Dq;rw [h,h3];simp [h2]
theorem ZB (s:Ct) (w:World) (hs:s.rd w) (hm:SmS s.sc):
 Calls prog 97 #[.agg s.cs] w fun e w'=>e=.returned (.int .i64 (Cj s.Ac))∧Aj w w':=by
 have HC:=Aa (fun w' (hb:Aj w w')=>FM s.sc w' (hs.sc.mono hb) hm.1 hm.2.1 hm.2.2)
 have hl2:Hid (s.sc.ms.l.length=s.sc.ms.n):=hs.sc.ms.len
 have H:=Aa ((SL.start No w).alloc s.cs 63)
 (try simp only [LS] at H)
 have f1:=hs.fa
 unfold AP at f1
 obtain ⟨⟨⟨A,n,c,ds⟩,⟨MA,mn,mc,ms⟩⟩,fa,p0,q0,p1,q1,p2,q2⟩:=s
 simp only [Ct.cs,Ev.cs,Ct.Ac,Ev.Ac] at *
 obtain ⟨f1,f2⟩:=f1
 clear hs hm
 go_enter func97,ntmps97
 go_wp2_with ((with_reducible refine OP 7 ?_);(refine Ae rfl BL (.tmp 6) rfl w.heap.size (0) rfl #[.slice A n c,.slice MA mn mc] rfl ((H.blk 0 rfl).part 0 _ rfl) ?_))
 generalize w.heap.size=x at *
 generalize World.alloc _ _=w1 at *
 refine (HC _ H.to).mono ?_;rintro e w2 ⟨rfl,hb2⟩
 replace H:=Aa (H.Au hb2)
 clear hb2 HC
 by_cases hE:Ap (⟨ds.map Dm.Ac,ms⟩:SC)=0
 ·have hm1:Hid (1≤mn):=by have h:1≤ms.length:=(BA hE).2.2.2.1;have h5:=hl2.Ab;show _≤_;omega
  rw [hE]
  have c2:=(H.blk 0 rfl).Am 2
  by_cases h1:fa<0
  ·have HV:Hid (Cj ⟨⟨ds.map Dm.Ac,ms⟩,fa,p0,q0,p1,q1,p2,q2⟩=6):=Yz hE (.inl h1)
   clear hE
   go_wp2_with fail
   go_ret
   rw [HV.Ab]
   exact ⟨rfl,H.to⟩
  ·by_cases h2:4000<fa
   ·have HV:Hid (Cj ⟨⟨ds.map Dm.Ac,ms⟩,fa,p0,q0,p1,q1,p2,q2⟩=6):=Yz hE (.inr h2)
    clear hE
    go_wp2_with fail
    go_ret
    rw [HV.Ab]
    exact ⟨rfl,H.to⟩
   ·have HV:Hid (Cj ⟨⟨ds.map Dm.Ac,ms⟩,fa,p0,q0,p1,q1,p2,q2⟩=LC ⟨⟨ds.map Dm.Ac,ms⟩,fa,p0,q0,p1,q1,p2,q2⟩ 0):=fK hE (by rintro (h|h);exact h1 h;exact h2 h)
    clear hE
    go_wp2_with ((with_reducible refine OP 21 ?_);(refine Ae rfl Aa7 (.tmp 20) rfl x (3) rfl #[.int .i64 p0,.int .i64 q0,.int .i64 p1,.int .i64 q1,.int .i64 p2,.int .i64 q2] rfl ((H.blk 0 rfl).part 3 _ rfl) ?_))
    clear c2 h1 h2 f1 f2
    go_loopg [22] 3 (fun gg i wr=>∃ k:Nat,gg=3 - k∧k≤3∧i=.int .i64 k∧Hid (SL No w wr [Av x 63 #[.slice A n c,.slice MA mn mc,.int .i64 fa,.int .i64 p0,.int .i64 q0,.int .i64 p1,.int .i64 q1,.int .i64 p2,.int .i64 q2]])∧Hid (Cj ⟨⟨ds.map Dm.Ac,ms⟩,fa,p0,q0,p1,q1,p2,q2⟩=LC ⟨⟨ds.map Dm.Ac,ms⟩,fa,p0,q0,p1,q1,p2,q2⟩ k))
    case atStart=>exact ⟨0,rfl,by omega,rfl,H,HV⟩
    case round=>
     clear H HV
     obtain ⟨k,BG,hk,rfl,H,HV⟩:=hrel
     obtain rfl|rfl|rfl|rfl:k=0∨k=1∨k=2∨k=3:=by omega
     ·have ix:∀ W,(Instr.index 61 (.agg #[.int .i64 p0,.int .i64 q0,.int .i64 p1,.int .i64 q1,.int .i64 p2,.int .i64 q2]) (.int .i64 0)).run prog W=.ok (.agg #[.int .i64 p0,.int .i64 q0]) W:=fun _=>by kernel_rfl
      rw [show ((0:Nat):Int)=0 from rfl]
      go_upto_region 9 with ((with_reducible refine OS 5 ?_);(refine Fu CO (#[.int .i64 p0,.int .i64 q0]) (by simp [Value.oneCell']) ?_;replace H:=Aa (H.alloc (#[.int .i64 p0,.int .i64 q0]) 60);(try simp only [LS] at H)))
      (try simp only [Act.put,LP])
      go_wp2_with ((with_reducible refine OP 26 ?_);(refine Cx CO (H.blk 1 rfl) ?_))
      clear ix
      refine (Zk p0 q0 _).mono ?_;rintro e w5 ⟨rfl,hb5⟩
      replace H:=Aa (H.Au hb5)
      clear hb5
      obtain ⟨bm,o8⟩:∃ b,(decide (0≤p0) && decide (q0≤0))=b:=⟨_,rfl⟩
      rw [o8]
      have L8:=Aa o8
      clear o8
      cases bm with
      |false=>
       have gY:Hid (Dq ms.length 0 p0 q0=true):=QR L8.Ab
       have ZR:Hid (Cj ⟨⟨ds.map Dm.Ac,ms⟩,fa,p0,q0,p1,q1,p2,q2⟩=2):=by show _=_;rw [HV.Ab];show fI _=2;unfold fI;rw [Ak gY.Ab]
       go_wp2_with fail
       go_ret
       rw [ZR.Ab]
       exact ⟨rfl,H.to⟩
      |true=>
       have cm0:=(H.blk 0 rfl).Am 1
       by_cases hin:(mn:Int)≤0
       ·exact absurd hin (by have:=hm1.Ab;omega)
       ·have d1:decide ((mn:Int)≤0)=false:=by simp;omega
        have hin2:¬ (ms.length:Int)≤0:=by have:=hl2.Ab;omega
        have gY:Hid (Dq ms.length 0 p0 q0=false):=Td L8 hin2
        clear hin2
        have ZR:Hid (Cj ⟨⟨ds.map Dm.Ac,ms⟩,fa,p0,q0,p1,q1,p2,q2⟩=LC ⟨⟨ds.map Dm.Ac,ms⟩,fa,p0,q0,p1,q1,p2,q2⟩ 1):=by show _=_;rw [HV.Ab];show fI _=_;unfold fI;rw [Ah (by rw [gY.Ab];simp)];(try rfl)
        go_wp2_with fail
        go_roundg (3 - (0+1))
        case rel=>exact ⟨1,rfl,by omega,rfl,Aa (H.Gh [0] (by decide) (by simp)),ZR⟩
        case measure=>omega
     ·have ix:∀ W,(Instr.index 61 (.agg #[.int .i64 p0,.int .i64 q0,.int .i64 p1,.int .i64 q1,.int .i64 p2,.int .i64 q2]) (.int .i64 1)).run prog W=.ok (.agg #[.int .i64 p1,.int .i64 q1]) W:=fun _=>by kernel_rfl
      rw [show ((1:Nat):Int)=1 from rfl]
      go_upto_region 9 with ((with_reducible refine OS 5 ?_);(refine Fu CO (#[.int .i64 p1,.int .i64 q1]) (by simp [Value.oneCell']) ?_;replace H:=Aa (H.alloc (#[.int .i64 p1,.int .i64 q1]) 60);(try simp only [LS] at H)))
      (try simp only [Act.put,LP])
      go_wp2_with ((with_reducible refine OP 26 ?_);(refine Cx CO (H.blk 1 rfl) ?_))
      clear ix
      refine (Zk p1 q1 _).mono ?_;rintro e w5 ⟨rfl,hb5⟩
      replace H:=Aa (H.Au hb5)
      clear hb5
      obtain ⟨bm,o8⟩:∃ b,(decide (0≤p1) && decide (q1≤0))=b:=⟨_,rfl⟩
      rw [o8]
      have L8:=Aa o8
      clear o8
      cases bm with
      |false=>
       have gY:Hid (Dq ms.length 1 p1 q1=true):=QR L8.Ab
       have ZR:Hid (Cj ⟨⟨ds.map Dm.Ac,ms⟩,fa,p0,q0,p1,q1,p2,q2⟩=2):=by show _=_;rw [HV.Ab];show Qf _=2;unfold Qf;rw [Ak gY.Ab]
       go_wp2_with fail
       go_ret
       rw [ZR.Ab]
       exact ⟨rfl,H.to⟩
      |true=>
       have cm0:=(H.blk 0 rfl).Am 1
       by_cases hin:(mn:Int)≤1
       ·have d1:decide ((mn:Int)≤1)=true:=by simp [hin]
        have hin2:(ms.length:Int)≤1:=by have:=hl2.Ab;omega
        obtain ⟨bz,hbz⟩:∃ b,(!(decide (p1=0) && decide (q1=0)))=b:=⟨_,rfl⟩
        have gY:Hid (Dq ms.length 1 p1 q1=bz):=WK L8 hin2 hbz
        have hneq:=oM p1 q1
        rw [hbz] at hneq
        clear hbz hin2
        cases bz with
        |true=>
         have ZR:Hid (Cj ⟨⟨ds.map Dm.Ac,ms⟩,fa,p0,q0,p1,q1,p2,q2⟩=2):=by show _=_;rw [HV.Ab];show Qf _=2;unfold Qf;rw [Ak gY.Ab]
         go_wp2_with (first|((with_reducible refine OP 37 ?_);refine Bj (by first|rfl|go_simp) CO (.tmp 5) (by rfl) _ (by rfl) (H.blk 1 rfl) rfl ?_)|((with_reducible refine OP 39 ?_);refine IU (by first|rfl|go_simp) .neq 60 60 (.tmp 37) (.tmp 38) (by rfl) (by rfl) (by rfl) OY (hneq _) ?_))
         go_ret
         rw [ZR.Ab]
         exact ⟨rfl,H.to⟩
        |false=>
         have ZR:Hid (Cj ⟨⟨ds.map Dm.Ac,ms⟩,fa,p0,q0,p1,q1,p2,q2⟩=LC ⟨⟨ds.map Dm.Ac,ms⟩,fa,p0,q0,p1,q1,p2,q2⟩ 2):=by show _=_;rw [HV.Ab];show Qf _=_;unfold Qf;rw [Ah (by rw [gY.Ab];simp)];(try rfl)
         go_wp2_with (first|((with_reducible refine OP 37 ?_);refine Bj (by first|rfl|go_simp) CO (.tmp 5) (by rfl) _ (by rfl) (H.blk 1 rfl) rfl ?_)|((with_reducible refine OP 39 ?_);refine IU (by first|rfl|go_simp) .neq 60 60 (.tmp 37) (.tmp 38) (by rfl) (by rfl) (by rfl) OY (hneq _) ?_))
         go_roundg (3 - (1+1))
         case rel=>exact ⟨2,rfl,by omega,rfl,Aa (H.Gh [0] (by decide) (by simp)),ZR⟩
         case measure=>omega
       ·have d1:decide ((mn:Int)≤1)=false:=by simp;omega
        have hin2:¬ (ms.length:Int)≤1:=by have:=hl2.Ab;omega
        have gY:Hid (Dq ms.length 1 p1 q1=false):=Td L8 hin2
        clear hin2
        have ZR:Hid (Cj ⟨⟨ds.map Dm.Ac,ms⟩,fa,p0,q0,p1,q1,p2,q2⟩=LC ⟨⟨ds.map Dm.Ac,ms⟩,fa,p0,q0,p1,q1,p2,q2⟩ 2):=by show _=_;rw [HV.Ab];show Qf _=_;unfold Qf;rw [Ah (by rw [gY.Ab];simp)];(try rfl)
        go_wp2_with fail
        go_roundg (3 - (1+1))
        case rel=>exact ⟨2,rfl,by omega,rfl,Aa (H.Gh [0] (by decide) (by simp)),ZR⟩
        case measure=>omega
     ·have ix:∀ W,(Instr.index 61 (.agg #[.int .i64 p0,.int .i64 q0,.int .i64 p1,.int .i64 q1,.int .i64 p2,.int .i64 q2]) (.int .i64 2)).run prog W=.ok (.agg #[.int .i64 p2,.int .i64 q2]) W:=fun _=>by kernel_rfl
      rw [show ((2:Nat):Int)=2 from rfl]
      go_upto_region 9 with ((with_reducible refine OS 5 ?_);(refine Fu CO (#[.int .i64 p2,.int .i64 q2]) (by simp [Value.oneCell']) ?_;replace H:=Aa (H.alloc (#[.int .i64 p2,.int .i64 q2]) 60);(try simp only [LS] at H)))
      (try simp only [Act.put,LP])
      go_wp2_with ((with_reducible refine OP 26 ?_);(refine Cx CO (H.blk 1 rfl) ?_))
      clear ix
      refine (Zk p2 q2 _).mono ?_;rintro e w5 ⟨rfl,hb5⟩
      replace H:=Aa (H.Au hb5)
      clear hb5
      obtain ⟨bm,o8⟩:∃ b,(decide (0≤p2) && decide (q2≤0))=b:=⟨_,rfl⟩
      rw [o8]
      have L8:=Aa o8
      clear o8
      cases bm with
      |false=>
       have gY:Hid (Dq ms.length 2 p2 q2=true):=QR L8.Ab
       have ZR:Hid (Cj ⟨⟨ds.map Dm.Ac,ms⟩,fa,p0,q0,p1,q1,p2,q2⟩=2):=by show _=_;rw [HV.Ab];show Qe _=2;unfold Qe;rw [Ak gY.Ab]
       go_wp2_with fail
       go_ret
       rw [ZR.Ab]
       exact ⟨rfl,H.to⟩
      |true=>
       have cm0:=(H.blk 0 rfl).Am 1
       by_cases hin:(mn:Int)≤2
       ·have d1:decide ((mn:Int)≤2)=true:=by simp [hin]
        have hin2:(ms.length:Int)≤2:=by have:=hl2.Ab;omega
        obtain ⟨bz,hbz⟩:∃ b,(!(decide (p2=0) && decide (q2=0)))=b:=⟨_,rfl⟩
        have gY:Hid (Dq ms.length 2 p2 q2=bz):=WK L8 hin2 hbz
        have hneq:=oM p2 q2
        rw [hbz] at hneq
        clear hbz hin2
        cases bz with
        |true=>
         have ZR:Hid (Cj ⟨⟨ds.map Dm.Ac,ms⟩,fa,p0,q0,p1,q1,p2,q2⟩=2):=by show _=_;rw [HV.Ab];show Qe _=2;unfold Qe;rw [Ak gY.Ab]
         go_wp2_with (first|((with_reducible refine OP 37 ?_);refine Bj (by first|rfl|go_simp) CO (.tmp 5) (by rfl) _ (by rfl) (H.blk 1 rfl) rfl ?_)|((with_reducible refine OP 39 ?_);refine IU (by first|rfl|go_simp) .neq 60 60 (.tmp 37) (.tmp 38) (by rfl) (by rfl) (by rfl) OY (hneq _) ?_))
         go_ret
         rw [ZR.Ab]
         exact ⟨rfl,H.to⟩
        |false=>
         have ZR:Hid (Cj ⟨⟨ds.map Dm.Ac,ms⟩,fa,p0,q0,p1,q1,p2,q2⟩=LC ⟨⟨ds.map Dm.Ac,ms⟩,fa,p0,q0,p1,q1,p2,q2⟩ 3):=by show _=_;rw [HV.Ab];show Qe _=_;unfold Qe;rw [Ah (by rw [gY.Ab];simp)];(try rfl)
         go_wp2_with (first|((with_reducible refine OP 37 ?_);refine Bj (by first|rfl|go_simp) CO (.tmp 5) (by rfl) _ (by rfl) (H.blk 1 rfl) rfl ?_)|((with_reducible refine OP 39 ?_);refine IU (by first|rfl|go_simp) .neq 60 60 (.tmp 37) (.tmp 38) (by rfl) (by rfl) (by rfl) OY (hneq _) ?_))
         go_roundg (3 - (2+1))
         case rel=>exact ⟨3,rfl,by omega,rfl,Aa (H.Gh [0] (by decide) (by simp)),ZR⟩
         case measure=>omega
       ·have d1:decide ((mn:Int)≤2)=false:=by simp;omega
        have hin2:¬ (ms.length:Int)≤2:=by have:=hl2.Ab;omega
        have gY:Hid (Dq ms.length 2 p2 q2=false):=Td L8 hin2
        clear hin2
        have ZR:Hid (Cj ⟨⟨ds.map Dm.Ac,ms⟩,fa,p0,q0,p1,q1,p2,q2⟩=LC ⟨⟨ds.map Dm.Ac,ms⟩,fa,p0,q0,p1,q1,p2,q2⟩ 3):=by show _=_;rw [HV.Ab];show Qe _=_;unfold Qe;rw [Ah (by rw [gY.Ab];simp)];(try rfl)
        go_wp2_with fail
        go_roundg (3 - (2+1))
        case rel=>exact ⟨3,rfl,by omega,rfl,Aa (H.Gh [0] (by decide) (by simp)),ZR⟩
        case measure=>omega
     ·rw [show ((3:Nat):Int)=3 from rfl]
      go_wp2_with fail
      go_ret
      rw [HV.Ab]
      exact ⟨rfl,H.to⟩
 ·have HV:Hid (Cj ⟨⟨ds.map Dm.Ac,ms⟩,fa,p0,q0,p1,q1,p2,q2⟩=Ap (⟨ds.map Dm.Ac,ms⟩:SC)):=vP hE
  have dE:(Ap (⟨ds.map Dm.Ac,ms⟩:SC)==0)=false:=by simpa using hE
  clear hE
  go_wp2_with fail
  go_ret
  rw [HV.Ab]
  exact ⟨rfl,H.to⟩
theorem IW {s:Ev} {w:World} (h:QU s w):SmS s:=⟨by have:=h.dn;omega,by have:=h.mn;omega,h.small⟩
theorem XP:SmS Ev.nil:=⟨by show (0:Nat)≤_;omega,by show (0:Nat)≤_;omega,fun d hd=>by cases hd⟩
def WX (o:CC × Int) (w:World) (e:Ending) (w':World):Prop:=
 ∃ D:Ct,e=.returned (.tuple #[.agg D.cs,.int .i64 o.2])∧D.Ac=o.1∧D.rd w'∧SmS D.sc∧Aj w w'∧Uq w w' (KU D.sc)
theorem Cv {k:Int} {w w':World} (hb:Aj w w'):WX (CC.nil,k) w (.returned (.tuple #[.agg #[.slice none 0 0,.slice none 0 0,.int .i64 0,.int .i64 0,.int .i64 0,.int .i64 0,.int .i64 0,.int .i64 0,.int .i64 0],.int .i64 k])) w':=⟨Ct.nil,rfl,rfl,Yv w',XP,hb,JF w',Lm⟩
def WI (s:SC):CC × Int:=if Ap s≠0 then (CC.nil,Ap s) else (⟨s,0,0,0,0,0,0,0⟩,0)
theorem fH (s:Ev) (w:World) (hs:s.rd w) (hm:SmS s):
 Calls prog 57 #[.agg s.cs] w (WX (WI s.Ac) w):=by
 have HC:=Aa (fun w' (hb:Aj w w')=>FM s w' (hs.mono hb) hm.1 hm.2.1 hm.2.2)
 have HK:=Aa (fun hE w' (hb:Aj w w')=>RV s w' (hs.mono hb) hE)
 have H:=Aa (((SL.start No w).alloc s.cs 25).alloc #[.slice none 0 0,.slice none 0 0,.int .i64 0,.int .i64 0,.int .i64 0,.int .i64 0,.int .i64 0,.int .i64 0,.int .i64 0] 63)
 (try simp only [LS] at H)
 generalize hO:WI s.Ac=O
 have HO:=Aa hO
 clear hO
 obtain ⟨⟨A,n,c,ds⟩,⟨MA,mn,mc,ms⟩⟩:=s
 simp only [Ev.cs,Ev.Ac] at *
 clear hs hm
 go_enter func57,ntmps57
 go_upto_region 1 with fail
 generalize w.heap.size+1=y at *
 generalize w.heap.size=x at *
 generalize World.alloc (World.alloc _ _) _=w1 at *
 go_wp2_with ((with_reducible refine OP 5 ?_);(refine Cx BL (H.blk 0 rfl) ?_))
 refine (HC _ H.to).mono ?_;rintro e w2 ⟨rfl,hb2⟩
 replace H:=Aa (H.Au hb2)
 clear hb2 HC
 by_cases hE:Ap (⟨ds.map Dm.Ac,ms⟩:SC)=0
 ·have HK2:=Aa (HK hE)
  have ZT:Hid ((⟨⟨ds.map Dm.Ac,ms⟩,0,0,0,0,0,0,0⟩,0)=O):=by have h:=HO.Ab;unfold WI at h;rw [Ah (by simp [hE])] at h;exact h
  rw [hE]
  clear hE HK HO
  go_wp2_with ((with_reducible refine OP 11 ?_);(refine Cx BL (H.blk 0 rfl) ?_))
  refine (HK2 _ H.to).mono ?_;rintro e w3 ⟨D,rfl,hD,hb3,hN⟩
  replace H:=Aa (H.add hb3 _ hN.1 hN.2);(try simp only [LS] at H)
  have wI:=Aa hD
  clear hN hD HK2
  obtain ⟨⟨B,m,d,es⟩,⟨MB,mm,md,mt⟩⟩:=D
  simp only [Ev.cs,Ev.Ac] at *
  have hbd:∀ w:World,(Instr.build 63 #[(0,.agg #[.slice B m d,.slice MB mm md])]).run prog w=.ok (.agg #[.slice B m d,.slice MB mm md,.int .i64 0,.int .i64 0,.int .i64 0,.int .i64 0,.int .i64 0,.int .i64 0,.int .i64 0]) w:=fun _=>by kernel_rfl
  go_wp2_with (first|((with_reducible refine OP 13 ?_);refine Fq (vx:=.agg #[.slice B m d,.slice MB mm md]) (v:=.agg #[.slice B m d,.slice MB mm md,.int .i64 0,.int .i64 0,.int .i64 0,.int .i64 0,.int .i64 0,.int .i64 0,.int .i64 0]) rfl (.tmp 12) rfl rfl hbd ?_)|((with_reducible refine OS 2 ?_);(refine Ec Cw H 1 rfl (#[.slice B m d,.slice MB mm md,.int .i64 0,.int .i64 0,.int .i64 0,.int .i64 0,.int .i64 0,.int .i64 0,.int .i64 0]) (by simp [Value.oneCell']) ?_;clear H;intro wq H;(try simp only [LS] at H))))
  refine Ce (AJ rfl Cw rfl (H.blk 1 rfl) rfl) rfl ?_
  rw [←ZT.Ab]
  exact ⟨⟨⟨⟨B,m,d,es⟩,⟨MB,mm,md,mt⟩⟩,0,0,0,0,0,0,0⟩,rfl,Cm (fun s=>(⟨s,0,0,0,0,0,0,0⟩:CC)) wI.Ab,⟨(H.at_ 2 rfl).rd,Dy,Dy,Dy,Dy,Dy,Dy,Dy⟩,IW (H.at_ 2 rfl),H.to,H.get 2 rfl,H.new 2 rfl⟩
 ·have ZT:Hid ((CC.nil,Ap (⟨ds.map Dm.Ac,ms⟩:SC))=O):=by have h:=HO.Ab;unfold WI at h;rw [Ak hE] at h;exact h
  have dE:(Ap (⟨ds.map Dm.Ac,ms⟩:SC)==0)=false:=by simpa using hE
  clear hE HK HO
  go_wp2_with ((with_reducible refine OS 2 ?_);(refine Ec Cw H 1 rfl (#[.slice none 0 0,.slice none 0 0,.int .i64 0,.int .i64 0,.int .i64 0,.int .i64 0,.int .i64 0,.int .i64 0,.int .i64 0]) (by simp [Value.oneCell']) ?_;clear H;intro wq H;(try simp only [LS] at H)))
  refine Ce (AJ rfl Cw rfl (H.blk 1 rfl) rfl) rfl ?_
  rw [←ZT.Ab]
  exact Cv H.to
def Cf (p q v:Int):(Int × Int) × Bool:=if v<0 then (if (EM q v).2 then (p,(EM q v).1) else (0,0),(EM q v).2) else (if (EM p v).2 then ((EM p v).1,q) else (0,0),(EM p v).2)
theorem GR (p q v:Int) (w:World) (hp:AP p) (hq:AP q) (hv:AP v):
 Calls prog 98 #[.agg #[.int .i64 p,.int .i64 q],.int .i64 v] w fun e w'=>e=.returned (.tuple #[.agg #[.int .i64 (Cf p q v).1.1,.int .i64 (Cf p q v).1.2],.bool (Cf p q v).2])∧Aj w w':=by
 have H:=Aa (((SL.start No w).alloc #[.int .i64 p,.int .i64 q] 60).alloc #[.int .i64 0,.int .i64 0] 60)
 (try simp only [LS] at H)
 go_enter func98,ntmps98
 go_upto_region 2 with fail
 generalize w.heap.size+1=y at *
 generalize w.heap.size=x at *
 generalize World.alloc (World.alloc _ _) _=w1 at *
 by_cases h:v<0
 ·have ZT:Hid ((if (EM q v).2 then (p,(EM q v).1) else (0,0),(EM q v).2)=Cf p q v):=by show _=_;unfold Cf;rw [Ak h]
  have HX:=Aa (fun w=>Sd q v w hq hv)
  generalize (EM q v)=X at *
  obtain ⟨r,ok⟩:=X
  simp only at HX ZT
  have c0:=(H.blk 0 rfl).Am 1;have f0:=(H.blk 0 rfl).frozen 1
  go_wp2_with fail
  refine (HX _).mono ?_;rintro e w2 ⟨rfl,rfl⟩
  cases ok with
  |true=>
   go_wp2_with (first|((with_reducible refine OP 28 ?_);(replace H:=Aa (H.setCell 0 rfl 1 (.int .i64 r));(try simp only [LS] at H);clear c0 f0;refine Cx CO (H.blk 0 rfl) ?_))|((with_reducible refine OS 4 ?_);(refine Ec CO H 1 rfl (#[.int .i64 p,.int .i64 r]) (by simp [Value.oneCell']) ?_;clear H;intro wq H;(try simp only [LS] at H))))
   refine Ce (AJ rfl CO rfl (H.blk 1 rfl) rfl) rfl ?_
   rw [←ZT.Ab]
   exact ⟨rfl,H.to⟩
  |false=>
   go_wp2_with ((with_reducible refine OS 4 ?_);(replace H:=Aa (H.setCell 0 rfl 1 (.int .i64 r));(try simp only [LS] at H);clear c0 f0;refine Ec CO H 1 rfl (#[.int .i64 0,.int .i64 0]) (by simp [Value.oneCell']) ?_;clear H;intro wq H;(try simp only [LS] at H)))
   refine Ce (AJ rfl CO rfl (H.blk 1 rfl) rfl) rfl ?_
   rw [←ZT.Ab]
   exact ⟨rfl,H.to⟩
 ·have ZT:Hid ((if (EM p v).2 then ((EM p v).1,q) else (0,0),(EM p v).2)=Cf p q v):=by show _=_;unfold Cf;rw [Ah h]
  have HX:=Aa (fun w=>Sd p v w hp hv)
  generalize (EM p v)=X at *
  obtain ⟨r,ok⟩:=X
  simp only at HX ZT
  have c0:=(H.blk 0 rfl).Am 0;have f0:=(H.blk 0 rfl).frozen 0
  go_wp2_with fail
  refine (HX _).mono ?_;rintro e w2 ⟨rfl,rfl⟩
  cases ok with
  |true=>
   go_wp2_with (first|((with_reducible refine OP 28 ?_);(replace H:=Aa (H.setCell 0 rfl 0 (.int .i64 r));(try simp only [LS] at H);clear c0 f0;refine Cx CO (H.blk 0 rfl) ?_))|((with_reducible refine OS 4 ?_);(refine Ec CO H 1 rfl (#[.int .i64 r,.int .i64 q]) (by simp [Value.oneCell']) ?_;clear H;intro wq H;(try simp only [LS] at H))))
   refine Ce (AJ rfl CO rfl (H.blk 1 rfl) rfl) rfl ?_
   rw [←ZT.Ab]
   exact ⟨rfl,H.to⟩
  |false=>
   go_wp2_with ((with_reducible refine OS 4 ?_);(replace H:=Aa (H.setCell 0 rfl 0 (.int .i64 r));(try simp only [LS] at H);clear c0 f0;refine Ec CO H 1 rfl (#[.int .i64 0,.int .i64 0]) (by simp [Value.oneCell']) ?_;clear H;intro wq H;(try simp only [LS] at H)))
   refine Ce (AJ rfl CO rfl (H.blk 1 rfl) rfl) rfl ?_
   rw [←ZT.Ab]
   exact ⟨rfl,H.to⟩
theorem Bz {α:Type} {l:List α} {k:Nat} {a:α} (h:l[k]?=some a):l.drop k=a::l.drop (k+1):=by
 obtain ⟨h1,rfl⟩:=Ca.1 h
 exact DZ h1
theorem aJ {a b:Int}:AP (EM a b).1:=by
 unfold EM YP
 split
 ·assumption
 ·exact Dy
theorem GQ {p q v:Int} (hp:AP p) (hq:AP q):AP (Cf p q v).1.1∧AP (Cf p q v).1.2:=by
 unfold Cf
 split
 ·simp only
  split
  ·exact ⟨hp,aJ⟩
  ·exact ⟨Dy,Dy⟩
 ·simp only
  split
  ·exact ⟨aJ,hq⟩
  ·exact ⟨Dy,Dy⟩
def OD (c:CC) (i:Nat) (v:Int):CC × Bool:=
 if i=0 then (let g:=Cf c.p0 c.q0 v;(⟨c.sc,c.fa,g.1.1,g.1.2,c.p1,c.q1,c.p2,c.q2⟩,g.2))
 else if i=1 then (let g:=Cf c.p1 c.q1 v;(⟨c.sc,c.fa,c.p0,c.q0,g.1.1,g.1.2,c.p2,c.q2⟩,g.2))
 else (let g:=Cf c.p2 c.q2 v;(⟨c.sc,c.fa,c.p0,c.q0,c.p1,c.q1,g.1.1,g.1.2⟩,g.2))
def DU (c:CC) (i:Nat):List Int→Option CC
 |[]=>some c
 |v::l=>if (OD c i v).2 then DU (OD c i v).1 (i+1) l else none
def Eo (m:Nat) (c:CC):List (List Int)→CC × Int
 |[]=>(c,0)
 |r::l=>if r.length≠m then (CC.nil,2) else match DU c 0 r with
  |none=>(CC.nil,12)
  |some d=>Eo m d l
def Xv (n:Nat) (o:CC × Int):CC × Int:=if o.2=0 then (⟨o.1.sc,o.1.fa+n,o.1.p0,o.1.q0,o.1.p1,o.1.q1,o.1.p2,o.1.q2⟩,0) else o
def BO (c:CC) (rows:List (List Int)):CC × Int:=
 if Cj c≠0 then (CC.nil,Cj c)
 else if 4000<c.fa+rows.length then (CC.nil,6)
 else Xv rows.length (Eo c.sc.ms.length c rows)
theorem OE {c:CC} (h:Cj c=0):Ap c.sc=0∧0≤c.fa∧c.fa≤4000:=by
 unfold Cj at h
 split at h
 ·rename_i h1;exact absurd h h1
 ·rename_i h1
  split at h
  ·cases h
  ·rename_i h2
   exact ⟨by simpa using h1,by omega,by omega⟩
theorem Ph {m:Nat} {c:CC} {r:List Int} {l:List (List Int)} (h:r.length≠m):Eo m c (r::l)=(CC.nil,2):=by rw [Eo,Ak h]
theorem Fw {m:Nat} {c:CC} {r:List Int} {l:List (List Int)} (h:r.length=m) (h2:DU c 0 r=none):Eo m c (r::l)=(CC.nil,12):=by rw [Eo,Ah (by simp [h]),h2]
theorem RS {m:Nat} {c d:CC} {r:List Int} {l:List (List Int)} (h:r.length=m) (h2:DU c 0 r=some d):Eo m c (r::l)=Eo m d l:=by rw [Eo,Ah (by simp [h]),h2]
theorem GU {c:CC} {i:Nat} {v:Int} {l:List Int} (h:(OD c i v).2=true):DU c i (v::l)=DU (OD c i v).1 (i+1) l:=by rw [DU,Ak h]
theorem GV {c:CC} {i:Nat} {v:Int} {l:List Int} (h:(OD c i v).2=false):DU c i (v::l)=none:=by rw [DU,Ah (by simp [h])]
def Pv (c:CC):Prop:=AP c.p0∧AP c.q0∧AP c.p1∧AP c.q1∧AP c.p2∧AP c.q2
instance (c:CC):Decidable (Pv c):=by unfold Pv;infer_instance
def Sg (c:CC) (a b z:Int):CC:=⟨c.sc,c.fa,c.p0+max a 0,c.q0+min a 0,c.p1+max b 0,c.q1+min b 0,c.p2+max z 0,c.q2+min z 0⟩
def Fz (c:CC) (r:List Int):CC:=Sg c (r.getD 0 0) (r.getD 1 0) (r.getD 2 0)
theorem vI {p q v:Int} (hp:AP p) (hq:AP q):((Cf p q v).2=true↔AP (p+max v 0)∧AP (q+min v 0))∧((Cf p q v).2=true→(Cf p q v).1=(p+max v 0,q+min v 0)):=by
 unfold Cf EM YP
 by_cases h:v<0
 ·rw [Ak h,show max v 0=0 by omega,show min v 0=v by omega,Int.add_zero]
  by_cases hf:AP (q+v)
  ·rw [Ak hf]
   exact ⟨⟨fun _=>⟨hp,hf⟩,fun _=>rfl⟩,fun _=>rfl⟩
  ·rw [Ah hf]
   exact ⟨⟨fun h=>(by cases h),fun h=>absurd h.2 hf⟩,fun h=>by cases h⟩
 ·rw [Ah h,show max v 0=v by omega,show min v 0=0 by omega,Int.add_zero]
  by_cases hf:AP (p+v)
  ·rw [Ak hf]
   exact ⟨⟨fun _=>⟨hf,hq⟩,fun _=>rfl⟩,fun _=>rfl⟩
  ·rw [Ah hf]
   exact ⟨⟨fun h=>(by cases h),fun h=>absurd h.1 hf⟩,fun h=>by cases h⟩
theorem Pf {p q v:Int} (hp:AP p) (hq:AP q):Cf p q v=((p+max v 0,q+min v 0),true)∧AP (p+max v 0)∧AP (q+min v 0)∨(Cf p q v).2=false∧¬ (AP (p+max v 0)∧AP (q+min v 0)):=by
 obtain ⟨h1,h2⟩:=vI (v:=v) hp hq
 cases hb:(Cf p q v).2
 ·right
  exact ⟨rfl,fun h=>by have:=h1.2 h;rw [hb] at this;cases this⟩
 ·left
  have h3:=h1.1 hb
  exact ⟨Prod.ext (h2 hb) hb,h3.1,h3.2⟩
theorem add0 (x:Int):x+max 0 0=x:=by omega
theorem WU (x:Int):x+min 0 0=x:=by omega
theorem F5 {c:CC} (hc:Pv c) {r:List Int} (h3:r.length≤3):DU c 0 r=if Pv (Fz c r) then some (Fz c r) else none:=by
 obtain ⟨h0,g0,h1,g1,h2,g2⟩:=hc
 match r,h3 with
 |[],_=>
  rw [DU,Ak (show Pv (Fz c []) by unfold Fz Sg Pv;simp only [List.getD_nil,add0,WU];exact ⟨h0,g0,h1,g1,h2,g2⟩)]
  unfold Fz Sg
  simp only [List.getD_nil,add0,WU]
 |[a],_=>
  have e:Fz c [a]=⟨c.sc,c.fa,c.p0+max a 0,c.q0+min a 0,c.p1,c.q1,c.p2,c.q2⟩:=by unfold Fz Sg;simp [add0,WU]
  rw [DU,DU,e]
  unfold OD
  rw [Ak rfl]
  rcases Pf (v:=a) h0 g0 with ⟨h,i1,i2⟩|⟨h,hn⟩
  ·rw [Ak (show Pv ⟨_,_,_,_,_,_,_,_⟩ from ⟨i1,i2,h1,g1,h2,g2⟩)]
   simp only [h,ER]
  ·rw [Ah (show ¬ Pv ⟨_,_,_,_,_,_,_,_⟩ from fun hk=>hn ⟨hk.1,hk.2.1⟩)]
   simp only [h]
   rfl
 |[a,b],_=>
  have e:Fz c [a,b]=⟨c.sc,c.fa,c.p0+max a 0,c.q0+min a 0,c.p1+max b 0,c.q1+min b 0,c.p2,c.q2⟩:=by unfold Fz Sg;simp [add0,WU]
  rw [DU,DU,DU,e]
  unfold OD
  simp only [ER,Hw,Nat.one_ne_zero,if_false]
  rcases Pf (v:=a) h0 g0 with ⟨h,i1,i2⟩|⟨h,hn⟩
  ·rcases Pf (v:=b) h1 g1 with ⟨h',j1,j2⟩|⟨h',hn'⟩
   ·rw [Ak (show Pv ⟨_,_,_,_,_,_,_,_⟩ from ⟨i1,i2,j1,j2,h2,g2⟩)]
    simp only [h,h',ER]
   ·rw [Ah (show ¬ Pv ⟨_,_,_,_,_,_,_,_⟩ from fun hk=>hn' ⟨hk.2.2.1,hk.2.2.2.1⟩)]
    simp only [h,h',ER]
    rfl
  ·rw [Ah (show ¬ Pv ⟨_,_,_,_,_,_,_,_⟩ from fun hk=>hn ⟨hk.1,hk.2.1⟩)]
   simp only [h]
   rfl
 |[a,b,z],_=>
  rw [DU,DU,DU,DU,show Fz c [a,b,z]=Sg c a b z from rfl]
  unfold OD Sg
  simp only [ER,Hw,Nat.one_ne_zero,if_false]
  rcases Pf (v:=a) h0 g0 with ⟨h,i1,i2⟩|⟨h,hn⟩
  ·rcases Pf (v:=b) h1 g1 with ⟨h',j1,j2⟩|⟨h',hn'⟩
   ·rcases Pf (v:=z) h2 g2 with ⟨h'',k1,k2⟩|⟨h'',hn''⟩
    ·rw [Ak (show Pv ⟨_,_,_,_,_,_,_,_⟩ from ⟨i1,i2,j1,j2,k1,k2⟩)]
     simp [h,h',h'']
    ·rw [Ah (show ¬ Pv ⟨_,_,_,_,_,_,_,_⟩ from fun hk=>hn'' ⟨hk.2.2.2.2.1,hk.2.2.2.2.2⟩)]
     simp [h,h',h'']
   ·rw [Ah (show ¬ Pv ⟨_,_,_,_,_,_,_,_⟩ from fun hk=>hn' ⟨hk.2.2.1,hk.2.2.2.1⟩)]
    simp [h,h']
  ·rw [Ah (show ¬ Pv ⟨_,_,_,_,_,_,_,_⟩ from fun hk=>hn ⟨hk.1,hk.2.1⟩)]
   simp [h]
def Bt (c:CC) (l:List (List Int)):CC:=l.foldl Fz c
theorem pK (c:CC) (r:List Int):(Fz c r).sc=c.sc∧(Fz c r).fa=c.fa∧c.p0≤(Fz c r).p0∧(Fz c r).q0≤c.q0∧c.p1≤(Fz c r).p1∧(Fz c r).q1≤c.q1∧c.p2≤(Fz c r).p2∧(Fz c r).q2≤c.q2:=by
 unfold Fz Sg
 exact ⟨rfl,rfl,by simp only;omega,by simp only;omega,by simp only;omega,by simp only;omega,by simp only;omega,by simp only;omega⟩
theorem OG (l:List (List Int)):∀ c:CC,(Bt c l).sc=c.sc∧(Bt c l).fa=c.fa∧c.p0≤(Bt c l).p0∧(Bt c l).q0≤c.q0∧c.p1≤(Bt c l).p1∧(Bt c l).q1≤c.q1∧c.p2≤(Bt c l).p2∧(Bt c l).q2≤c.q2:=by
 induction l with
 |nil=>intro c;exact ⟨rfl,rfl,Lj _,Lj _,Lj _,Lj _,Lj _,Lj _⟩
 |cons r l ih=>
  intro c
  have h1:=pK c r
  have h2:=ih (Fz c r)
  have e:Bt c (r::l)=Bt (Fz c r) l:=rfl
  rw [e]
  exact ⟨h2.1.trans h1.1,h2.2.1.trans h1.2.1,by omega,by omega,by omega,by omega,by omega,by omega⟩
theorem dK {c d:CC} (hc:Pv c) (h:c.p0≤d.p0∧d.q0≤c.q0∧c.p1≤d.p1∧d.q1≤c.q1∧c.p2≤d.p2∧d.q2≤c.q2) {e:CC} (he:Pv e) (h2:d.p0≤e.p0∧e.q0≤d.q0∧d.p1≤e.p1∧e.q1≤d.q1∧d.p2≤e.p2∧e.q2≤d.q2):Pv d:=by
 unfold Pv AP at *
 omega
def mD (m:Nat) (c:CC) (l:List (List Int)):Prop:=(∀ r ∈ l,r.length=m)∧Pv (Bt c l)
theorem vK {m:Nat} (hm:m≤3) (l:List (List Int)):∀ c:CC,Pv c→(mD m c l→Eo m c l=(Bt c l,0))∧(¬ mD m c l→(Eo m c l).2≠0):=by
 induction l with
 |nil=>
  intro c hc
  exact ⟨fun _=>rfl,fun h=>absurd ⟨fun r hr=>(by cases hr),hc⟩ h⟩
 |cons r l ih=>
  intro c hc
  have e:Bt c (r::l)=Bt (Fz c r) l:=rfl
  by_cases hr:r.length=m
  ·have hv:=F5 (c:=c) hc (r:=r) (by omega)
   by_cases hk:Pv (Fz c r)
   ·rw [Ak hk] at hv
    rw [RS hr hv]
    have ih':=ih _ hk
    have hiff:mD m c (r::l)↔mD m (Fz c r) l:=by
     unfold mD
     rw [e]
     exact ⟨fun h=>⟨fun x hx=>h.1 x (EO _ hx),h.2⟩,fun h=>⟨fun x hx=>by rcases En.1 hx with rfl|hx;exact hr;exact h.1 x hx,h.2⟩⟩
    rw [hiff,e]
    exact ih'
   ·rw [Ah hk] at hv
    rw [Fw hr hv]
    refine ⟨fun h=>?_,fun _=>by decide⟩
    have h1:=(pK c r).2.2
    have h2:=(OG l (Fz c r)).2.2
    exact absurd (dK hc h1 (e ▸ h.2) h2) hk
  ·rw [Ph hr]
   exact ⟨fun h=>absurd (h.1 r Dr) hr,fun _=>by decide⟩
theorem wC (c:CC) (r s:List Int):Fz (Fz c r) s=Fz (Fz c s) r:=by
 unfold Fz Sg
 ext<;>simp only<;>first|rfl|omega
theorem WS {l l':List (List Int)} (h:l.Perm l') (c:CC):Bt c l=Bt c l':=h.foldl_eq' (fun x _ y _ z=>wC z x y) c
theorem Tg (c:CC) (l l':List (List Int)):Bt c (l++l')=Bt (Bt c l) l':=List.foldl_append ..
def Lx (c:CC) (l:List (List Int)):Prop:=c.fa+l.length≤4000∧mD c.sc.ms.length c l
def Lg (c:CC) (l:List (List Int)):CC:=⟨c.sc,c.fa+l.length,(Bt c l).p0,(Bt c l).q0,(Bt c l).p1,(Bt c l).q1,(Bt c l).p2,(Bt c l).q2⟩
theorem GD {c:CC} (hE:Cj c=0) (hc:Pv c) (l:List (List Int)):(Lx c l→BO c l=(Lg c l,0))∧(¬ Lx c l→(BO c l).2≠0):=by
 have hm:=(BA (OE hE).1).2.2.2.2.1
 obtain ⟨v1,v2⟩:=vK hm l c hc
 unfold BO
 rw [Ah (by simp [hE])]
 by_cases h4:4000<c.fa+l.length
 ·rw [Ak h4]
  exact ⟨fun h=>absurd h.1 (by omega),fun _=>by decide⟩
 ·rw [Ah h4]
  refine ⟨fun h=>?_,fun h=>?_⟩
  ·rw [v1 h.2]
   have hl:=OG l c
   unfold Xv Lg
   rw [Ak rfl]
   simp only [hl.1,hl.2.1]
  ·have hn:=v2 (fun hf=>h ⟨by omega,hf⟩)
   unfold Xv
   rw [Ah hn]
   exact hn
theorem Wq {l l':List (List Int)} (h:l.Perm l') (c:CC):Lx c l↔Lx c l':=by
 unfold Lx mD
 rw [WS h c,h.length_eq]
 exact ⟨fun ⟨a,b,d⟩=>⟨a,fun r hr=>b r (h.mem_iff.2 hr),d⟩,fun ⟨a,b,d⟩=>⟨a,fun r hr=>b r (h.mem_iff.1 hr),d⟩⟩
theorem vF {l l':List (List Int)} (h:l.Perm l') (c:CC):Lg c l=Lg c l':=by
 unfold Lg
 rw [WS h c,h.length_eq]
theorem RX {c:CC} (hE:Cj c=0) (hc:Pv c) {l l':List (List Int)} (h:l.Perm l'):((BO c l).2=0↔(BO c l').2=0)∧((BO c l).2=0→BO c l=BO c l'):=by
 obtain ⟨a1,a2⟩:=GD hE hc l
 obtain ⟨b1,b2⟩:=GD hE hc l'
 by_cases hg:Lx c l
 ·rw [a1 hg,b1 ((Wq h c).1 hg),vF h c]
  exact ⟨Iff.rfl,fun _=>rfl⟩
 ·have n1:=a2 hg
  have n2:=b2 (fun h'=>hg ((Wq h c).2 h'))
  exact ⟨⟨fun h=>absurd h n1,fun h=>absurd h n2⟩,fun h=>absurd h n1⟩
theorem Np {m i p q:Int} (h:Dq m i p q=false):0≤p∧q≤0∧(m≤i→p=0∧q=0):=by
 unfold Dq at h
 simp at h
 refine ⟨h.1.1,h.1.2,fun hm=>?_⟩
 have:=h.2 hm
 exact this
theorem KL {m i p q:Int} (h0:0≤p) (h1:q≤0) (h:m≤i→p=0∧q=0):Dq m i p q=false:=by
 unfold Dq
 by_cases hm:m≤i
 ·obtain ⟨rfl,rfl⟩:=h hm
  simp
 ·simp [h0,h1,hm]
theorem Nn {c:CC}:Cj c=0↔Ap c.sc=0∧0≤c.fa∧c.fa≤4000∧Dq c.sc.ms.length 0 c.p0 c.q0=false∧Dq c.sc.ms.length 1 c.p1 c.q1=false∧Dq c.sc.ms.length 2 c.p2 c.q2=false:=by
 constructor
 ·intro h
  obtain ⟨a,b,d⟩:=OE h
  unfold Cj at h
  rw [Ah (by simp [a]),Ah (by omega)] at h
  cases h0:Dq c.sc.ms.length 0 c.p0 c.q0<;>rw [h0] at h
  ·cases h1:Dq c.sc.ms.length 1 c.p1 c.q1<;>rw [h1] at h
   ·cases h2:Dq c.sc.ms.length 2 c.p2 c.q2<;>rw [h2] at h
    ·exact ⟨a,b,d,rfl,rfl,rfl⟩
    ·simp at h
   ·simp at h
  ·simp at h
 ·rintro ⟨a,b,d,h0,h1,h2⟩
  unfold Cj
  rw [Ah (by simp [a]),Ah (by omega),h0,h1,h2]
  rfl
theorem Ws {r:List Int} {i:Nat} (h:r.length≤i):r.getD i 0=0:=by simp [List.getD,Gt h]
theorem wB (l:List (List Int)) {m:Nat}:∀ c:CC,(∀ r ∈ l,r.length=m)→(m≤0→(Bt c l).p0=c.p0∧(Bt c l).q0=c.q0)∧(m≤1→(Bt c l).p1=c.p1∧(Bt c l).q1=c.q1)∧(m≤2→(Bt c l).p2=c.p2∧(Bt c l).q2=c.q2):=by
 induction l with
 |nil=>intro c _;exact ⟨fun _=>⟨rfl,rfl⟩,fun _=>⟨rfl,rfl⟩,fun _=>⟨rfl,rfl⟩⟩
 |cons r l ih=>
  intro c h
  have hr:=h r Dr
  obtain ⟨i0,i1,i2⟩:=ih (Fz c r) (fun x hx=>h x (EO _ hx))
  have e:Bt c (r::l)=Bt (Fz c r) l:=rfl
  rw [e]
  refine ⟨fun hm=>?_,fun hm=>?_,fun hm=>?_⟩
  ·rw [(i0 hm).1,(i0 hm).2]
   unfold Fz Sg
   rw [Ws (r:=r) (i:=0) (by omega)]
   exact ⟨add0 _,WU _⟩
  ·rw [(i1 hm).1,(i1 hm).2]
   unfold Fz Sg
   rw [Ws (r:=r) (i:=1) (by omega)]
   exact ⟨add0 _,WU _⟩
  ·rw [(i2 hm).1,(i2 hm).2]
   unfold Fz Sg
   rw [Ws (r:=r) (i:=2) (by omega)]
   exact ⟨add0 _,WU _⟩
theorem eX {c:CC} (hE:Cj c=0) {l:List (List Int)} (hg:Lx c l):Cj (Lg c l)=0:=by
 obtain ⟨a,b,d,h0,h1,h2⟩:=Nn.1 hE
 have hl:=(OG l c).2.2
 obtain ⟨o0,o1,o2⟩:=wB l c hg.2.1
 have hf:=hg.1
 refine Nn.2 ⟨a,?_,?_,?_,?_,?_⟩
 ·show 0≤c.fa+(l.length:Int);omega
 ·show c.fa+(l.length:Int)≤4000;omega
 ·obtain ⟨x,y,z⟩:=Np h0
  exact KL (by show 0≤(Bt c l).p0;omega) (by show (Bt c l).q0≤0;omega) (fun hm=>by show (Bt c l).p0=0∧(Bt c l).q0=0;have:=o0 (by simp only [Lg] at hm;omega);have:=z hm;omega)
 ·obtain ⟨x,y,z⟩:=Np h1
  exact KL (by show 0≤(Bt c l).p1;omega) (by show (Bt c l).q1≤0;omega) (fun hm=>by show (Bt c l).p1=0∧(Bt c l).q1=0;have:=o1 (by simp only [Lg] at hm;omega);have:=z hm;omega)
 ·obtain ⟨x,y,z⟩:=Np h2
  exact KL (by show 0≤(Bt c l).p2;omega) (by show (Bt c l).q2≤0;omega) (fun hm=>by show (Bt c l).p2=0∧(Bt c l).q2=0;have:=o2 (by simp only [Lg] at hm;omega);have:=z hm;omega)
theorem YF {c d:CC} (l:List (List Int)) (h:d.p0=c.p0∧d.q0=c.q0∧d.p1=c.p1∧d.q1=c.q1∧d.p2=c.p2∧d.q2=c.q2):(Bt d l).p0=(Bt c l).p0∧(Bt d l).q0=(Bt c l).q0∧(Bt d l).p1=(Bt c l).p1∧(Bt d l).q1=(Bt c l).q1∧(Bt d l).p2=(Bt c l).p2∧(Bt d l).q2=(Bt c l).q2:=by
 induction l generalizing c d with
 |nil=>exact h
 |cons r l ih=>
  refine ih (c:=Fz c r) (d:=Fz d r) ?_
  obtain ⟨a,b,e,f,g,k⟩:=h
  unfold Fz Sg
  simp only [a,b,e,f,g,k,and_self]
theorem fJ {c:CC} (hE:Cj c=0) (hc:Pv c) (l1 l2:List (List Int)):
 ((BO c (l1++l2)).2=0↔(BO c l2).2=0∧(BO (BO c l2).1 l1).2=0)∧((BO c (l1++l2)).2=0→BO (BO c l2).1 l1=BO c (l1++l2)):=by
 have hp:(l1++l2).Perm (l2++l1):=List.perm_append_comm
 obtain ⟨p1,p2⟩:=RX hE hc hp
 obtain ⟨a1,a2⟩:=GD hE hc (l2++l1)
 obtain ⟨b1,b2⟩:=GD hE hc l2
 by_cases hg:Lx c l2
 ·have hE2:=eX hE hg
  have hk2:Pv (Lg c l2):=hg.2.2
  obtain ⟨d1,d2⟩:=GD hE2 hk2 l1
  have hcon:Pv (Bt (Lg c l2) l1)↔Pv (Bt c (l2++l1)):=by
   rw [Tg]
   obtain ⟨a,b,e,f,g,k⟩:=YF (c:=Bt c l2) (d:=Lg c l2) l1 ⟨rfl,rfl,rfl,rfl,rfl,rfl⟩
   unfold Pv
   rw [a,b,e,f,g,k]
  have hiff:Lx (Lg c l2) l1↔Lx c (l2++l1):=by
   have hf:=hg.1
   constructor
   ·rintro ⟨x,y,z⟩
    refine ⟨?_,fun r hr=>?_,hcon.1 z⟩
    ·have:(Lg c l2).fa=c.fa+l2.length:=rfl
     rw [BQ];omega
    ·rcases DT.1 hr with h|h
     ·exact hg.2.1 r h
     ·exact y r h
   ·rintro ⟨x,y,z⟩
    refine ⟨?_,fun r hr=>y r (List.mem_append_right _ hr),hcon.2 z⟩
    have:(Lg c l2).fa=c.fa+l2.length:=rfl
    rw [BQ] at x;omega
  rw [b1 hg]
  by_cases hg2:Lx c (l2++l1)
  ·have hfin:Lg (Lg c l2) l1=Lg c (l2++l1):=by
    obtain ⟨a,b,e,f,g,k⟩:=YF (c:=Bt c l2) (d:=Lg c l2) l1 ⟨rfl,rfl,rfl,rfl,rfl,rfl⟩
    rw [←Tg] at a b e f g k
    have hfa:(Lg c l2).fa+(l1.length:Int)=c.fa+((l2++l1).length:Int):=by
     have:(Lg c l2).fa=c.fa+l2.length:=rfl
     rw [BQ];omega
    unfold Lg at hfa a b e f g k ⊢
    rw [hfa,a,b,e,f,g,k]
   have e1:(BO c (l1++l2)).2=0:=p1.2 (by rw [a1 hg2])
   rw [p2 e1,a1 hg2,d1 (hiff.2 hg2),hfin]
   exact ⟨⟨fun _=>⟨rfl,rfl⟩,fun _=>rfl⟩,fun _=>rfl⟩
  ·have n1:¬ (BO c (l1++l2)).2=0:=fun h=>a2 hg2 (p1.1 h)
   have n2:=d2 (fun h=>hg2 (hiff.1 h))
   exact ⟨⟨fun h=>absurd h n1,fun h=>absurd h.2 n2⟩,fun h=>absurd h n1⟩
 ·have hng:¬ Lx c (l2++l1):=by
   rintro ⟨x,y,z⟩
   refine hg ⟨by rw [BQ] at x;omega,fun r hr=>y r (List.mem_append_left _ hr),?_⟩
   rw [Tg] at z
   exact dK hc (OG l2 c).2.2 z (OG l1 _).2.2
  have n1:¬ (BO c (l1++l2)).2=0:=fun h=>a2 hng (p1.1 h)
  have n2:=b2 hg
  exact ⟨⟨fun h=>absurd h n1,fun h=>absurd h.1 n2⟩,fun h=>absurd h n1⟩
end Go.Proofs.YtijplolmkcdflaaGreat
namespace Go.Proofs.YtijplolmkcdflaaGreat
open Go.RowKit
def Ag.sum (a:Ag) (k:Int):Int:=if k=0 then a.p.s else if k=1 then a.q.s else a.r.s
end Go.Proofs.YtijplolmkcdflaaGreat
namespace Go.Proofs.YtijplolmkcdflaaGreat
open Tryz
open Go.RowKit
section
variable {P : Program}
theorem EA {ops:Array Oper} {rest:List Oper} {o:Oper} {a:Act} {w:World} {Q:Exit→Act→World→Prop} (hgd:o.guard=none) {t:TypeId} (x y:Operand) {i j:Nat} (ho:o.op=.build t #[(i,x),(j,y)])
 {vx vy v:Value} (hx:a.eval x=vx) (hy:a.eval y=vy) (hr:∀ w,(Instr.build t #[(i,vx),(j,vy)]).run P w=.ok v w)
 (h:wpList P ops Q rest (a.put o.dst v) w):wpList P ops Q (o::rest) a w:=by
 refine MO hgd fun K hK=>?_
 unfold Oper.wp execOp
 simp only [ho,PI,DI,EF,hx,hy,IP,hr,JK,JJ]
 exact hK _ _ h
end
def Gz (s:SC) (r:RC):List Int × Ag:=((match rowOf s r with|.ok ks=>ks|.error _=>[]),Ag.of r.vs)
theorem bI {ds:List DC}:∀ {ts:List (List UInt8)} {ks:List Int},(∀ d ∈ ds,∀ tr ∈ d.AB,tr.ts.length≤200)→Cz ds ts=.ok ks→(∀ k ∈ ks,AP k)∧ks.length≤ds.length:=by
 induction ds with
 |nil=>intro ts ks _ h;cases ts<;>(simp only [Cz] at h;injection h with h;subst h;exact ⟨(fun k hk=>by cases hk),by simp⟩)
 |cons d ds ih=>
  intro ts ks hd h
  cases ts with
  |nil=>simp only [Cz] at h;injection h with h;subst h;exact ⟨(fun k hk=>by cases hk),by simp⟩
  |cons a r=>
   rw [Cz] at h
   split at h
   ·cases h
   ·rename_i tr rest htr
    split at h
    ·cases h
    ·rename_i k hp
     split at h
     ·cases h
     ·rename_i ks' hk
      obtain ⟨h1,h2⟩:=ih (fun d' hd'=>hd d' (EO _ hd')) hk
      injection h with h
      subst h
      refine ⟨fun z hz=>?_,by simp;omega⟩
      rcases En.1 hz with rfl|hz
      ·have h3:=Ru hp
       have h4:=hd d (Dr ..) tr (by rw [htr];exact Dr ..)
       unfold AP
       omega
      ·exact h1 z hz
theorem jO {s:SC} {r:RC} {ks:List Int} (hE:Ap s=0) (h:rowOf s r=.ok ks):(∀ k ∈ ks,AP k)∧ks.length≤16:=by
 obtain ⟨_,h2,h3,_,_,_⟩:=BA hE
 unfold rowOf at h
 split at h
 ·cases h
 ·obtain ⟨a,b⟩:=bI (fun d hd tr htr=>(KH (h3 d hd) tr htr).2) h
  exact ⟨a,by omega⟩
theorem QD {α:Type} [Ar α] {w:World} {base:Nat} {e:TypeId} {x:Row α} (h:w.ownsRow base e (Ar.size α) (.slice x.A x.n x.c) x.n (x.l.flatMap Ar.cells)) (ha:∀ a ∈ x.l,Ar.ok w a) (hz:x.n * Ar.bytes α≤140737488351232):x.ok w:=by
 refine ⟨Rd.Bf h,ha,?_,?_,hz⟩
 ·rcases h.2 with ⟨h0,h1⟩|⟨g',cap,cur,hv,hb,hh,hn,hm,hs,hx⟩
  ·omega
  ·injection hv with _ _ hv;omega
 ·rcases h.2 with ⟨h0,h1⟩|⟨g',cap,cur,hv,hb,hh,hn,hm,hs,hx⟩
  ·injection h0 with _ _ h0;omega
  ·injection hv with _ _ hv;omega
theorem C9 (f:AV):∀ u ∈ f.cs.toList,u.oneCell'=true:=fun u hu=>NB.1 (FC f) u (by simpa using hu)
abbrev rH (f:AV):EE:=⟨(Cb 3 1 (.slice f.ks.A f.ks.n f.ks.c) f.ks.n (f.ks.l.map (Value.int .i64))).D,fun w=>f.ok w⟩
theorem l6 {KA:Option Addr} {kd:Nat} {ks vs:List Int} {f:AV} {w:World} (hf:f=⟨⟨KA,ks.length,kd,ks⟩,Ag.of vs⟩) (h:(Cb 3 1 (.slice KA ks.length kd) ks.length (ks.map (Value.int .i64))).holds w) (hk:(∀ k ∈ ks,AP k)∧ks.length≤16) (ha:(Ag.of vs).ok):(rH f).holds w:=by
 subst hf
 refine ⟨h.1,fun w' hs hkp=>⟨QD (e:=3) (base:=0) ?_ (fun k hk'=>hk.1 k hk') ?_,ha⟩⟩
 ·have:=h.2 w' hs hkp
  rw [EX]
  exact this
 ·show ks.length * 8≤_
  omega
theorem fk_D {KA:Option Addr} {kd:Nat} {ks vs:List Int} {f:AV} (hf:f=⟨⟨KA,ks.length,kd,ks⟩,Ag.of vs⟩):∀ g,(rH f).D g→(Cb 3 1 (.slice KA ks.length kd) ks.length (ks.map (Value.int .i64))).D g:=by
 subst hf
 exact fun g hg=>hg
abbrev O4 (X:Row AV):EE:=⟨fun g=>(Cb 97 11 (.slice X.A X.n X.c) X.n (X.l.flatMap Ar.cells)).D g∨(BK rH X.l).D g,fun w=>X.ok w∧X.n≤300⟩
theorem uM {X:Row AV} {w:World} (h1:(Cb 97 11 (.slice X.A X.n X.c) X.n (X.l.flatMap Ar.cells)).holds w) (h2:(BK rH X.l).holds w) (h3:X.n≤300):(O4 X).holds w:=
 ⟨fun g hg=>hg.elim (h1.1 g) (h2.1 g),fun w' hs hk=>⟨QD (base:=0) (e:=97) (h1.2 w' hs fun g hg=>hk g (.inl hg)) (fun r hr=>h2.2 w' hs (fun g hg=>hk g (.inr hg)) r hr) (by show X.n * 104≤_;omega),h3⟩⟩
def Y3 (s:SC) (rows:List RC) (V:Row AV→Value) (w:World) (e:Ending) (w':World):Prop:=∃ X:Row AV,e=.returned (V X)∧X.n=rows.length∧X.l.map AV.Ac=rows.map (Gz s)∧Aj w w'∧Uq w w' (O4 X)
theorem ZH (s:Ev) (x:Row Rw) (w:World) (hs:s.rd w) (hx:x.rd w) (hn:s.dm.n≤1000000) (hm:s.ms.n≤1000000) (hd:∀ d ∈ s.dm.l,d.tr.n≤1000000∧∀ t ∈ d.tr.l,t.up.n≤100000) (hE:BF s.Ac (x.l.map Rw.Ac)=0):
 Calls prog 61 #[.agg s.cs,.slice x.A x.n x.c] w (Y3 s.Ac (x.l.map Rw.Ac) (fun X=>.tuple #[.slice X.A X.n X.c,.int .i64 0]) w):=by
 have HC:=Aa (fun w' (hb:Aj w w')=>RZ s x w' (hs.mono hb) (hx.mono hb) hn hm hd)
 have HE:=Aa (DK hE).1
 have JB:=Aa (DK hE).2.2
 have Ae1:x.n≤300:=by have h1:=(DK hE).2.1;have h2:x.l.length=x.n:=hx.len;simp at h1;omega
 rw [hE] at HC
 have HR:=Aa (fun r w' (hr:Rw.rd w' r) (hb:Aj w w')=>Vo s r w' (hs.mono hb) hr hn (Vp hs HE.Ab))
 have hlen:Hid (x.l.length=x.n):=hx.len
 have HX:=Aa hx
 have n63:=hx.n63
 have H:=Aa ((SL.start No w).alloc s.cs 25)
 (try simp only [LS] at H)
 obtain ⟨A,n,c,rows⟩:=x
 simp only at *
 have hcs:s.cs=#[.slice s.dm.A s.dm.n s.dm.c,.slice s.ms.A s.ms.n s.ms.c]:=rfl
 have wJ:=Aa hcs
 clear hs hx hd hcs hE
 have HR2:Hid True:=trivial
 go_enter func61,ntmps61
 rw [←wJ.Ab] at *
 go_wp2_with ((with_reducible refine OP 14 ?_);(refine Cx BL (H.blk 0 rfl) ?_))
 refine (HC _ H.to).mono ?_;rintro e w1 ⟨rfl,hb1⟩
 replace H:=Aa (H.Au hb1)
 clear hb1 HC
 generalize w.heap.size=x at *
 go_wp2_with fail
 replace H:=Aa (H.ES 97 11);(try simp only [LS] at H)
 replace H:=Aa (H.add (Aj.refl _) (BK rH []) (Df _ _) Iy);(try simp only [LS] at H)
 have HL:Hid (([]:List AV).map AV.Ac=((rows.map Rw.Ac).take 0).map (Gz s.Ac)):=rfl
 go_loopg [7,22] n (fun gg s7 si wr=>∃ (k:Nat) (B:Option Addr) (c:Nat) (fs:List AV),gg=n - k∧k≤n∧si=.int .i64 k∧s7=.slice B k c∧Hid (SL No w wr [Av x 25 s.cs,Cb 97 11 (.slice B k c) k (fs.flatMap Ar.cells),BK rH fs])∧Hid (fs.map AV.Ac=((rows.map Rw.Ac).take k).map (Gz s.Ac)))
 case atStart=>exact ⟨0,none,0,[],rfl,by omega,rfl,rfl,H,HL⟩
 case round=>
  clear H HL
  obtain ⟨k,B,c,fs,BG,hk,rfl,rfl,H,HL⟩:=hrel
  have Cg:=Aa BG
  clear BG
  by_cases hlt:k<n
  ·obtain ⟨bb,oo,r,hA,hbb,Zo,hrr,hrg⟩:=(HX.mono H.to).jK (k:=k) hlt
   simp only at hA
   subst hA
   have hrc:(rows.map Rw.Ac)[k]?=some r.Ac:=by rw [DD,Zo];(try rfl)
   obtain ⟨ks,hks⟩:=JB r.Ac (CE hrc)
   have HFC:Hid (Gz s.Ac r.Ac=(ks,Ag.of r.vs.l)):=by show _=_;unfold Gz;rw [hks]
   obtain ⟨_,hvl,_⟩:=OM HE hks
   have hv3:r.vs.n≤3:=by have h1:r.vs.l.length=r.vs.n:=hrr.vs.len;have h2:r.vs.l.length≤3:=hvl;omega
   have hkeys:=jO HE hks
   have Af7:=Aa hkeys
   have Aa0:(Ag.of r.vs.l).ok:=Ad8 (fun z hz=>hrr.vs.all z hz)
   have HAg:=Aa Aa0
   have Us:=Aa (Ci hrc)
   have nL:=Aa hrg
   have HRr:=Aa hrr
   have V8:=Aa (fun w' (hb:Aj wr w')=>(hrr.mono hb).vs.ints)
   clear Zo hrr hrg hrc hbb hvl hkeys Aa0
   obtain ⟨W0,hW0⟩:∃ W0,W0=wr:=⟨_,rfl⟩
   subst hW0
   have HB:Hid (Aj W0 W0):=Aj.refl _
   go_wp2_with (first|((with_reducible refine OP 25 ?_);(refine Ae rfl JO (.tmp 24) rfl bb (oo+k * 2) rfl r.cs rfl nL.Ab ?_))|((with_reducible refine OS 9 ?_);(refine Fu JO (r.cs) (SF r) ?_;replace H:=Aa (H.alloc (r.cs) 38);(try simp only [LS] at H);replace HB:=Aa (HB.alloc (.cells r.cs 38))))|((with_reducible refine OP 27 ?_);(refine Cx BL (H.blk 0 rfl) ?_))|((with_reducible refine OP 28 ?_);(refine Cx JO (H.blk 3 rfl) ?_)))
   have nK:=Aa (HR r _ (HRr.mono HB.Ab) H.to)
   rw [hks] at nK
   refine nK.mono ?_;rintro e w2 ⟨KA,kd,rfl,hb2,hown⟩
   replace H:=Aa (H.CJ hb2 hown);(try simp only [LS] at H)
   replace HB:=Aa (HB.trans hb2)
   clear hb2 hown nK HR2
   have c1:=(H.blk 3 rfl).Am 1
   obtain ⟨f,hf⟩:∃ f:AV,f=⟨⟨KA,ks.length,kd,ks⟩,Ag.of r.vs.l⟩:=⟨_,rfl⟩
   have Hbf:Hid (∀ w:World,(Instr.build 97 #[(0,.slice KA ks.length kd),(1,.agg (Ag.of r.vs.l).cs)]).run prog w=.ok (.agg f.cs) w):=by show ∀ w,_;rw [hf];exact vR ⟨KA,ks.length,kd,ks⟩ (Ag.of r.vs.l)
   have HF:=Aa hf
   clear hf
   go_wp2_with fail
   refine (Ab0 _ _ _ _ _ (V8 _ HB.Ab) hv3).mono ?_;rintro e w7 ⟨rfl,oZ⟩
   replace H:=Aa (H.Au oZ)
   clear oZ c1
   go_upto_region 10 with ((with_reducible refine OS 12 ?_);(refine Fu EC ((Ag.of r.vs.l).cs) (Kg _) ?_;replace H:=Aa (H.alloc ((Ag.of r.vs.l).cs) 95);(try simp only [LS] at H)))
   generalize w7.heap.size=u9 at *
   generalize w7.alloc (.cells (Ag.of r.vs.l).cs 95)=w8 at *
   go_wp2_with (first|((with_reducible refine OP 40 ?_);(refine Cx EC (H.blk 5 rfl) ?_))|((with_reducible refine OP 41 ?_);refine EA (vx:=.slice KA ks.length kd) (vy:=.agg (Ag.of r.vs.l).cs) (v:=.agg f.cs) rfl (.tmp 39) (.tmp 40) rfl rfl rfl (Hbf.Ab) ?_)|((with_reducible refine OP 42 ?_);(refine Cr rfl MJ (.tmp 41) rfl (f.cs) rfl (JU f) (by omega) ?_;replace H:=Aa (H.CJ ((Aj.refl _).alloc _) (Dc _ 97 (f.cs) 11 (JU f)));(try simp only [LS] at H)))|((with_reducible refine OP 43 ?_);(refine BI rfl (.tmp 38) (.tmp 42) _ rfl MJ 0 (Bw _) _ k _ rfl (H.row 1 rfl) _ 1 1 _ rfl (Rd.Bf (H.row 6 rfl)) (C9 f) (by unfold maxLen;omega) (by omega) ?_;intro vq wq AR Ay Bb;replace H:=Aa (H.setRow 1 rfl Ay AR Bb);(try simp only [LS] at H);clear AR Ay Bb;obtain ⟨B9,c9,rfl,_⟩:=Ao (H.row 1 rfl))))
   replace H:=Aa (H.turn 4 rfl (rH f) (l6 HF (H.get 4 rfl) Af7 HAg.Ab) (fk_D HF.Ab));(try simp only [LS] at H)
   replace H:=Aa (H.both 2 4 (by omega) rfl rfl (BK rH (fs++[f])) (Bq (H.get 2 rfl) (H.get 4 rfl)) Co);(try simp only [LS] at H)
   replace H:=Aa (H.Gh [0,1,2] (by decide) (by simp));(try simp only [LS] at H)
   have HL2:Hid ((fs++[f]).map AV.Ac=((rows.map Rw.Ac).take (k+1)).map (Gz s.Ac)):=by
    show _=_
    rw [Us.Ab,BR,BR,HL.Ab,DI,DI,HFC.Ab,HF.Ab]
    rfl
   clear HL
   go_wp2_with fail
   go_roundg (n - (k+1))
   case rel=>exact ⟨k+1,B9,c9,fs++[f],rfl,by omega,by go_num,rfl,by rw [FD,CY,IM,EZ];exact H,HL2⟩
   case measure=>rw [Cg.Ab];omega
  ·replace H:=Aa (H.both 1 2 (by omega) rfl rfl (O4 ⟨B,k,c,fs⟩) (uM (H.get 1 rfl) (H.get 2 rfl) (by show k≤300;omega)) (fun g hg=>hg));(try simp only [LS] at H)
   go_wp2
   go_ret2
   have hl:=hlen.Ab
   exact ⟨⟨B,k,c,fs⟩,rfl,by show k=(rows.map Rw.Ac).length;rw [Cq];omega,by rw [HL.Ab,DY (by simp;omega)],H.to,H.get 1 rfl,H.new 1 rfl⟩
theorem lD {x:Int} (hx:AP x) (t:List UInt8):KX (CK (Gq x)++t)=.ok (x,t):=by
 unfold KX
 rw [XW (dO hx.1 hx.2)]
 simp only
 rw [Xm]
theorem yI {t:List UInt8} (h:isTerm t=true) (h16:t.length≤16) (r:List UInt8):MZ (Cc t++r)=.ok (t,r):=by
 unfold MZ
 rw [Vx (by omega) (by omega) r]
 simp only [h,ER]
theorem yN {x:RC} (ht:∀ t ∈ x.ts,isTerm t=true∧t.length≤16) (hv:∀ v ∈ x.vs,AP v) (r:List UInt8):GL x.ts.length x.vs.length (IX x++r)=.ok (x,r):=by
 unfold GL IX
 rw [Dk,Me (put:=Cc) _ (fun t h r=>yI (ht t h).1 (ht t h).2 r)]
 simp only
 rw [Me (put:=fun x=>CK (Gq x)) _ (fun v h r=>lD (hv v h) r)]
 simp
theorem bK {P:List UInt8→Prop} {ds:List DC}:∀ {ts:List (List UInt8)} {ks:List Int},(∀ d ∈ ds,∀ tr ∈ d.AB,∀ t ∈ tr.ts,P t)→ts.length=ds.length→Cz ds ts=.ok ks→∀ t ∈ ts,P t:=by
 induction ds with
 |nil=>intro ts ks _ hl _ t ht;cases ts with|nil=>cases ht|cons a r=>simp at hl
 |cons d ds ih=>
  intro ts ks hd hl h t ht
  cases ts with
  |nil=>cases ht
  |cons a r=>
   rw [Cz] at h
   split at h
   ·cases h
   ·rename_i tr rest htr
    split at h
    ·cases h
    ·rename_i k hp
     split at h
     ·cases h
     ·rename_i ks' hk
      rcases En.1 ht with rfl|ht
      ·exact hd d (Dr ..) tr (by rw [htr];exact Dr ..) _ (Yb hp)
      ·exact ih (fun d' hd'=>hd d' (EO _ hd')) (by simpa using hl) hk t ht
theorem yD {s:SC} {r:RC} {ks:List Int} (hE:Ap s=0) (h:rowOf s r=.ok ks):r.ts.length=s.DF.length∧r.vs.length=s.ms.length∧∀ t ∈ r.ts,isTerm t=true∧t.length≤16:=by
 obtain ⟨h1,h2,h3,h4,h5,h6⟩:=BA hE
 unfold rowOf at h
 split at h
 ·cases h
 ·rename_i h7
  refine ⟨by omega,by omega,bK (fun d hd tr htr t ht=>?_) (by omega) h⟩
  have h8:=(KH (h3 d hd) tr htr).1
  exact ⟨PW h8 t ht,Gv h8 ht⟩
theorem yM {s:SC} {rows:List RC} (hE:BF s rows=0) (hv:∀ r ∈ rows,∀ v ∈ r.vs,AP v):Qt s.DF.length s.ms.length (FV rows)=.ok (rows,[]):=by
 obtain ⟨e1,e2,e3⟩:=DK hE
 unfold Qt FV
 rw [Oj (by omega) (by omega)]
 simp only
 have hp:=Me (p:=GL s.DF.length s.ms.length) (put:=IX) (xs:=rows) (acc:=[]) [] (fun r hr t=>by
  obtain ⟨ks,hk⟩:=e3 r hr
  obtain ⟨a,b,c⟩:=yD e1 hk
  rw [←a,←b]
  exact yN c (hv r hr) t)
 rw [EZ] at hp
 rw [hp,Fy]
theorem WJ {s:SC} {rows:List RC} (hE:BF s rows=0) (hv:∀ r ∈ rows,∀ v ∈ r.vs,AP v):Dn s (FV rows)=(rows,0):=by
 unfold Dn
 rw [Ah (by have:=(DK hE).1;omega),yM hE hv]
 simp only
 rw [Ak trivial,Ak hE]
theorem QQ {s:SC} {rows:List RC} (hE:BF s rows=0):(FV rows).length≤200000:=by
 obtain ⟨e1,e2,e3⟩:=DK hE
 have h7:=Bp rows.length
 have h9:(rows.flatMap IX).length≤500 * rows.length:=Lb fun r hr=>by
  obtain ⟨ks,hk⟩:=e3 r hr
  obtain ⟨a,b,c⟩:=OM e1 hk
  exact Vt a b c
 unfold FV
 rw [BQ]
 omega
theorem bR (s:SC) (x:Row Rw) (w:World) (hx:x.rd w) (hE:BF s (x.l.map Rw.Ac)=0):
 Calls prog 15 #[.slice x.A x.n x.c] w fun e w'=>e=.returned (.string ⟨(FV (x.l.map Rw.Ac)).toArray⟩)∧Aj w w':=by
 have hlen:Hid (x.l.length=x.n):=hx.len
 have HX:=Aa hx
 have n63:=hx.n63
 have H:=Aa ((SL.start No w).add (Aj.refl _) (BK TJ []) (Df _ _) Iy)
 (try simp only [LS] at H)
 obtain ⟨A,n,c,rows⟩:=x
 simp only at *
 clear hx
 obtain ⟨e1,e2,e3⟩:=DK hE
 have HRS:=Aa (fun r (hr:r ∈ rows)=>(e3 (Rw.Ac r) (GZ.2 ⟨r,hr,rfl⟩)).elim fun ks h=>OM e1 h)
 have hn3:n≤300:=by have:=hlen.Ab;simp only [Cq] at e2;omega
 have hpn:=Bp n
 clear hE e1 e2 e3
 go_enter func15,ntmps15
 go_wp2_with fail
 refine (BU (n:Int) _ (by omega) (by omega)).mono ?_;rintro e w3 ⟨rfl,hb3⟩
 replace H:=Aa (H.Au hb3)
 rw [Da]
 clear hb3
 go_wp2_with fail
 have HL:Hid (CK n=CK n++((rows.map Rw.Ac).take 0).flatMap IX):=by show _=_;simp
 go_loopg [3,15] n (fun gg o i wr=>∃ (k:Nat) (l:List UInt8),gg=n - k∧k≤n∧i=.int .i64 k∧o=.string ⟨l.toArray⟩∧l.length≤10+500 * k∧Hid (SL No w wr [BK TJ []])∧Hid (l=CK n++((rows.map Rw.Ac).take k).flatMap IX))
 case atStart=>exact ⟨0,_,rfl,by omega,rfl,rfl,by omega,H,HL⟩
 case round=>
  clear H HL
  obtain ⟨k,l,BG,hk,rfl,rfl,hll,H,HL⟩:=hrel
  obtain ⟨W0,hW0⟩:∃ W0,W0=wr:=⟨_,rfl⟩
  subst hW0
  have Cg:=Aa BG
  clear BG
  by_cases hlt:k<n
  ·obtain ⟨bb,oo,r,hA,hbb,Zo,hrr,hrg⟩:=(HX.mono H.to).jK (k:=k) hlt
   simp only at hA
   subst hA
   have hrc:(rows.map Rw.Ac)[k]?=some r.Ac:=by rw [DD,Zo];(try rfl)
   obtain ⟨s1,s2,s3⟩:=HRS r (CE Zo)
   have hpl:=Vt (r:=r.Ac) s1 s2 s3
   have HS3:=Aa s3
   have HN:Hid (l++IX r.Ac=CK n++((rows.map Rw.Ac).take (k+1)).flatMap IX):=by show _=_;rw [Ci hrc,FD,←Dk,←HL.Ab];simp
   have nL:=Aa hrg
   have hrl1:Hid (r.ts.l.length=r.ts.n):=hrr.ts.len
   have hrl2:Hid (r.vs.l.length=r.vs.n):=hrr.vs.len
   have HTS:=Aa (fun w' (hb:Aj W0 w')=>(hrr.mono hb).ts)
   have V8:=Aa (fun w' (hb:Aj W0 w')=>(hrr.mono hb).vs)
   have HB:Hid (Aj W0 W0):=Aj.refl _
   clear Zo hrr hrg hrc hbb HL s3
   obtain ⟨⟨A3,n3,c3,ts⟩,⟨A4,n4,c4,vs⟩⟩:=r
   simp only [Rw.cs,Rw.Ac] at *
   have hn16:n3≤16:=by have:=hrl1.Ab;omega
   have hn43:n4≤3:=by have:=hrl2.Ab;omega
   go_wp2_with (first|((with_reducible refine OP 18 ?_);(refine Ae rfl JO (.tmp 17) rfl bb (oo+k * 2) rfl #[.slice A3 n3 c3,.slice A4 n4 c4] rfl nL.Ab ?_))|((with_reducible refine OS 5 ?_);(refine Fu JO (#[.slice A3 n3 c3,.slice A4 n4 c4]) (by simp [Value.oneCell']) ?_;replace H:=Aa (H.alloc (#[.slice A3 n3 c3,.slice A4 n4 c4]) 38);(try simp only [LS] at H);have c0:=(H.blk 1 rfl).Am 0;replace HB:=Aa (HB.alloc (.cells #[.slice A3 n3 c3,.slice A4 n4 c4] 38)))))
   clear c0
   generalize W0.heap.size=y at *
   generalize W0.alloc (.cells #[.slice A3 n3 c3,.slice A4 n4 c4] 38)=w5 at *
   have X6:Hid (l=l++(ts.take 0).flatMap Cc):=by show _=_;simp
   go_loopg [3,22] n3 (fun gg o i wx=>∃ (j:Nat) (l1:List UInt8),gg=n3 - j∧j≤n3∧i=.int .i64 j∧o=.string ⟨l1.toArray⟩∧l1.length≤10+500 * k+26 * j∧Hid (SL No w wx [BK TJ [],Av y 38 #[.slice A3 n3 c3,.slice A4 n4 c4]])∧Hid (Aj W0 wx)∧Hid (l1=l++(ts.take j).flatMap Cc))
   case atStart=>exact ⟨0,l,rfl,by omega,rfl,rfl,by omega,H,HB,X6⟩
   case round=>
    clear H HB X6
    obtain ⟨j,l1,hgj,hj,rfl,rfl,hl1,H,HB,X6⟩:=hrel
    have Kv:=Aa hgj
    clear hgj
    by_cases hjlt:j<n3
    ·obtain ⟨b2,o2,t,hA2,htk,htl,q1⟩:=(HTS _ HB.Ab).FE (k:=j) hjlt
     simp only at hA2
     subst hA2
     have ht16:=HS3 t (CE htk)
     have hptl:(Cc t).length≤26:=by unfold Cc;rw [BQ];have:=Bp t.length;omega
     have Il:Hid (l1++Cc t=l++(ts.take (j+1)).flatMap Cc):=by show _=_;rw [Ci htk,FD,←Dk,←X6.Ab];simp
     clear htk X6
     go_wp2_with fail
     refine (GI t _ (by omega)).mono ?_;rintro e w6 ⟨rfl,hb6⟩
     replace H:=Aa (H.Au hb6)
     replace HB:=Aa (HB.trans hb6)
     clear hb6 q1
     go_wp2
     go_roundg (n3 - (j+1))
     case rel=>exact ⟨j+1,l1++Cc t,rfl,by omega,by go_num,by simp only [Cs],by simp only [BQ];omega,H,HB,Il⟩
     case measure=>rw [Kv.Ab];omega
    ·have HL2:Hid (l1=l++ts.flatMap Cc):=by show _=_;rw [X6.Ab,DY (by have:=hrl1.Ab;omega)]
     have HL3:Hid (l1=l1++(vs.take 0).flatMap (fun x=>CK (Gq x))):=by show _=_;simp
     have c0:=(H.blk 1 rfl).Am 1
     clear X6
     go_wp2_with fail
     clear c0
     go_loopg [3,34] n4 (fun gg o i wx=>∃ (j:Nat) (l2:List UInt8),gg=n4 - j∧j≤n4∧i=.int .i64 j∧o=.string ⟨l2.toArray⟩∧l2.length≤10+500 * k+26 * 16+9 * j∧Hid (SL No w wx [BK TJ [],Av y 38 #[.slice A3 n3 c3,.slice A4 n4 c4]])∧Hid (Aj W0 wx)∧Hid (l2=l1++(vs.take j).flatMap (fun x=>CK (Gq x))))
     case atStart=>exact ⟨0,l1,rfl,by omega,rfl,rfl,by omega,H,HB,HL3⟩
     case round=>
      clear H HB HL3
      obtain ⟨j,l2,hgj,hj,rfl,rfl,hl2,H,HB,HL3⟩:=hrel
      have Kv:=Aa hgj
      clear hgj
      by_cases hjlt:j<n4
      ·obtain ⟨b2,o2,v,hA2,hvk,hv,q1⟩:=(V8 _ HB.Ab).PZ (k:=j) hjlt
       simp only at hA2
       subst hA2
       obtain ⟨v0,v1⟩:=hv
       have hptl:=Bp (Gq v)
       have Il:Hid (l2++CK (Gq v)=l1++(vs.take (j+1)).flatMap (fun x=>CK (Gq x))):=by show _=_;rw [Ci hvk,FD,←Dk,←HL3.Ab];simp
       clear hvk HL3
       go_wp2_with fail
       refine (bF v _ v0 v1).mono ?_;rintro e w6 ⟨rfl,hb6⟩
       replace H:=Aa (H.Au hb6)
       replace HB:=Aa (HB.trans hb6)
       clear hb6 q1
       go_wp2
       go_roundg (n4 - (j+1))
       case rel=>exact ⟨j+1,l2++CK (Gq v),rfl,by omega,by go_num,by simp only [Cs],by simp only [BQ];omega,H,HB,Il⟩
       case measure=>rw [Kv.Ab];omega
      ·have HN3:Hid (l2=l++IX ⟨ts,vs⟩):=by
        show _=_
        rw [HL3.Ab,DY (by have:=hrl2.Ab;omega),HL2.Ab]
        unfold IX
        rw [Dk]
       have HN4:Hid (l2=CK n++((rows.map Rw.Ac).take (k+1)).flatMap IX):=by show _=_;rw [HN3.Ab];exact HN.Ab
       have hl2l:l2.length≤10+500 * (k+1):=by rw [HN3.Ab,BQ];omega
       replace H:=Aa (H.Gh [0] (by decide) (by simp));(try simp only [LS] at H)
       clear HL3 HN3 HL2
       go_wp2_with fail
       go_roundg (n - (k+1))
       case rel=>exact ⟨k+1,l2,rfl,by omega,by go_num,rfl,hl2l,H,HN4⟩
       case measure=>rw [Cg.Ab];omega
  ·have HN:Hid (l=FV (rows.map Rw.Ac)):=by
    show _=_
    rw [HL.Ab,DY (by have:=hlen.Ab;simp;omega)]
    unfold FV
    rw [Cq,hlen.Ab]
   clear HL
   go_wp2
   go_ret
   rw [←HN.Ab]
   exact ⟨rfl,H.to⟩
end Go.Proofs.YtijplolmkcdflaaGreat
namespace Go.Proofs.YtijplolmkcdflaaGreat
abbrev BS:=List Int × Ag
def CS (a b:BS):Bool:=FY a.1 b.1
def Bi (f:BS) (acc:List BS):Nat→Nat
 |0=>0
 |k+1=>if (acc[k]?.any fun a=>CS f a) then Bi f acc k else k+1
def Ik (f:BS) (acc:List BS):List BS:=acc.take (Bi f acc acc.length)++f::acc.drop (Bi f acc acc.length)
def Bo (acc:List BS):List BS→List BS
 |[]=>acc
 |f::l=>Bo (Ik f acc) l
def AZ (l:List BS):List BS:=Bo [] l
theorem Qx (f:BS) (acc:List BS) (k:Nat):Bi f acc k≤k:=by
 induction k with
 |zero=>exact BZ _
 |succ k ih=>rw [Bi];split<;>omega
theorem zU (f:BS) (acc:List BS):(Ik f acc).length=acc.length+1:=by
 have:=Qx f acc acc.length
 simp [Ik]
 omega
theorem Xe (acc l:List BS) (f:BS):Bo acc (l++[f])=Ik f (Bo acc l):=by
 induction l generalizing acc with
 |nil=>rfl
 |cons a l ih=>exact ih _
theorem Vi (l:List BS) (f:BS):AZ (l++[f])=Ik f (AZ l):=Xe [] l f
theorem EW (l:List BS):(AZ l).length=l.length:=by
 have:∀ acc,(Bo acc l).length=acc.length+l.length:=by
  induction l with
  |nil=>intro acc;rfl
  |cons a l ih=>intro acc;rw [Bo,ih,zU,CZ];omega
 rw [AZ,this]
 simp
theorem XO (l:List BS) (h:l.length≤1):AZ l=l:=by
 match l,h with
 |[],_=>rfl
 |[a],_=>rfl
def Uh (l:List BS):Prop:=∀ (i j:Nat) (a b:BS),i<j→l[i]?=some a→l[j]?=some b→CS b a=false
theorem CV {a b c:BS} (h1:CS b a=false) (h2:CS c b=false):CS c a=false:=by
 have r1:=FT b.1 a.1
 have r2:=FT c.1 b.1
 have s1:=ED b.1 a.1
 have s2:=ED c.1 b.1
 unfold CS FY at *
 simp at *
 intro h
 by_cases e1:Cu b.1 a.1=0
 ·rw [Pm e1] at h2;exact h2 h
 ·have e2:Cu a.1 b.1=-1:=by omega
  exact h2 (QP h e2)
theorem TP {a b:BS} (h:CS a b=true):CS b a=false:=by
 have s1:=ED a.1 b.1
 unfold CS FY at *
 simp at *
 omega
theorem XZ {f:BS} {acc:List BS} {k:Nat}:∀ i a,Bi f acc k≤i→i<k→acc[i]?=some a→CS f a=true:=by
 induction k with
 |zero=>intro i a _ h;omega
 |succ k ih=>
  intro i a h1 h2 ha
  rw [Bi] at h1
  split at h1
  ·rename_i hc
   by_cases e:i=k
   ·subst e
    rw [ha] at hc
    exact hc
   ·exact ih i a h1 (by omega) ha
  ·omega
theorem pos_at {f:BS} {acc:List BS} {k:Nat} (hk:k≤acc.length) (h:0<Bi f acc k):∃ a,acc[Bi f acc k - 1]?=some a∧CS f a=false:=by
 induction k with
 |zero=>simp [Bi] at h
 |succ k ih=>
  rw [Bi] at h ⊢
  split at h
  ·rename_i hc
   rw [Ak hc]
   exact ih (by omega) h
  ·rename_i hc
   rw [Ah hc]
   refine ⟨acc[k]'(by omega),by simp [Ep (show k<acc.length by omega)],?_⟩
   rw [Ep (by omega)] at hc
   simpa using hc
theorem Uu {f:BS} {acc:List BS} (h:Uh acc):Uh (Ik f acc):=by
 have hp:=Qx f acc acc.length
 have get:∀ i,(Ik f acc)[i]?=if i<Bi f acc acc.length then acc[i]? else if i=Bi f acc acc.length then some f else acc[i - 1]?:=by
  intro i
  unfold Ik
  by_cases h1:i<Bi f acc acc.length
  ·rw [Ak h1,Nz (by rw [Fa];omega),Gu h1]
  ·rw [Ah h1,NZ (by rw [Fa];omega),Fa,PD hp]
   by_cases h2:i=Bi f acc acc.length
   ·rw [Ak h2,h2,Ql];(try rfl)
   ·rw [Ah h2,show i - Bi f acc acc.length=(i - Bi f acc acc.length - 1)+1 by omega,FW,KN]
    congr 1
    omega
 intro i j a b hij ha hb
 rw [get] at ha hb
 by_cases i1:i<Bi f acc acc.length
 ·rw [Ak i1] at ha
  by_cases j1:j<Bi f acc acc.length
  ·rw [Ak j1] at hb;exact h i j a b hij ha hb
  ·rw [Ah j1] at hb
   by_cases j2:j=Bi f acc acc.length
   ·rw [Ak j2] at hb
    injection hb with hb
    subst hb
    obtain ⟨x,hx,hl⟩:=pos_at (f:=f) (acc:=acc) (BZ _) (by omega)
    by_cases e:i=Bi f acc acc.length - 1
    ·subst e;rw [ha] at hx;injection hx with hx;subst hx;exact hl
    ·exact CV (h i _ a x (by omega) ha hx) hl
   ·rw [Ah j2] at hb
    exact h i (j - 1) a b (by omega) ha hb
 ·rw [Ah i1] at ha
  rw [Ah (by omega),Ah (by omega)] at hb
  by_cases i2:i=Bi f acc acc.length
  ·rw [Ak i2] at ha
   injection ha with ha
   subst ha
   have hj:=(Ca.1 hb).1
   exact TP (XZ (k:=acc.length) (j - 1) b (by omega) hj hb)
  ·rw [Ah i2] at ha
   exact h (i - 1) (j - 1) a b (by omega) ha hb
theorem Rf (l:List BS):Uh (AZ l):=by
 have:∀ acc,Uh acc→Uh (Bo acc l):=by
  induction l with
  |nil=>intro acc h;exact h
  |cons a l ih=>intro acc h;exact ih _ (Uu h)
 exact this [] fun i j a b _ ha=>by simp at ha
theorem YZ {f:BS} {acc:List BS} {k:Nat} (h:∀ i a,i<k→acc[i]?=some a→CS f a=true) (hk:k≤acc.length):Bi f acc k=0:=by
 induction k with
 |zero=>rfl
 |succ k ih=>
  rw [Bi,Ep (by omega)]
  have h1:=h k (acc[k]'(by omega)) (by omega) (Ep (by omega))
  simp only [Option.any_some,h1,ER]
  exact ih (fun i a hi ha=>h i a (by omega) ha) (by omega)
theorem Jw {f:BS} {acc:List BS} (h:∀ a ∈ acc,CS f a=true):Ik f acc=f::acc:=by
 unfold Ik
 rw [YZ (fun i a hi ha=>h a (CE ha)) (BZ _)]
 simp
theorem Za {f x:BS} {acc:List BS} (h:CS f x=false) (k:Nat):Bi f (x::acc) (k+1)=Bi f acc k+1:=by
 induction k with
 |zero=>simp [Bi,h]
 |succ k ih=>
  rw [Bi,FW,ih,Bi]
  split<;>rfl
theorem II {f x:BS} {acc:List BS} (h:CS f x=false):Ik f (x::acc)=x::Ik f acc:=by
 unfold Ik
 rw [CZ,Za h]
 simp
theorem Ni (f:BS) (acc:List BS):Ik f acc=acc.take (Bi f acc acc.length)++f::acc.drop (Bi f acc acc.length):=rfl
theorem Fe (acc l m:List BS):Bo acc (l++m)=Bo (Bo acc l) m:=by
 induction l generalizing acc with
 |nil=>rfl
 |cons a l ih=>exact ih _
theorem Rh {x:BS} {acc l:List BS} (h:∀ y ∈ l,CS y x=false):Bo (x::acc) l=x::Bo acc l:=by
 induction l generalizing acc with
 |nil=>rfl
 |cons y l ih=>
  rw [Bo,Bo,II (h y (Dr ..)),ih fun z hz=>h z (EO _ hz)]
theorem dS {f a:BS} {acc:List BS}:a ∈ Ik f acc↔a=f∨a ∈ acc:=by
 have h:acc=acc.take (Bi f acc acc.length)++acc.drop (Bi f acc acc.length):=(Ki _ _).symm
 rw [Ni,DT,En]
 constructor
 ·rintro (h1|h1|h1)
  ·exact .inr (UX h1)
  ·exact .inl h1
  ·exact .inr (QX h1)
 ·rintro (h1|h1)
  ·exact .inr (.inl h1)
  ·rw [h,DT] at h1
   rcases h1 with h1|h1
   ·exact .inl h1
   ·exact .inr (.inr h1)
theorem Zi {a:BS} {acc l:List BS}:a ∈ Bo acc l↔a ∈ acc∨a ∈ l:=by
 induction l generalizing acc with
 |nil=>simp [Bo]
 |cons x l ih=>
  rw [Bo,ih,dS,En]
  constructor
  ·rintro ((h|h)|h)
   ·exact .inr (.inl h)
   ·exact .inl h
   ·exact .inr (.inr h)
  ·rintro (h|h|h)
   ·exact .inl (.inr h)
   ·exact .inl (.inl h)
   ·exact .inr h
theorem qV {X Y:List BS} {x:BS} (hX:∀ a ∈ X,CS x a=true) (hY:∀ a ∈ Y,CS a x=false):AZ (X++x::Y)=x::AZ (X++Y):=by
 unfold AZ
 rw [Fe,Fe,Bo,Jw (fun a ha=>hX a ((Zi.1 ha).elim (fun h=>by cases h) id)),Rh hY]
theorem uE {x y:BS} {acc:List BS} (h:CS y x=true) (hs:Uh acc):Ik x (Ik y acc)=Ik y (Ik x acc):=by
 have hxy:=TP h
 induction acc with
 |nil=>rw [show Ik y []=[y] from rfl,show Ik x []=[x] from rfl,II hxy,Jw (acc:=[x]) (by simpa using h)];(try rfl)
 |cons a acc ih=>
  have hs':Uh acc:=fun i j b c hij hb hc=>hs (i+1) (j+1) b c (by omega) (by rw [FW];exact hb) (by rw [FW];exact hc)
  have ha:∀ b ∈ acc,CS b a=false:=fun b hb=>by
   obtain ⟨j,hj⟩:=Iz.1 hb
   exact hs 0 (j+1) a b (by omega) rfl (by rw [FW];exact hj)
  by_cases h1:CS y a=true
  ·
   have hy:Ik y (a::acc)=y::a::acc:=Jw fun b hb=>by
    rcases En.1 hb with rfl|hb
    ·exact h1
    ·cases hq:CS y b with
     |true=>rfl
     |false=>rw [CV (ha b hb) hq] at h1;cases h1
   rw [hy,II hxy]
   by_cases h2:CS x a=true
   ·have hx:Ik x (a::acc)=x::a::acc:=Jw fun b hb=>by
     rcases En.1 hb with rfl|hb
     ·exact h2
     ·cases hq:CS x b with
      |true=>rfl
      |false=>rw [CV (ha b hb) hq] at h2;cases h2
    rw [hx,Jw fun b hb=>?_]
    rcases En.1 hb with rfl|hb
    ·exact h
    ·rcases En.1 hb with rfl|hb
     ·exact h1
     ·cases hq:CS y b with
      |true=>rfl
      |false=>rw [CV (ha b hb) hq] at h1;cases h1
   ·have h2:CS x a=false:=by cases hq:CS x a with|true=>exact absurd hq h2|false=>rfl
    rw [II h2]
    rw [Jw (acc:=a::Ik x acc) fun b hb=>?_]
    rcases En.1 hb with rfl|hb
    ·exact h1
    ·rcases dS.1 hb with rfl|hb
     ·exact h
     ·cases hq:CS y b with
      |true=>rfl
      |false=>rw [CV (ha b hb) hq] at h1;cases h1
  ·have h1:CS y a=false:=by cases hq:CS y a with|true=>exact absurd hq h1|false=>rfl
   have h2:CS x a=false:=CV h1 hxy
   rw [II h1,II h2,II h2,II h1,ih hs']
theorem xL {acc:List BS} (l:List BS) (h:Uh acc):Uh (Bo acc l):=by
 induction l generalizing acc with
 |nil=>exact h
 |cons a l ih=>exact ih (Uu h)
theorem YV {x:BS} {acc l:List BS} (hs:Uh acc) (h:∀ b ∈ l,CS x b=true):Bo (Ik x acc) l=Ik x (Bo acc l):=by
 induction l generalizing acc with
 |nil=>rfl
 |cons b l ih=>
  rw [Bo,Bo,←ih (Uu hs) fun c hc=>h c (EO _ hc),uE (h b (Dr ..)) hs]
theorem Xg {acc l:List BS} (f:BS) (hs:Uh acc) (hl:Uh l):Bo acc (Ik f l)=Ik f (Bo acc l):=by
 have e:l=l.take (Bi f l l.length)++l.drop (Bi f l l.length):=(Ki _ _).symm
 rw [Ni,Fe,Bo]
 rw [YV (xL _ hs) fun b hb=>?_]
 ·rw [←Fe,←e]
 ·obtain ⟨j,hj⟩:=Iz.1 hb
  rw [KN] at hj
  exact XZ (k:=l.length) _ b (by omega) (Ca.1 hj).1 hj
theorem PT {acc:List BS} (l:List BS) (hs:Uh acc):Bo acc (AZ l)=Bo acc l:=by
 have:∀ m,Uh m→Bo acc (Bo m l)=Bo (Bo acc m) l:=by
  induction l with
  |nil=>intro m _;rfl
  |cons f l ih=>intro m hm;rw [Bo,ih _ (Uu hm),Xg f hs hm];(try rfl)
 rw [AZ,this [] (fun i j a b _ ha=>by simp at ha)]
 rfl
theorem Vk (l m:List BS):AZ (l++AZ m)=AZ (l++m):=by
 unfold AZ
 rw [Fe,Fe]
 exact PT m (Rf l)
theorem Oh (l m:List BS):AZ (AZ l++m)=AZ (l++m):=by
 have h:=PT (acc:=[]) l (fun i j a b _ ha=>by simp at ha)
 unfold AZ at *
 rw [Fe,Fe,h]
theorem Vj (ls:List (List BS)):AZ (ls.map AZ).flatten=AZ ls.flatten:=by
 have:∀ acc:List BS,AZ (acc++(ls.map AZ).flatten)=AZ (acc++ls.flatten):=by
  induction ls with
  |nil=>intro acc;rfl
  |cons a ls ih=>
   intro acc
   rw [DI,Sw,Sw,←Dk,ih,←Dk]
   rw [←Oh (acc++AZ a),Vk,Oh]
 simpa using this []
theorem qU {l:List BS} (h:Uh l):AZ l=l:=by
 have:∀ (acc m:List BS),Uh (acc++m)→Bo acc m=acc++m:=by
  intro acc m
  induction m generalizing acc with
  |nil=>intro _;simp [Bo]
  |cons f m ih=>
   intro hs
   have hp:Bi f acc acc.length=acc.length:=by
    cases hl:acc.length with
    |zero=>rfl
    |succ k=>
     rw [Bi,Ep (by omega)]
     have:=hs k acc.length (acc[k]'(by omega)) f (by omega) (by rw [Nz (by omega),Ep]) (by rw [NZ (BZ _)];simp)
     simp [this]
   have hi:Ik f acc=acc++[f]:=by rw [Ni,hp];simp
   rw [Bo,hi,ih _ (by simpa using hs)]
   simp
 have h2:=this [] l (by simpa using h)
 rw [Fy] at h2
 exact h2
abbrev Hd:=List BS × Nat
def DJ (a b:Hd):Bool:=match a.1,b.1 with
 |x::_,y::_=>decide (Cu x.1 y.1=-1)||(decide (Cu x.1 y.1=0) && decide (a.2<b.2))
 |_,_=>false
theorem JS {a b:Hd} (h:DJ a b=true):DJ b a=false:=by
 obtain ⟨l,i⟩:=a;obtain ⟨m,k⟩:=b
 cases l with
 |nil=>cases m<;>simp [DJ] at h
 |cons x l=>
  cases m with
  |nil=>simp [DJ] at h
  |cons y m=>
   have:=ED x.1 y.1
   simp [DJ] at *
   omega
theorem GN {a b c:Hd} (hb:b.1≠[]) (h1:DJ b a=false) (h2:DJ c b=false):DJ c a=false:=by
 obtain ⟨l,i⟩:=a;obtain ⟨m,k⟩:=b;obtain ⟨p,j⟩:=c
 cases p with
 |nil=>simp [DJ]
 |cons z p=>
  cases l with
  |nil=>simp [DJ]
  |cons x l=>
   cases m with
   |nil=>exact absurd rfl hb
   |cons y m=>
    have s1:=ED y.1 x.1
    have s2:=ED z.1 y.1
    have r1:=FT y.1 x.1
    have r2:=FT z.1 y.1
    simp [DJ] at *
    rcases r1 with r|r|r
    ·omega
    ·rcases r2 with q|q|q
     ·omega
     ·rw [Pm q,r];omega
     ·rw [←Pm r,q];omega
    ·have s:Cu x.1 y.1=-1:=by omega
     rcases r2 with q|q|q
     ·omega
     ·rw [Pm q,r];omega
     ·have t:Cu y.1 z.1=-1:=by omega
      have u:=QP s t
      have v:=ED x.1 z.1
      omega
def ZQ (L:List Hd) (n:Nat) (P:Nat→Prop):Prop:=∀ k a b,0<k→k<n→¬ P k→L[k]?=some a→L[(k - 1) / 2]?=some b→DJ a b=false
abbrev Heap (L:List Hd) (n:Nat):Prop:=ZQ L n (fun _=>False)
structure Xx (L:List Hd) (j:Nat):Prop where
 but:ZQ L L.length (fun k=>k=j)
 over:∀ k a b,0<j→0<k→(k - 1) / 2=j→L[k]?=some a→L[(j - 1) / 2]?=some b→DJ a b=false
structure Je (L:List Hd) (n i:Nat):Prop where
 but:ZQ L n (fun k=>(k - 1) / 2=i)
 over:∀ k a b,0<i→0<k→k<n→(k - 1) / 2=i→L[k]?=some a→L[(i - 1) / 2]?=some b→DJ a b=false
def PS (L:List Hd) (i j:Nat) (a b:Hd):List Hd:=(L.set i b).set j a
theorem qP {L:List Hd} {i j:Nat} {a b:Hd}:(PS L i j a b).length=L.length:=by simp [PS]
theorem XI {L:List Hd} {i j:Nat} {a b:Hd} (hi:i<L.length) (hj:j<L.length) (k:Nat):(PS L i j a b)[k]?=if k=j then some a else if k=i then some b else L[k]?:=by
 unfold PS
 by_cases h1:k=j
 ·rw [Ak h1,h1,LZ (by simpa using hj)]
 ·rw [Ah h1,Nw (fun h=>h1 h.symm)]
  by_cases h2:k=i
  ·rw [Ak h2,h2,LZ hi]
  ·rw [Ah h2,Nw (fun h=>h2 h.symm)]
theorem xB {L:List Hd} (h:Xx L 0):Heap L L.length:=fun k a b h0 hk _ ha hb=>h.but k a b h0 hk (by omega) ha hb
theorem M6 {L:List Hd} {j:Nat} {a b:Hd} (h:Xx L j) (ha:L[j]?=some a) (hb:L[(j - 1) / 2]?=some b) (hl:DJ a b=false):Heap L L.length:=fun k c d h0 hk _ hc hd=>by
 by_cases e:k=j
 ·subst e;rw [ha] at hc;rw [hb] at hd;injection hc with hc;injection hd with hd;subst hc hd;exact hl
 ·exact h.but k c d h0 hk e hc hd
theorem M7 {L:List Hd} {j:Nat} {a b:Hd} (hj:0<j) (h:Xx L j) (hne:∀ x ∈ L,x.1≠[]) (ha:L[j]?=some a) (hb:L[(j - 1) / 2]?=some b) (hl:DJ a b=true):Xx (PS L ((j - 1) / 2) j b a) ((j - 1) / 2):=by
 have jl:=(Ca.1 ha).1
 have il:=(Ca.1 hb).1
 have hba:=JS hl
 have g:=fun k=>XI (a:=b) (b:=a) il jl k
 have nb:=hne b (CE hb)
 constructor
 ·intro k c d h0 hk hP hc hd
  rw [qP] at hk
  rw [g] at hc hd
  by_cases e1:k=j
  ·subst e1
   rw [Ak rfl] at hc
   rw [Ah (by omega),Ak rfl] at hd
   injection hc with hc;injection hd with hd;subst hc hd
   exact hba
  ·rw [Ah e1,Ah hP] at hc
   by_cases e2:(k - 1) / 2=j
   ·rw [Ak e2] at hd
    injection hd with hd;subst hd
    exact h.over k c b (by omega) h0 e2 hc hb
   ·rw [Ah e2] at hd
    by_cases e3:(k - 1) / 2=(j - 1) / 2
    ·rw [Ak e3] at hd
     injection hd with hd;subst hd
     have:=h.but k c b h0 hk e1 hc (by rw [e3];exact hb)
     exact GN nb hba this
    ·rw [Ah e3] at hd
     exact h.but k c d h0 hk e1 hc hd
 ·intro k c d hi h0 hk hc hd
  rw [g] at hc hd
  rw [Ah (by omega),Ah (by omega)] at hd
  by_cases e1:k=j
  ·subst e1
   rw [Ak rfl] at hc
   injection hc with hc;subst hc
   exact h.but _ b d hi il (by omega) hb hd
  ·rw [Ah e1,Ah (by omega)] at hc
   have h1:=h.but k c b h0 (Ca.1 hc).1 e1 hc (by rw [hk];exact hb)
   have h2:=h.but _ b d hi il (by omega) hb hd
   exact GN nb h2 h1
theorem Pg {L:List Hd} {n i:Nat} (h:Je L n i) (hl:∀ k a b,0<k→k<n→(k - 1) / 2=i→L[k]?=some a→L[i]?=some b→DJ a b=false):Heap L n:=fun k c d h0 hk _ hc hd=>by
 by_cases e:(k - 1) / 2=i
 ·exact hl k c d h0 hk e hc (by rw [←e];exact hd)
 ·exact h.but k c d h0 hk e hc hd
theorem SY {L:List Hd} {n i j:Nat} {a b:Hd} (hn:n≤L.length) (hj:0<j) (hjn:j<n) (hij:(j - 1) / 2=i) (h:Je L n i) (hne:∀ x ∈ L,x.1≠[]) (ha:L[j]?=some a) (hb:L[i]?=some b) (hl:DJ a b=true)
 (hmin:∀ k c,0<k→k<n→(k - 1) / 2=i→L[k]?=some c→DJ c a=false):Je (PS L i j b a) n j:=by
 have jl:=(Ca.1 ha).1
 have il:=(Ca.1 hb).1
 have hba:=JS hl
 have g:=fun k=>XI (a:=b) (b:=a) il jl k
 have na:=hne a (CE ha)
 constructor
 ·intro k c d h0 hk hP hc hd
  rw [g] at hc hd
  rw [Ah hP] at hd
  by_cases e1:k=j
  ·subst e1
   rw [Ak rfl] at hc
   rw [Ak hij] at hd
   injection hc with hc;injection hd with hd;subst hc hd
   exact hba
  ·rw [Ah e1] at hc
   by_cases e2:(k - 1) / 2=i
   ·rw [Ak e2] at hd
    injection hd with hd;subst hd
    rw [Ah (by omega)] at hc
    exact hmin k c h0 hk e2 hc
   ·rw [Ah e2] at hd
    by_cases e3:k=i
    ·subst e3
     rw [Ak rfl] at hc
     injection hc with hc;subst hc
     exact h.over j a d h0 hj hjn hij ha hd
    ·rw [Ah e3] at hc
     exact h.but k c d h0 hk e2 hc hd
 ·intro k c d _ h0 hk hkj hc hd
  rw [g] at hc hd
  rw [Ah (by omega),Ah (by omega)] at hc
  rw [Ah (by omega),Ak hij] at hd
  injection hd with hd;subst hd
  exact h.but k c a h0 hk (by omega) hc (by rw [hkj];exact ha)
theorem l8 {L:List Hd} {n:Nat} {r:Hd} (h:Heap L n) (hne:∀ x ∈ L,x.1≠[]) (hr:L[0]?=some r):∀ k a,k<n→L[k]?=some a→DJ a r=false:=by
 intro k
 induction k using Nat.strongRecOn with
 |ind k ih=>
  intro a hk ha
  cases k with
  |zero=>
   rw [hr] at ha;injection ha with ha;subst ha
   cases hq:DJ r r with
   |false=>rfl
   |true=>have:=JS hq;rw [this] at hq;cases hq
  |succ k=>
   have hl:=(Ca.1 ha).1
   have hb:=Ep (show k / 2<L.length by omega)
   have h1:=h (k+1) a _ (by omega) hk (fun h=>h) ha hb
   have h2:=ih (k / 2) (by omega) _ (by omega) hb
   exact GN (hne _ (CE hb)) h2 h1
theorem PU {α:Type} {a b:α}:∀ {r:List α} {j:Nat},r[j]?=some a→(a::r.set j b).Perm (b::r)
 |[],j,h=>by simp at h
 |x::r,0,h=>by injection h with h;subst h;exact List.Perm.swap ..
 |x::r,j+1,h=>by
  have ih:=PU (b:=b) (r:=r) (j:=j) (by simpa using h)
  exact (List.Perm.swap ..).trans ((ih.cons x).trans (List.Perm.swap ..))
theorem swap_perm {α:Type} {a b:α}:∀ {L:List α} {i j:Nat},i<j→L[i]?=some b→L[j]?=some a→((L.set i a).set j b).Perm L
 |[],i,j,_,h,_=>by simp at h
 |x::r,0,0,h,_,_=>by omega
 |x::r,0,j+1,_,h,h2=>by
  injection h with h;subst h
  exact PU (by simpa using h2)
 |x::r,i+1,0,h,_,_=>by omega
 |x::r,i+1,j+1,hij,h,h2=>(swap_perm (by omega) (by simpa using h) (by simpa using h2)).cons x
def CP (k:Nat):List (List BS)→List Hd
 |[]=>[]
 |l::r=>if l=[] then CP (k+1) r else (l,k)::CP (k+1) r
theorem QM (A B:List (List BS)):∀ k,CP k (A++B)=CP k A++CP (k+A.length) B:=by
 induction A with
 |nil=>intro k;rfl
 |cons a A ih=>
  intro k
  rw [IQ,CP,CP,ih,CZ,show k+(A.length+1)=k+1+A.length by omega]
  split<;>rfl
theorem Wl {R:List (List BS)}:∀ {k:Nat} {h:Hd},h ∈ CP k R→h.1≠[]∧k≤h.2∧R[h.2 - k]?=some h.1:=by
 induction R with
 |nil=>intro k h hm;cases hm
 |cons l R ih=>
  intro k h hm
  rw [CP] at hm
  split at hm
  ·obtain ⟨h1,h2,h3⟩:=ih hm
   exact ⟨h1,by omega,by rw [show h.2 - k=(h.2 - (k+1))+1 by omega,FW];exact h3⟩
  ·rename_i hl
   rcases En.1 hm with rfl|hm
   ·exact ⟨hl,BZ _,by simp⟩
   ·obtain ⟨h1,h2,h3⟩:=ih hm
    exact ⟨h1,by omega,by rw [show h.2 - k=(h.2 - (k+1))+1 by omega,FW];exact h3⟩
theorem Wm {R:List (List BS)}:∀ {k j:Nat} {l:List BS},R[j]?=some l→l≠[]→(l,k+j) ∈ CP k R:=by
 induction R with
 |nil=>intro k j l h;simp at h
 |cons a R ih=>
  intro k j l h hl
  rw [CP]
  cases j with
  |zero=>
   injection h with h;subst h
   rw [Ah hl]
   exact Dr ..
  |succ j=>
   have:=ih (k:=k+1) (j:=j) (by simpa using h) hl
   rw [show k+1+j=k+(j+1) by omega] at this
   split
   ·exact this
   ·exact EO _ this
theorem Vh {α:Type} {R:List α} {j:Nat} {x:α} (h:R[j]?=some x):R=R.take j++x::R.drop (j+1):=by
 obtain ⟨h1,rfl⟩:=Ca.1 h
 rw [List.getElem_cons_drop,Ki]
theorem XT {α:Type} {R:List α} {j:Nat} {x y:α} (h:R[j]?=some x):R.set j y=R.take j++y::R.drop (j+1):=by
 have h1:=(Ca.1 h).1
 conv=>lhs;rw [Vh h]
 rw [List.set_append_right _ _ (by rw [Fa];omega),Fa,PD (by omega),Ql]
 rfl
theorem Wj {R:List (List BS)} {j:Nat} {l:List BS} (h:R[j]?=some l) (hl:l≠[]):(CP 0 R).Perm ((l,j)::CP 0 (R.set j [])):=by
 have h1:=(Ca.1 h).1
 have e:(R.take j).length=j:=by rw [Fa];omega
 conv=>lhs;rw [Vh h]
 rw [XT h,QM,QM,CP,CP,Ah hl,Ak rfl,e,Hw]
 exact List.perm_middle
theorem lH {R:List (List BS)} {j:Nat} {l t:List BS} (h:R[j]?=some l) (ht:t≠[]):(CP 0 (R.set j t)).Perm ((t,j)::CP 0 (R.set j [])):=by
 have h1:=(Ca.1 h).1
 have:=Wj (R:=R.set j t) (j:=j) (l:=t) (by rw [LZ h1]) ht
 rwa [List.set_set] at this
theorem kV {R:List (List BS)} {L:List Hd} {x:BS} {t:List BS} {j:Nat} (hp:L.Perm (CP 0 R)) (hh:Heap L L.length) (h0:L[0]?=some (x::t,j)) (hs:∀ l ∈ R,Uh l):
 R[j]?=some (x::t)∧AZ R.flatten=x::AZ (R.set j t).flatten:=by
 have hm:=Wl (hp.mem_iff.1 (CE h0))
 simp only [Nat.sub_zero] at hm
 have hj:=hm.2.2
 have hne:∀ z ∈ L,z.1≠[]:=fun z hz=>(Wl (hp.mem_iff.1 hz)).1
 have hmin:=l8 hh hne h0
 have key:∀ (k:Nat) (a:BS),(∃ l,R[k]?=some l∧a ∈ l)→CS a x=false∧(k<j→CS x a=true):=by
  rintro k a ⟨l,hl,ha⟩
  obtain ⟨i,hi⟩:=Iz.1 ha
  cases l with
  |nil=>cases ha
  |cons y l=>
   have h1:=Wm (k:=0) hl (by simp)
   rw [Hw] at h1
   obtain ⟨p,hpL⟩:=Iz.1 (hp.mem_iff.2 h1)
   have h2:=hmin p _ (Ca.1 hpL).1 hpL
   have h3:CS a y=false:=by
    cases i with
    |zero=>
     injection hi with hi;subst hi
     have:=Pj y.1
     simp [CS,FY,this]
    |succ i=>exact hs _ (CE hl) 0 (i+1) y a (by omega) rfl hi
   simp [DJ] at h2
   have r1:=FT y.1 x.1
   have s1:=ED y.1 x.1
   have h4:CS y x=false:=by simp [CS,FY,h2.1]
   refine ⟨CV h4 h3,fun hk=>?_⟩
   have h5:CS x y=true:=by simp [CS,FY];omega
   cases hq:CS x a with
   |true=>rfl
   |false=>rw [CV h3 hq] at h5;cases h5
 refine ⟨hj,?_⟩
 have hjl:=(Ca.1 hj).1
 conv=>lhs;rw [Vh hj]
 rw [XT hj,UN,UN,Sw,Sw,IQ]
 refine qV (fun a ha=>?_) (fun a ha=>?_)
 ·obtain ⟨l,hl,hal⟩:=List.mem_flatten.1 ha
  obtain ⟨k,hk⟩:=Iz.1 hl
  rw [Qk] at hk
  split at hk
  ·rename_i hkj
   exact (key k a ⟨l,hk,hal⟩).2 hkj
  ·cases hk
 ·rcases DT.1 ha with ha|ha
  ·exact (key j a ⟨_,hj,EO _ ha⟩).1
  ·obtain ⟨l,hl,hal⟩:=List.mem_flatten.1 ha
   obtain ⟨k,hk⟩:=Iz.1 hl
   rw [KN] at hk
   exact (key _ a ⟨l,hk,hal⟩).1
theorem aU {x:BS} {t:List BS} (h:Uh (x::t)):Uh t:=fun i j a b hij ha hb=>h (i+1) (j+1) a b (by omega) (by rw [FW];exact ha) (by rw [FW];exact hb)
theorem N7 {R:List (List BS)} {j:Nat} {x:BS} {t:List BS} (hs:∀ l ∈ R,Uh l) (h:R[j]?=some (x::t)):∀ l ∈ R.set j t,Uh l:=fun l hl=>by
 rcases YO hl with h1|rfl
 ·exact hs l h1
 ·exact aU (hs _ (CE h))
theorem kW {R:List (List BS)} {L:List Hd} {x:BS} {t:List BS} {j:Nat} (hp:L.Perm (CP 0 R)) (h0:L[0]?=some (x::t,j)) (hj:R[j]?=some (x::t)):
 (t≠[]→(L.set 0 (t,j)).Perm (CP 0 (R.set j t)))∧(t=[]→∀ M:List Hd,L.Perm (M++[(x::t,j)])→M.Perm (CP 0 (R.set j t))):=by
 have h1:L=(x::t,j)::L.tail:=by
  cases L with
  |nil=>simp at h0
  |cons a L=>injection h0 with h0;subst h0;rfl
 have h2:L.tail.Perm (CP 0 (R.set j [])):=by
  have:=(hp.trans (Wj hj (by simp)))
  rw [h1] at this
  exact this.cons_inv
 refine ⟨fun ht=>?_,fun ht M hM=>?_⟩
 ·rw [h1]
  exact (h2.cons _).trans (lH hj ht).symm
 ·subst ht
  rw [h1] at hM
  exact (((List.perm_append_comm (l₁:=M)).symm.trans hM.symm).cons_inv).trans h2
theorem flatten_nil {R:List (List BS)} (h:([]:List Hd).Perm (CP 0 R)):R.flatten=[]:=by
 rw [List.flatten_eq_nil_iff]
 intro l hl
 obtain ⟨k,hk⟩:=Iz.1 hl
 by_cases e:l=[]
 ·exact e
 ·have:=Wm (k:=0) hk e
  rw [←h.mem_iff] at this
  cases this
def Fp (acc:List BS) (f:BS):Option (List BS):=
 match acc.getLast? with
 |none=>some (acc++[f])
 |some p=>if Cu p.1 f.1=0 then (if (p.2.join f.2).2=true then some (acc.dropLast++[(p.1,(p.2.join f.2).1)]) else none) else some (acc++[f])
def Ew (acc:List BS):List BS→Option (List BS)
 |[]=>some acc
 |f::l=>match Fp acc f with|none=>none|some acc=>Ew acc l
def NI (l:List BS):Option (List BS):=Ew [] l
theorem uD (f:BS) (acc:List BS):(Ik f acc).Perm (f::acc):=by
 rw [Ni]
 refine List.perm_middle.trans (List.Perm.cons _ ?_)
 rw [Ki]
theorem Xf (l:List BS):∀ acc,(Bo acc l).Perm (acc++l):=by
 induction l with
 |nil=>intro acc;simp [Bo]
 |cons f l ih=>
  intro acc
  refine (ih _).trans (((uD f acc).append_right l).trans ?_)
  exact List.perm_middle.symm
theorem jE (l:List BS):(AZ l).Perm l:=by simpa [AZ] using Xf l []
def Uk (x y:NQ):NQ:=⟨x.s+y.s,min x.mn y.mn,max x.mx y.mx⟩
def Xa (a b:Ag):Ag:=⟨a.c+b.c,Uk a.p b.p,Uk a.q b.q,Uk a.r b.r⟩
theorem SK (x y:NQ):Uk x y=Uk y x:=by simp only [Uk,NQ.mk.injEq];omega
theorem Qw (x y z:NQ):Uk (Uk x y) z=Uk x (Uk y z):=by simp only [Uk,NQ.mk.injEq];omega
theorem gH (a b:Ag):Xa a b=Xa b a:=by
 unfold Xa
 rw [SK a.p,SK a.q,SK a.r,Int.add_comm]
theorem Pp (a b c:Ag):Xa (Xa a b) c=Xa a (Xa b c):=by
 simp only [Xa]
 rw [Qw,Qw,Qw,Int.add_assoc]
def inB (c s:Int):Prop:=-(c * 1000000000000)≤s∧s≤c * 1000000000000
structure qF (a:Ag):Prop where
 c:1≤a.c
 p:inB a.c a.p.s
 q:inB a.c a.q.s
 r:inB a.c a.r.s
theorem Zn {c d s t:Int} (h1:inB c s) (h2:inB d t):inB (c+d) (s+t):=by unfold inB at *;omega
theorem qF.join {a b:Ag} (ha:qF a) (hb:qF b):qF (Xa a b):=⟨by have:=ha.c;have:=hb.c;show 1≤a.c+b.c;omega,Zn ha.p hb.p,Zn ha.q hb.q,Zn ha.r hb.r⟩
theorem Jp {x y:Int} (h:-9223372036854775808≤x+y∧x+y≤9223372036854775807):EM x y=(x+y,true):=by unfold EM;rw [aI h]
def Eb (k:List Int):List BS→Option Ag
 |[]=>none
 |f::l=>if f.1=k then some (match Eb k l with|none=>f.2|some a=>Xa f.2 a) else Eb k l
theorem XJ {l m:List BS} (h:l.Perm m) (k:List Int):Eb k l=Eb k m:=by
 induction h with
 |nil=>rfl
 |cons x _ ih=>simp only [Eb,ih]
 |swap x y l=>
  simp only [Eb]
  by_cases h1:x.1=k<;>by_cases h2:y.1=k<;>simp only [h1,h2,ER,if_false]
  cases Eb k l with
  |none=>simp only;rw [gH]
  |some a=>simp only;rw [←Pp,←Pp,gH y.2]
 |trans _ _ ih1 ih2=>exact ih1.trans ih2
def sM:Option Ag→Option Ag→Option Ag
 |none,y=>y
 |x,none=>x
 |some a,some b=>some (Xa a b)
theorem KR (k:List Int) (l m:List BS):Eb k (l++m)=sM (Eb k l) (Eb k m):=by
 induction l with
 |nil=>rfl
 |cons f l ih=>
  rw [IQ,Eb,Eb,ih]
  split
  ·cases Eb k l<;>cases Eb k m<;>simp [sM,Pp]
  ·rfl
def cnt:List BS→Int
 |[]=>0
 |f::l=>f.2.c+cnt l
theorem VY {α:Type} {l:List α} {p:α} (h:l.getLast?=some p):l=l.dropLast++[p]:=by
 obtain ⟨ys,rfl⟩:=List.getLast?_eq_some_iff.1 h
 rw [List.dropLast_concat]
def WV (l:List BS):Prop:=l.Pairwise fun a b=>Cu a.1 b.1=-1
theorem rF {l:List BS} {f:BS} (h:WV l) (hf:∀ p,l.getLast?=some p→Cu p.1 f.1=-1):WV (l++[f]):=by
 unfold WV
 rw [UR]
 refine ⟨h,List.pairwise_singleton _ _,fun a ha b hb=>?_⟩
 rw [Dt] at hb
 subst hb
 cases hq:l.getLast? with
 |none=>
  rw [List.getLast?_eq_none_iff] at hq
  rw [hq] at ha
  cases ha
 |some p=>
  have hl:=hf p hq
  have e:=VY hq
  rw [e] at ha h
  rcases DT.1 ha with h1|h1
  ·have h2:=(UR.1 h).2.2 a h1 _ (Dt.2 rfl)
   exact QP h2 hl
  ·rw [Dt] at h1
   rw [h1]
   exact hl
theorem Ky {k:List Int} {l:List BS} (h:∀ f ∈ l,f.1≠k):Eb k l=none:=by
 induction l with
 |nil=>rfl
 |cons f l ih=>rw [Eb,Ah (h f (Dr ..)),ih fun x hx=>h x (EO _ hx)]
theorem Ma {k:List Int} {l:List BS} {f:BS} (h:f ∈ l) (hk:f.1=k):Eb k l≠none:=by
 induction l with
 |nil=>cases h
 |cons g l ih=>
  rw [Eb]
  split
  ·simp
  ·rename_i h1
   rcases En.1 h with rfl|h
   ·exact absurd hk h1
   ·exact ih h
theorem oI:∀ {l m:List BS},WV l→WV m→(∀ k,Eb k l=Eb k m)→l=m
 |[],[],_,_,_=>rfl
 |[],g::m,_,_,h=>by
  have:=h g.1
  exact absurd this.symm (Ma (Dr ..) rfl)
 |f::l,[],_,_,h=>by
  have:=h f.1
  exact absurd this (Ma (Dr ..) rfl)
 |f::l,g::m,hl,hm,h=>by
  have hl':=List.pairwise_cons.1 hl
  have hm':=List.pairwise_cons.1 hm
  have ne:∀ {a:BS} {n:List BS},(∀ b ∈ n,Cu a.1 b.1=-1)→∀ b ∈ n,b.1≠a.1:=fun hn b hb e=>by
   have:=hn b hb
   rw [e,Pj] at this
   omega
  have e1:f.1=g.1:=by
   by_cases e:f.1=g.1
   ·exact e
   ·have h1:=h f.1
    have h2:=h g.1
    have a1:∃ x ∈ m,x.1=f.1:=by
     refine Sv fun hx=>?_
     have:Eb f.1 (g::m)=none:=Ky fun x hx2=>by
      rcases En.1 hx2 with rfl|hx2
      ·exact fun e2=>e e2.symm
      ·exact fun e2=>hx ⟨x,hx2,e2⟩
     rw [this] at h1
     exact Ma (Dr ..) rfl h1
    have a2:∃ x ∈ l,x.1=g.1:=by
     refine Sv fun hx=>?_
     have:Eb g.1 (f::l)=none:=Ky fun x hx2=>by
      rcases En.1 hx2 with rfl|hx2
      ·exact e
      ·exact fun e2=>hx ⟨x,hx2,e2⟩
     rw [this] at h2
     exact Ma (Dr ..) rfl h2.symm
    obtain ⟨x,hx,ex⟩:=a1
    obtain ⟨y,hy,ey⟩:=a2
    have b1:=hm'.1 x hx
    have b2:=hl'.1 y hy
    rw [ex] at b1
    rw [ey] at b2
    have:=ED f.1 g.1
    omega
  have n1:Eb f.1 l=none:=Ky (ne hl'.1)
  have n2:Eb f.1 m=none:=by rw [e1];exact Ky (ne hm'.1)
  have e2:f=g:=by
   have:=h f.1
   rw [Eb,Eb,Ak rfl,Ak e1.symm,n1,n2] at this
   injection this with this
   exact Prod.ext e1 this
  subst e2
  rw [oI hl'.2 hm'.2 fun k=>?_]
  by_cases hk:f.1=k
  ·subst hk
   rw [n1,n2]
  ·have:=h k
   rw [Eb,Eb,Ah hk,Ah hk] at this
   exact this
end Go.Proofs.YtijplolmkcdflaaGreat
namespace Go.Proofs.YtijplolmkcdflaaGreat
open Go.RowKit
theorem kZ {a b:List UInt8}:Op.bytesLess a b=false→a≠b→Op.bytesLess b a=true:=by
 induction a generalizing b with
 |nil=>
  intro h hn
  cases b with
  |nil=>exact absurd rfl hn
  |cons x l=>simp [Op.bytesLess] at h
 |cons x l ih=>
  intro h hn
  cases b with
  |nil=>rfl
  |cons y m=>
   rw [Op.bytesLess,Bool.or_eq_false_iff] at h
   rw [Op.bytesLess,Bool.or_eq_true]
   by_cases h2:y<x
   ·exact .inl (by simpa using h2)
   ·right
    have h1:¬ x<y:=by simpa using h.1
    have hxy:x=y:=by
     apply UInt8.toNat_inj.1
     have a1:¬ x.toNat<y.toNat:=fun h=>h1 h
     have a2:¬ y.toNat<x.toNat:=fun h=>h2 h
     omega
    subst hxy
    have h3:=h.2
    simp only [beq_self_eq_true,iH] at h3 ⊢
    exact ih h3 (fun e=>hn (by rw [e]))
def within (lo hi u:List UInt8):Bool:=!Op.bytesLess u lo && !Op.bytesLess hi u
def Ox (p:PC) (u:List UInt8):Bool:=if p.f=0 then true else if p.f=1 then within p.lo p.hi u else (posOf u p.set).isSome
end Go.Proofs.YtijplolmkcdflaaGreat
namespace Go.Proofs.YtijplolmkcdflaaGreat
open Tryz
open Go.RowKit
def NH (p:PC):Bool:=decide (p.t=0∧p.lo=[]∧p.hi=[]∧p.set.length=0)
theorem u7 (p:Pk) (w:World) (hp:p.rd w):
 Calls prog 178 #[.agg p.cs] w fun e w'=>e=.returned (.bool (NH p.Ac))∧Aj w w':=by
 have hl:Hid (p.set.l.length=p.set.n):=hp.set.len
 have n63:=hp.set.n63
 have H:=Aa ((SL.start No w).alloc p.cs 80)
 (try simp only [LS] at H)
 obtain ⟨pf,pt,lo,hi,⟨A,n,c,set⟩,g,pb⟩:=p
 simp only [Pk.cs,Pk.Ac] at *
 clear hp
 have c1:=(H.blk 0 rfl).Am 1
 have c2:=(H.blk 0 rfl).Am 2
 have c3:=(H.blk 0 rfl).Am 3
 have c4:=(H.blk 0 rfl).Am 4
 by_cases ht:pt=0
 ·subst ht
  cases lo with
  |nil=>
   cases hi with
   |nil=>
    by_cases hn:n=0
    ·have HF:Hid (NH ⟨pf,0,[],[],set,g,pb⟩=true):=by show _=_;unfold NH;have:=hl.Ab;simp;exact List.length_eq_zero_iff.1 (by omega)
     subst hn
     go_enter func178,ntmps178
     go_wp2
     go_ret
     rw [HF.Ab]
     exact ⟨rfl,H.to⟩
    ·have HF:Hid (NH ⟨pf,0,[],[],set,g,pb⟩=false):=by
      show _=_;unfold NH
      have:=hl.Ab
      exact wV (fun h=>hn (by have:=h.2.2.2;simp only at this;omega))
     have z1:((n:Int)==0)=false:=by simpa using hn
     have z2:(n==0)=false:=by simpa using hn
     go_enter func178,ntmps178
     go_wp2
     go_ret
     rw [HF.Ab]
     exact ⟨rfl,H.to⟩
   |cons a r=>
    have HF:Hid (NH ⟨pf,0,[],a::r,set,g,pb⟩=false):=by show _=_;unfold NH;simp
    go_enter func178,ntmps178
    go_wp2
    go_ret
    rw [HF.Ab]
    exact ⟨rfl,H.to⟩
  |cons a r=>
   have HF:Hid (NH ⟨pf,0,a::r,hi,set,g,pb⟩=false):=by show _=_;unfold NH;simp
   go_enter func178,ntmps178
   go_wp2
   go_ret
   rw [HF.Ab]
   exact ⟨rfl,H.to⟩
 ·have z1:(pt==0)=false:=by simpa using ht
  have HF:Hid (NH ⟨pf,pt,lo,hi,set,g,pb⟩=false):=by show _=_;unfold NH;simp [ht]
  go_enter func178,ntmps178
  go_wp2
  go_ret
  rw [HF.Ab]
  exact ⟨rfl,H.to⟩
theorem iN (p:Pk) (w:World) (hp:p.rd w):
 Calls prog 179 #[.agg p.cs] w fun e w'=>e=.returned (.int .i64 (Fx p.Ac))∧Aj w w':=by
 have hl:Hid (p.set.l.length=p.set.n):=hp.set.len
 have n63:=hp.set.n63
 have l63:=hp.lo
 have h63:=hp.hi
 have H:=Aa ((SL.start No w).alloc p.cs 80)
 (try simp only [LS] at H)
 obtain ⟨pf,pt,lo,hi,⟨A,n,c,set⟩,g,pb⟩:=p
 simp only [Pk.cs,Pk.Ac] at *
 clear hp
 have c1:=(H.blk 0 rfl).Am 2
 have c2:=(H.blk 0 rfl).Am 3
 have c3:=(H.blk 0 rfl).Am 4
 by_cases hn:n=0
 ·have hs0:¬ 0<set.length:=by have:=hl.Ab;omega
  subst hn
  by_cases h1:16<lo.length
  ·have d1:decide ((16:Int)<(lo.length:Int))=true:=by simp<;>omega
   have HF:Hid (Fx ⟨pf,pt,lo,hi,set,g,pb⟩=5):=by show _=_;unfold Fx;rw [Ah hs0,Ak (.inl h1)]
   go_enter func179,ntmps179
   go_wp2
   go_ret
   rw [HF.Ab]
   exact ⟨rfl,H.to⟩
  ·have d1:decide ((16:Int)<(lo.length:Int))=false:=by simp<;>omega
   by_cases h2:16<hi.length
   ·have d2:decide ((16:Int)<(hi.length:Int))=true:=by simp<;>omega
    have HF:Hid (Fx ⟨pf,pt,lo,hi,set,g,pb⟩=5):=by show _=_;unfold Fx;rw [Ah hs0,Ak (.inr h2)]
    go_enter func179,ntmps179
    go_wp2
    go_ret
    rw [HF.Ab]
    exact ⟨rfl,H.to⟩
   ·have d2:decide ((16:Int)<(hi.length:Int))=false:=by simp<;>omega
    have HF:Hid (Fx ⟨pf,pt,lo,hi,set,g,pb⟩=0):=by show _=_;unfold Fx;rw [Ah hs0,Ah (by simp only;omega)]
    go_enter func179,ntmps179
    go_wp2
    go_ret
    rw [HF.Ab]
    exact ⟨rfl,H.to⟩
 ·have d1:decide ((0:Int)<(n:Int))=true:=by simp<;>omega
  have HF:Hid (Fx ⟨pf,pt,lo,hi,set,g,pb⟩=2):=by show _=_;unfold Fx;rw [Ak (by have:=hl.Ab;simp only;omega)]
  go_enter func179,ntmps179
  go_wp2
  go_ret
  rw [HF.Ab]
  exact ⟨rfl,H.to⟩
theorem vT (T:Bg) (p:Pk) (w:World) (hT:T.rd w) (hp:p.rd w) (hr:Kn T.ts.l) (hn:T.ts.n≤1000000) (hs:p.set.n≤100000):
 Calls prog 180 #[.agg T.cs,.agg p.cs] w fun e w'=>e=.returned (.int .i64 (Ez T.ts.l p.Ac))∧Aj w w':=by
 have hl:Hid (p.set.l.length=p.set.n):=hp.set.len
 have HP:=Aa hp.set
 have HT:=Aa hT.ts
 have HR:=Aa hr
 have H:=Aa (((SL.start No w).alloc T.cs 75).alloc p.cs 80)
 (try simp only [LS] at H)
 obtain ⟨pf,pt,lo,hi,⟨A,n,c,set⟩,g,pb⟩:=p
 obtain ⟨nm,⟨A2,n2,c2,ts⟩,⟨A3,n3,c3,ups⟩⟩:=T
 simp only [Pk.cs,Pk.Ac,Bg.cs] at *
 clear hp hT hr
 have c1:=(H.blk 1 rfl).Am 2
 have c2:=(H.blk 1 rfl).Am 3
 cases lo with
 |cons a r=>
  have HF:Hid (Ez ts ⟨pf,pt,a::r,hi,set,g,pb⟩=2):=by show _=_;unfold Ez;rw [Ah (by simp)]
  go_enter func180,ntmps180
  go_wp2
  go_ret
  rw [HF.Ab]
  exact ⟨rfl,H.to⟩
 |nil=>
  cases hi with
  |cons a r=>
   have HF:Hid (Ez ts ⟨pf,pt,[],a::r,set,g,pb⟩=2):=by show _=_;unfold Ez;rw [Ah (by simp)]
   go_enter func180,ntmps180
   go_wp2
   go_ret
   rw [HF.Ab]
   exact ⟨rfl,H.to⟩
  |nil=>
   have HE:Hid (Ez ts ⟨pf,pt,[],[],set,g,pb⟩=if BH set≠0 then BH set else Gy ts (set.drop 0)):=by show _=_;unfold Ez;rw [Ak ⟨rfl,rfl⟩];(try rfl)
   have c4:=(H.blk 1 rfl).Am 4
   go_enter func180,ntmps180
   go_wp2_with fail
   refine (Vf A n c set _ (HP.mono H.to).texts (HP.mono H.to).aL hs).mono ?_;rintro e w1 ⟨rfl,rfl⟩
   by_cases hE:BH set=0
   ·have ZU:Hid (Ez ts ⟨pf,pt,[],[],set,g,pb⟩=Gy ts (set.drop 0)):=by show _=_;rw [HE.Ab,Ah (by omega)]
    rw [hE]
    clear HE hE
    go_wp2_with fail
    clear c1 c2 c4
    generalize w.heap.size+1=y at *
    generalize w.heap.size=x at *
    generalize World.alloc _ _=w1 at *
    go_loopg [27] n (fun gg i wr=>∃ k:Nat,gg=n - k∧k≤n∧i=.int .i64 k∧Hid (SL No w wr [Av x 75 #[.string ⟨nm.toArray⟩,.slice A2 n2 c2,.slice A3 n3 c3],Av y 80 #[.int .i64 pf,.int .i64 pt,.string ⟨#[]⟩,.string ⟨#[]⟩,.slice A n c,.bool g,.int .i64 pb]])∧Hid (Ez ts ⟨pf,pt,[],[],set,g,pb⟩=Gy ts (set.drop k)))
    case atStart=>exact ⟨0,rfl,by omega,rfl,H,ZU⟩
    case round=>
     clear H ZU
     obtain ⟨k,BG,hk,rfl,H,HE⟩:=hrel
     have Cg:=Aa BG
     clear BG
     by_cases hlt:k<n
     ·obtain ⟨bb,oo,s,hA,hsk,hsl,q1⟩:=(HP.mono H.to).FE (k:=k) hlt
      simp only at hA
      subst hA
      have Jf:=Aa (TM (tr:=ts) hsk)
      have c1:=(H.blk 0 rfl).Am 1
      clear hsk
      go_wp2_with fail
      refine (SB ⟨A2,n2,c2,ts⟩ s _ (HT.mono H.to) HR hn).mono ?_;rintro e w2 ⟨p,fb,rfl,rfl,hF⟩
      clear c1 q1
      cases fb with
      |false=>
       have HN:Hid (Ez ts ⟨pf,pt,[],[],set,g,pb⟩=13):=by show _=_;rw [HE.Ab,Jf.Ab,hF.2.2 rfl]
       clear HE Jf hF
       go_wp2
       go_ret
       rw [HN.Ab]
       exact ⟨rfl,H.to⟩
      |true=>
       have HN:Hid (Ez ts ⟨pf,pt,[],[],set,g,pb⟩=Gy ts (set.drop (k+1))):=by show _=_;rw [HE.Ab,Jf.Ab,hF.2.1 rfl]
       clear HE Jf hF
       go_wp2
       go_roundg (n - (k+1))
       case rel=>exact ⟨k+1,rfl,by omega,by go_num,H,HN⟩
       case measure=>rw [Cg.Ab];omega
     ·have HN:Hid (Ez ts ⟨pf,pt,[],[],set,g,pb⟩=0):=by show _=_;rw [HE.Ab,EY (by have:=hl.Ab;omega)];(try rfl)
      clear HE
      go_wp2
      go_ret
      rw [HN.Ab]
      exact ⟨rfl,H.to⟩
   ·have ZU:Hid (Ez ts ⟨pf,pt,[],[],set,g,pb⟩=BH set):=by show _=_;rw [HE.Ab,Ak hE]
    have z1:(BH set !=0)=true:=by simpa using hE
    have z2:(BH set==0)=false:=by simpa using hE
    clear HE hE
    go_wp2
    go_ret
    rw [ZU.Ab]
    exact ⟨rfl,H.to⟩
theorem mF (d:Dm) (p:Pk) (w:World) (hd:d.rd w) (hp:p.rd w) (hr:∀ t ∈ d.tr.l,Kn t.ts.l∧t.ts.n≤1000000) (hs:p.set.n≤100000):
 Calls prog 146 #[.agg d.cs,.agg p.cs] w fun e w'=>e=.returned (.int .i64 (AO d.Ac p.Ac))∧Aj w w':=by
 have HFr:=Aa (fun w' (hb:Aj w w')=>u7 p w' (hp.mono hb))
 have HWi:=Aa (fun w' (hb:Aj w w')=>iN p w' (hp.mono hb))
 have HAm:=Aa (fun T w' (hT:T.rd w') (hb:Aj w w') (h1:Kn T.ts.l) (h2:T.ts.n≤1000000)=>vT T p w' hT (hp.mono hb) h1 h2 hs)
 have X8:=Aa (fun k w' (hb:Aj w w')=>OX d k w' (hd.mono hb))
 have HR:=Aa hr
 have HD:=Aa hd.tr
 have hl:Hid (d.tr.l.length=d.tr.n):=hd.tr.len
 have n63:=hd.tr.n63
 have hpt:=hp.t
 have H:=Aa (((SL.start No w).alloc d.cs 73).alloc p.cs 80)
 (try simp only [LS] at H)
 obtain ⟨pf,pt,lo,hi,⟨A,n,c,set⟩,g,pb⟩:=p
 obtain ⟨nm,⟨A2,n2,c2,AB⟩⟩:=d
 simp only [Pk.cs,Pk.Ac,Dm.cs,Dm.Ac] at *
 clear hp hd hr
 have c0:=(H.blk 1 rfl).Am 0
 have c1:=(H.blk 1 rfl).Am 1
 by_cases h0:pf=0
 ·subst h0
  cases hB:NH ⟨0,pt,lo,hi,set,g,pb⟩ with
  |true=>
   have HE:Hid (AO ⟨nm,AB.map Bg.Ac⟩ ⟨0,pt,lo,hi,set,g,pb⟩=0):=by
    show _=_;unfold AO;rw [Ak rfl,Ak (LK hB)]
   rw [hB] at HFr
   go_enter func146,ntmps146
   go_wp2_with ((with_reducible refine OP 9 ?_);(refine Cx Ea (H.blk 1 rfl) ?_))
   refine (HFr _ H.to).mono ?_;rintro e w1 ⟨rfl,hb1⟩
   replace H:=Aa (H.Au hb1)
   go_wp2
   go_ret
   rw [HE.Ab]
   exact ⟨rfl,H.to⟩
  |false=>
   have HE:Hid (AO ⟨nm,AB.map Bg.Ac⟩ ⟨0,pt,lo,hi,set,g,pb⟩=2):=by
    show _=_;unfold AO;rw [Ak rfl,Ah (UH hB)]
   rw [hB] at HFr
   go_enter func146,ntmps146
   go_wp2_with ((with_reducible refine OP 9 ?_);(refine Cx Ea (H.blk 1 rfl) ?_))
   refine (HFr _ H.to).mono ?_;rintro e w1 ⟨rfl,hb1⟩
   replace H:=Aa (H.Au hb1)
   go_wp2
   go_ret
   rw [HE.Ab]
   exact ⟨rfl,H.to⟩
 ·have z0:(pf==0)=false:=by simpa using h0
  by_cases h12:pf=1∨pf=2
  ·have Kw:Hid (AO ⟨nm,AB.map Bg.Ac⟩ ⟨pf,pt,lo,hi,set,g,pb⟩=if 0≤pt then (match (AB.map Bg.Ac)[pt.toNat]? with|none=>2|some tr=>if pf=1 then Fx ⟨pf,pt,lo,hi,set,g,pb⟩ else Ez tr.ts ⟨pf,pt,lo,hi,set,g,pb⟩) else 2):=by
    show _=_;unfold AO;rw [Ah h0,Ak h12];(try rfl)
   by_cases hh:0≤pt∧pt<n2
   ·have hd1:decide (0≤pt∧pt<(n2:Int))=true:=by simpa using hh
    obtain ⟨t,rfl⟩:∃ k:Nat,pt=k:=⟨pt.toNat,by omega⟩
    have htn:t<n2:=by omega
    obtain ⟨bb,oo,T,hA,hbb,wO,hTr,hrg⟩:=(HD.mono H.to).JN (k:=t) htn
    simp only at hA
    subst hA
    have Yp:(AB.map Bg.Ac)[t]?=some T.Ac:=by rw [DD,wO];(try rfl)
    have ZU:Hid (AO ⟨nm,AB.map Bg.Ac⟩ ⟨pf,t,lo,hi,set,g,pb⟩=if pf=1 then Fx ⟨pf,t,lo,hi,set,g,pb⟩ else Ez T.ts.l ⟨pf,t,lo,hi,set,g,pb⟩):=by
     show _=_;rw [Kw.Ab,Ak (by omega),Da,Yp]
    obtain ⟨hri,hrn⟩:=HR T (CE wO)
    have HRi:=Aa hri
    have nL:=Aa hrg
    have gQ:=Aa hTr
    have i0:(0:Int)≤t:=by omega
    have i1:(t:Int)<n2:=by omega
    clear Kw wO hTr hrg Yp hri hh
    rcases h12 with h1|h2
    ·subst h1
     have HE2:Hid (AO ⟨nm,AB.map Bg.Ac⟩ ⟨1,t,lo,hi,set,g,pb⟩=Fx ⟨1,t,lo,hi,set,g,pb⟩):=by show _=_;rw [ZU.Ab,Ak rfl]
     clear ZU hbb
     go_enter func146,ntmps146
     go_wp2_with ((with_reducible refine OP 15 ?_);(refine Cx Dl (H.blk 0 rfl) ?_))
     refine (X8 _ _ H.to).mono ?_;rintro e w1 ⟨rfl,hb1⟩
     replace H:=Aa (H.Au hb1)
     rw [hd1]
     clear c0 c1 hb1
     have c0:=(H.blk 1 rfl).Am 0
     go_wp2_with ((with_reducible refine OP 23 ?_);(refine Cx Ea (H.blk 1 rfl) ?_))
     refine (HWi _ H.to).mono ?_;rintro e w2 ⟨rfl,hb2⟩
     replace H:=Aa (H.Au hb2)
     go_wp2
     go_ret
     rw [HE2.Ab]
     exact ⟨rfl,H.to⟩
    ·subst h2
     have HE2:Hid (AO ⟨nm,AB.map Bg.Ac⟩ ⟨2,t,lo,hi,set,g,pb⟩=Ez T.ts.l ⟨2,t,lo,hi,set,g,pb⟩):=by show _=_;rw [ZU.Ab,Ah (by omega)]
     clear ZU
     go_enter func146,ntmps146
     go_wp2_with ((with_reducible refine OP 15 ?_);(refine Cx Dl (H.blk 0 rfl) ?_))
     refine (X8 _ _ H.to).mono ?_;rintro e w1 ⟨rfl,hb1⟩
     replace H:=Aa (H.Au hb1)
     rw [hd1]
     replace nL:=Aa (Ee hbb nL hb1)
     replace gQ:=Aa (gQ.mono hb1)
     replace hbb:=Kk hbb hb1.size
     clear c0 c1 hb1
     have c0:=(H.blk 1 rfl).Am 0
     have c1:=(H.blk 1 rfl).Am 1
     have c2:=(H.blk 0 rfl).Am 1
     go_upto_region 13 with fail
     have f_c0:=fun u:Over w1=>Over.cell c0 u
     have f_c1:=fun u:Over w1=>Over.cell c1 u
     have F3:=fun u:Over w1=>Over.cell c2 u
     refine Al ?_
     repeat (first
      |((with_reducible show wpQuiet _ _ _ _ (⟨some 30,_,_,_,_,_⟩::_) _);refine Af (by first|rfl|go_simp) Es (.tmp 29) rfl bb (oo+t * 3) rfl T.cs rfl hbb nL.Ab ?_;simp only [Act.put,LP])
      |((with_reducible show wpQuiet _ _ _ _ (⟨some 31,_,_,_,_,_⟩::_) _);refine Af (by first|rfl|go_simp) Ea (.tmp 3) rfl _ (0) rfl _ rfl (H.blk 1 rfl).lt (H.blk 1 rfl).range ?_;simp only [Act.put,LP])
      |go_big_quiet_step (((go_at_call 180;rename_i u;exact Be (HAm T _ (gQ.mono u.Au) (H.to.trans u.Au) HRi hrn)))))
     refine CX ?_
     rintro _ ⟨⟨w5,FP⟩,rfl⟩
     replace H:=Aa (H.Au FP)
     clear f_c0 f_c1 F3 c0 c1 c2
     go_wp2
     go_ret
     rw [HE2.Ab]
     exact ⟨rfl,H.to⟩
   ·have hd1:decide (0≤pt∧pt<(n2:Int))=false:=by simp<;>omega
    have HE:Hid (AO ⟨nm,AB.map Bg.Ac⟩ ⟨pf,pt,lo,hi,set,g,pb⟩=2):=by
     show _=_;rw [Kw.Ab]
     by_cases hp0:0≤pt
     ·rw [Ak hp0,Gt (by have:=hl.Ab;simp only [Cq] at this ⊢;omega)]
     ·rw [Ah hp0]
    clear Kw
    rcases h12 with h1|h2
    ·subst h1
     go_enter func146,ntmps146
     go_wp2_with ((with_reducible refine OP 15 ?_);(refine Cx Dl (H.blk 0 rfl) ?_))
     refine (X8 _ _ H.to).mono ?_;rintro e w1 ⟨rfl,hb1⟩
     replace H:=Aa (H.Au hb1)
     rw [hd1]
     go_wp2
     go_ret
     rw [HE.Ab]
     exact ⟨rfl,H.to⟩
    ·subst h2
     go_enter func146,ntmps146
     go_wp2_with ((with_reducible refine OP 15 ?_);(refine Cx Dl (H.blk 0 rfl) ?_))
     refine (X8 _ _ H.to).mono ?_;rintro e w1 ⟨rfl,hb1⟩
     replace H:=Aa (H.Au hb1)
     rw [hd1]
     go_wp2
     go_ret
     rw [HE.Ab]
     exact ⟨rfl,H.to⟩
  ·have z1:(pf==1)=false:=by simp<;>omega
   have z2:(pf==2)=false:=by simp<;>omega
   have HE:Hid (AO ⟨nm,AB.map Bg.Ac⟩ ⟨pf,pt,lo,hi,set,g,pb⟩=2):=by show _=_;unfold AO;rw [Ah h0,Ah h12]
   go_enter func146,ntmps146
   go_wp2
   go_ret
   rw [HE.Ab]
   exact ⟨rfl,H.to⟩
theorem Sa (s:Ev) (q:Qr) (w:World) (hs:s.rd w) (hq:q.rd w) (hn:s.dm.n≤1000000) (hm:s.ms.n≤1000000) (hd:∀ d ∈ s.dm.l,d.tr.n≤1000000∧∀ t ∈ d.tr.l,t.up.n≤100000) (hp:∀ p ∈ q.ps.l,p.set.n≤100000):
 Calls prog 103 #[.agg s.cs,.agg q.cs] w fun e w'=>e=.returned (.int .i64 (Bl s.Ac q.Ac))∧Aj w w':=by
 have HC:=Aa (fun w' (hb:Aj w w')=>FM s w' (hs.mono hb) hn hm hd)
 have hl1:Hid (s.dm.l.length=s.dm.n):=hs.dm.len
 have hl2:Hid (q.ps.l.length=q.ps.n):=Row.rd.len hq
 have HD:=Aa hs.dm
 have HQ:=Aa (show q.ps.rd w from hq)
 have n63:=hs.dm.n63
 have m63:q.ps.n≤9223372036854775807:=hq.n63
 have Jh:=Aa (fun hE=>Vp hs hE)
 have qC:=Aa hp
 have H:=Aa (((SL.start No w).alloc s.cs 25).alloc q.cs 29)
 (try simp only [LS] at H)
 obtain ⟨⟨A,n,c,ds⟩,⟨A2,n2,c2,ms⟩⟩:=s
 obtain ⟨⟨B,m,d,ps⟩⟩:=q
 simp only [Ev.cs,Ev.Ac,Qr.cs,Qr.Ac] at *
 clear hs hq hp hd
 go_enter func103,ntmps103
 go_wp2_with ((with_reducible refine OP 9 ?_);(refine Cx BL (H.blk 0 rfl) ?_))
 refine (HC _ H.to).mono ?_;rintro e w1 ⟨rfl,hb1⟩
 replace H:=Aa (H.Au hb1)
 clear hb1 HC
 by_cases hE:Ap ⟨ds.map Dm.Ac,ms⟩=0
 ·have HRE:=Aa (Jh hE)
  have Kw:Hid (Bl ⟨ds.map Dm.Ac,ms⟩ (ps.map Pk.Ac)=if (ps.map Pk.Ac).length≠(ds.map Dm.Ac).length then 2 else Cn (ds.map Dm.Ac) (ps.map Pk.Ac)):=by show _=_;unfold Bl;rw [Ah (by omega)]
  rw [hE]
  clear Jh
  have Ga:=(H.blk 0 rfl).Am 0
  have RU:=(H.blk 1 rfl).Am 0
  by_cases hl:m=n
  ·subst hl
   have HB:Hid (Bl ⟨ds.map Dm.Ac,ms⟩ (ps.map Pk.Ac)=Cn ((ds.map Dm.Ac).drop 0) ((ps.map Pk.Ac).drop 0)):=by
    show _=_;rw [Kw.Ab,Ah (by have:=hl1.Ab;have:=hl2.Ab;simp only [Cq] at this ⊢;omega)];(try rfl)
   clear Kw hE
   go_wp2_with fail
   generalize w.heap.size+1=y at *
   generalize w.heap.size=x at *
   clear Ga RU
   go_loopg [24] m (fun gg i wr=>∃ k:Nat,gg=m - k∧k≤m∧i=.int .i64 k∧Hid (SL No w wr [Av x 25 #[.slice A m c,.slice A2 n2 c2],Av y 29 #[.slice B m d]])∧Hid (Bl ⟨ds.map Dm.Ac,ms⟩ (ps.map Pk.Ac)=Cn ((ds.map Dm.Ac).drop k) ((ps.map Pk.Ac).drop k)))
   case atStart=>exact ⟨0,rfl,by omega,rfl,H,HB⟩
   case round=>
    clear H HB
    obtain ⟨k,BG,hk,rfl,H,HB⟩:=hrel
    have Cg:=Aa BG
    clear BG
    by_cases hlt:k<m
    ·obtain ⟨b1,o1,D,hA,hb1,UC,IJ,hrg1⟩:=(HD.mono H.to).Ta (k:=k) hlt
     simp only at hA
     subst hA
     obtain ⟨b2,o2,p,hB,hb2,hpk,hpr,hrg2⟩:=(HQ.mono H.to).rW (k:=k) hlt
     simp only at hB
     subst hB
     have Gg:(ds.map Dm.Ac)[k]?=some D.Ac:=by rw [DD,UC];(try rfl)
     have hpc:(ps.map Pk.Ac)[k]?=some p.Ac:=by rw [DD,hpk];(try rfl)
     have Jf:=Aa (PX Gg hpc)
     have HR1:=Aa hrg1
     have HR2:=Aa hrg2
     have aF:=Aa IJ
     have X4:=Aa hpr
     have HRi:=Aa (HRE D (CE UC))
     have hps:=qC p (CE hpk)
     have i0:(0:Int)≤k:=by omega
     have i1:(k:Int)<m:=by omega
     have D63:=IJ.tr.n63
     have hDl:Hid (D.tr.l.length=D.tr.n):=IJ.tr.len
     clear UC hpk hrg1 hrg2 Gg hpc IJ hpr hb2
     go_upto_region 9 with (first|((with_reducible refine OP 28 ?_);(refine Ae rfl Ea (.tmp 27) rfl b2 (o2+k * 7) rfl p.cs rfl HR2.Ab ?_))|((with_reducible refine OS 7 ?_);(refine Fu Ea (p.cs) (Nb p) ?_;replace H:=Aa (H.alloc (p.cs) 80);(try simp only [LS] at H))))
     replace aF:=Aa (aF.mono ((Aj.refl wr).alloc (.cells p.cs 80)))
     replace X4:=Aa (X4.mono ((Aj.refl wr).alloc (.cells p.cs 80)))
     replace HR1:=Aa (Ee hb1 HR1 ((Aj.refl wr).alloc (.cells p.cs 80)))
     replace hb1:b1<(wr.alloc (.cells p.cs 80)).heap.size:=Kk hb1 ((Aj.refl wr).alloc (.cells p.cs 80)).size
     generalize wr.heap.size=z at *
     generalize wr.alloc (.cells p.cs 80)=w3 at *
     have Ga:=(H.blk 0 rfl).Am 0
     have GA:=fun u:Over w3=>Over.cell Ga u
     refine Al ?_
     (try simp only [Act.put,LP])
     repeat (first
      |((with_reducible show wpQuiet _ _ _ _ (⟨some 33,_,_,_,_,_⟩::_) _);refine Af (by first|rfl|go_simp) Dl (.tmp 32) rfl b1 (o1+k * 2) rfl D.cs rfl hb1 HR1.Ab ?_;simp only [Act.put,LP])
      |((with_reducible show wpQuiet _ _ _ _ (⟨some 34,_,_,_,_,_⟩::_) _);refine Af (by first|rfl|go_simp) Ea (.tmp 7) rfl _ (0) rfl _ rfl (H.blk 2 rfl).lt (H.blk 2 rfl).range ?_;simp only [Act.put,LP])
      |go_big_quiet_step (((go_at_call 146;rename_i u;exact Be (mF D p _ (aF.mono u.Au) (X4.mono u.Au) HRi hps)))))
     refine CX ?_
     rintro w5 ⟨⟨_,FP⟩,rfl⟩
     (try dsimp only)
     replace H:=Aa (H.Au FP)
     clear GA Ga
     obtain ⟨w2,hw2⟩:∃ w2,w2=w5:=⟨_,rfl⟩
     subst hw2
     replace aF:=Aa (aF.mono FP)
     replace HR1:=Aa (Ee hb1 HR1 FP)
     replace hb1:=Kk hb1 FP.size
     clear FP X4 HR2
     by_cases hf:AO D.Ac p.Ac=0
     ·rw [hf]
      obtain ⟨pf,pt,lo,hi,⟨A3,n3,c3,set⟩,g,pb⟩:=p
      simp only [Pk.cs,Pk.Ac] at *
      have Ga:=(H.blk 0 rfl).Am 0
      have TZ:=(H.blk 2 rfl).Am 5
      have NJ:=(H.blk 2 rfl).Am 6
      cases g with
      |true=>
       cases hh:decide (0≤pb∧pb<(D.tr.n:Int)) with
       |true=>
        have HN:Hid (Bl ⟨ds.map Dm.Ac,ms⟩ (ps.map Pk.Ac)=Cn ((ds.map Dm.Ac).drop (k+1)) ((ps.map Pk.Ac).drop (k+1))):=by
         have hpe:CB D.Ac ⟨pf,pt,lo,hi,set,true,pb⟩=0:=by unfold CB Wn;have h9:=hDl.Ab;have:=LK hh;rw [Ah (by rw [hf];omega),Ah (by simp only [Cq];simp;omega)]
         show _=_
         rw [HB.Ab,Jf.Ab,hpe,Ah (by omega)]
        clear HB Jf hf
        go_upto_region 12 with fail
        have GA:=fun u:Over w2=>Over.cell Ga u
        have Jd:=fun u:Over w2=>Over.cell TZ u
        have JV:=fun u:Over w2=>Over.cell NJ u
        refine Al ?_
        (try simp only [Act.put,LP])
        repeat (first
         |((with_reducible show wpQuiet _ _ _ _ (⟨some 46,_,_,_,_,_⟩::_) _);refine Af (by first|rfl|go_simp) Dl (.tmp 45) rfl b1 (o1+k * 2) rfl D.cs rfl hb1 HR1.Ab ?_;simp only [Act.put,LP])
         |go_big_quiet_step (((go_at_call 147;rename_i u;exact Be (OX D pb _ (aF.mono u.Au))))))
        refine CX ?_
        rintro w5 ⟨⟨_,FP⟩,rfl⟩
        (try dsimp only)
        replace H:=Aa (H.Au FP)
        clear GA Jd JV Ga TZ NJ
        replace H:=Aa (H.Gh [0,1] (by decide) (by simp));(try simp only [LS] at H)
        go_wp2
        go_roundg (m - (k+1))
        case rel=>exact ⟨k+1,rfl,by omega,by go_num,H,HN⟩
        case measure=>rw [Cg.Ab];omega
       |false=>
        have HN:Hid (Bl ⟨ds.map Dm.Ac,ms⟩ (ps.map Pk.Ac)=2):=by
         have hpe:CB D.Ac ⟨pf,pt,lo,hi,set,true,pb⟩=2:=by unfold CB Wn;have h9:=hDl.Ab;have:=UH hh;rw [Ah (by rw [hf];omega),Ak (Or.inl ⟨rfl,by simp only [Cq];simp;omega⟩)]
         show _=_
         rw [HB.Ab,Jf.Ab,hpe,Ak (by omega)]
        clear HB Jf hf
        go_upto_region 12 with fail
        have GA:=fun u:Over w2=>Over.cell Ga u
        have Jd:=fun u:Over w2=>Over.cell TZ u
        have JV:=fun u:Over w2=>Over.cell NJ u
        refine Al ?_
        (try simp only [Act.put,LP])
        repeat (first
         |((with_reducible show wpQuiet _ _ _ _ (⟨some 46,_,_,_,_,_⟩::_) _);refine Af (by first|rfl|go_simp) Dl (.tmp 45) rfl b1 (o1+k * 2) rfl D.cs rfl hb1 HR1.Ab ?_;simp only [Act.put,LP])
         |go_big_quiet_step (((go_at_call 147;rename_i u;exact Be (OX D pb _ (aF.mono u.Au))))))
        refine CX ?_
        rintro w5 ⟨⟨_,FP⟩,rfl⟩
        (try dsimp only)
        replace H:=Aa (H.Au FP)
        clear GA Jd JV Ga TZ NJ
        go_wp2
        go_ret
        rw [HN.Ab]
        exact ⟨rfl,H.to⟩
      |false=>
       by_cases hb:pb=0
       ·have HN:Hid (Bl ⟨ds.map Dm.Ac,ms⟩ (ps.map Pk.Ac)=Cn ((ds.map Dm.Ac).drop (k+1)) ((ps.map Pk.Ac).drop (k+1))):=by
         have hpe:CB D.Ac ⟨pf,pt,lo,hi,set,false,pb⟩=0:=by unfold CB Wn;have h9:=hDl.Ab;rw [Ah (by rw [hf];omega),Ah (by simp [hb])]
         show _=_
         rw [HB.Ab,Jf.Ab,hpe,Ah (by omega)]
        subst hb
        clear HB Jf hf
        go_upto_region 12 with fail
        have GA:=fun u:Over w2=>Over.cell Ga u
        have Jd:=fun u:Over w2=>Over.cell TZ u
        have JV:=fun u:Over w2=>Over.cell NJ u
        refine Al ?_
        (try simp only [Act.put,LP])
        repeat (first
         |((with_reducible show wpQuiet _ _ _ _ (⟨some 46,_,_,_,_,_⟩::_) _);refine Af (by first|rfl|go_simp) Dl (.tmp 45) rfl b1 (o1+k * 2) rfl D.cs rfl hb1 HR1.Ab ?_;simp only [Act.put,LP])
         |go_big_quiet_step (((go_at_call 147;rename_i u;exact Be (OX D pb _ (aF.mono u.Au))))))
        refine CX ?_
        rintro w5 ⟨⟨_,FP⟩,rfl⟩
        (try dsimp only)
        replace H:=Aa (H.Au FP)
        clear GA Jd JV Ga TZ NJ
        replace H:=Aa (H.Gh [0,1] (by decide) (by simp));(try simp only [LS] at H)
        go_wp2
        go_roundg (m - (k+1))
        case rel=>exact ⟨k+1,rfl,by omega,by go_num,H,HN⟩
        case measure=>rw [Cg.Ab];omega
       ·have HN:Hid (Bl ⟨ds.map Dm.Ac,ms⟩ (ps.map Pk.Ac)=2):=by
         have hpe:CB D.Ac ⟨pf,pt,lo,hi,set,false,pb⟩=2:=by unfold CB Wn;have h9:=hDl.Ab;rw [Ah (by rw [hf];omega),Ak (Or.inr ⟨rfl,hb⟩)]
         show _=_
         rw [HB.Ab,Jf.Ab,hpe,Ak (by omega)]
        have z1:(pb !=0)=true:=by simpa using hb
        have z2:(pb==0)=false:=by simpa using hb
        clear HB Jf hf
        go_upto_region 12 with fail
        have GA:=fun u:Over w2=>Over.cell Ga u
        have Jd:=fun u:Over w2=>Over.cell TZ u
        have JV:=fun u:Over w2=>Over.cell NJ u
        refine Al ?_
        (try simp only [Act.put,LP])
        repeat (first
         |((with_reducible show wpQuiet _ _ _ _ (⟨some 46,_,_,_,_,_⟩::_) _);refine Af (by first|rfl|go_simp) Dl (.tmp 45) rfl b1 (o1+k * 2) rfl D.cs rfl hb1 HR1.Ab ?_;simp only [Act.put,LP])
         |go_big_quiet_step (((go_at_call 147;rename_i u;exact Be (OX D pb _ (aF.mono u.Au))))))
        refine CX ?_
        rintro w5 ⟨⟨_,FP⟩,rfl⟩
        (try dsimp only)
        replace H:=Aa (H.Au FP)
        clear GA Jd JV Ga TZ NJ
        go_wp2
        go_ret
        rw [HN.Ab]
        exact ⟨rfl,H.to⟩
     ·have HN:Hid (Bl ⟨ds.map Dm.Ac,ms⟩ (ps.map Pk.Ac)=AO D.Ac p.Ac):=by
       have hpe:CB D.Ac p.Ac=AO D.Ac p.Ac:=by unfold CB;rw [Ak hf]
       show _=_
       rw [HB.Ab,Jf.Ab,hpe,Ak hf]
      have z1:(AO D.Ac p.Ac !=0)=true:=by simpa using hf
      have z2:(AO D.Ac p.Ac==0)=false:=by simpa using hf
      clear HB Jf hf
      go_wp2
      go_ret
      rw [HN.Ab]
      exact ⟨rfl,H.to⟩
    ·have HN:Hid (Bl ⟨ds.map Dm.Ac,ms⟩ (ps.map Pk.Ac)=0):=by
      show _=_;rw [HB.Ab,EY (by have:=hl1.Ab;simp only [Cq] at this ⊢;omega)];(try rfl)
     clear HB
     go_wp2
     go_ret
     rw [HN.Ab]
     exact ⟨rfl,H.to⟩
  ·have HN:Hid (Bl ⟨ds.map Dm.Ac,ms⟩ (ps.map Pk.Ac)=2):=by show _=_;rw [Kw.Ab,Ak (by have:=hl1.Ab;have:=hl2.Ab;simp only [Cq] at this ⊢;omega)]
   have g1:((m:Int) !=(n:Int))=true:=by simp<;>omega
   have g2:(m !=n)=true:=by simp<;>omega
   clear hE Kw
   go_wp2
   go_ret
   rw [HN.Ab]
   exact ⟨rfl,H.to⟩
 ·have HN:Hid (Bl ⟨ds.map Dm.Ac,ms⟩ (ps.map Pk.Ac)=Ap ⟨ds.map Dm.Ac,ms⟩):=by show _=_;unfold Bl;rw [Ak hE]
  have z1:(Ap ⟨ds.map Dm.Ac,ms⟩ !=0)=true:=by simpa using hE
  have z2:(Ap ⟨ds.map Dm.Ac,ms⟩==0)=false:=by simpa using hE
  clear hE
  go_wp2
  go_ret
  rw [HN.Ab]
  exact ⟨rfl,H.to⟩
end Go.Proofs.YtijplolmkcdflaaGreat
