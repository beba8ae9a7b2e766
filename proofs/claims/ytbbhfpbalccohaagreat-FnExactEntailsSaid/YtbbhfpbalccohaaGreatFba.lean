/- Set functors: what makes them. -/
import Derived.Test.YtbbhfpbalccohaaGreatLa
namespace Go.Ve.D
open Go Go.Ve
theorem chk2{R S:Type}{F:Int->Option (LO Int R)}{n:Nat}{p:Nat->Bool}{Q:R->Prop}{o:LO Int R}{k:LO Int R->Option S}{Post:Bool->Option S->Prop}
  (h1: ∀i,i<n->(p i=true->F (i:Int)=some (.next ((i+1:Nat):Int)))/\(p i=false->∃r,F (i:Int)=some (.ret r)/\Q r)) (h2:F (n:Int)=some o) (ho: ∀y,o≠.next y)
  (hA:Post true (k o)) (hB: ∀r,Q r->Post false (k (.ret r))):Post ((List.range n).all p) (Option.bind (Ag F (0:Int)) k):=by
 refine Bh (st:=fun i:Nat=>(i:Int)) (p:=p) (Q:=Q) (o:=o) (Post:=fun x=>Post ((List.range n).all p) x) h1 h2 ho (fun hall=>?_) (fun hall r hr=>?_)
 ·rw [hall];exact hA
 ·rw [hall];exact hB r hr
def Q7{R:Type}(bad:R->Prop)(s:Int)(p:Bool)(o:Option (LO Int R)):Prop:=(p=true->o=some (.next s))/\(p=false->∃r,o=some (.ret r)/\bad r)
def lift{R:Type}(bad:R->Prop)(r:LO Int R):Prop:=∃r',r= .ret r'/\bad r'
theorem Aa3{R:Type}{bad:R->Prop}{F:Int->Option (LO Int (LO Int R))}{n:Nat}{p:Nat->Bool}{id:Nat}{s:Int}{g:Nat->Int->Option (LO Int R)}
  (h1: ∀i,i<n->Q7 (lift bad) ((i+1:Nat):Int) (p i) (F (i:Int))) (h2:F (n:Int)=some (.brk id (n:Int))) (hk:g id (n:Int)=some (.next s)):
  Q7 bad s ((List.range n).all p) (Option.bind (Ag F (0:Int)) (LO.fin g)):=by
 refine Bh (st:=fun i:Nat=>(i:Int)) (p:=p) (Q:=lift bad) (o:=.brk id (n:Int)) (Post:=fun x=>Q7 bad s ((List.range n).all p) x) h1 h2 (fun y=>by simp) (fun hall=>?_) (fun hall r hr=>?_)
 ·rw [hall]
  exact⟨fun _=>hk,(fun h=>by cases h)⟩
 ·rw [hall]
  obtain⟨r',rfl,hb⟩:=hr;exact⟨(fun h=>by cases h),fun _=>⟨r',rfl,hb⟩⟩
theorem Ut{R:Type}{bad:R->Prop}{F:Int->Option (LO Int R)}{n:Nat}{p:Nat->Bool}{id:Nat}{g:Nat->Int->Option R}{Post:Bool->Option R->Prop}
  (h1: ∀i,i<n->Q7 bad ((i+1:Nat):Int) (p i) (F (i:Int))) (h2:F (n:Int)=some (.brk id (n:Int))) (hA:Post true (g id (n:Int))) (hB: ∀r,bad r->Post false (some r)):
  Post ((List.range n).all p) (Option.bind (Ag F (0:Int)) (LO.fin g)):=
 chk2 (Q:=bad) h1 h2 (fun y=>by simp) hA fun r hr=>hB r hr
theorem Cz{R:Type}{bad:R->Prop}{s:Int}{o:Option (LO Int R)}(h:o=some (.next s)):Q7 bad s true o:=⟨fun _=>h,(fun h=>by cases h)⟩
theorem Ds{R:Type}{bad:R->Prop}{s:Int}{o:Option (LO Int R)}(h: ∃r,o=some (.ret r)/\bad r):Q7 bad s false o:=⟨(fun h=>by cases h),fun _=>h⟩
def shS(f:SF):Cat:=(f.1,(f.2.1,(f.2.2.1,(f.2.2.2.1,f.2.2.2.2.1))))
def szF(f:SF):List Int:=f.2.2.2.2.2.1
def acF(f:SF):List (List Int):=f.2.2.2.2.2.2
def okS(f:SF):Prop:=okC (shS f)/\(szF f).length<=1048576/\(acF f).length<=1048576/\∀y∈acF f,y.length<=1048576
def act(f:SF)(a:Nat):List Int:=(acF f).getD a []
def sz(f:SF)(x:Int):Int:=(szF f).getD x.toNat 0
def Mf(f:SF)(a:Nat):Bool:=decide (((act f a).length:Int)=sz f (fT (shS f) a))&&wi (sz f (tT (shS f) a)) (act f a)
def X3(f:SF):Bool:=Ir (shS f)&&(decide (((szF f).length:Int)=f.1)&&(decide (((acF f).length:Int)=(ar (shS f):Int))&&wi 17 (szF f)))
def Hc(f:SF):Bool:=X3 f&&(List.range (acF f).length).all (Mf f)
theorem wi17(x:List Int):wi 17 x=(List.range x.length).all fun i=>decide (0<=x.getD i 0)&&decide (x.getD i 0<=16):=by
 rw [JG (0:Int) (fun a=>decide (0<=a)&&decide (a<=16)) x]
 unfold wi
 congr 1
 funext a
 unfold inn;rw [Bool.eq_iff_iff];simp only [bAE,decide_eq_true_eq];omega
theorem sz_in{f:SF}(h1:((szF f).length:Int)=f.1)(hs:wi 17 (szF f)=true){x:Int}(hx:0<=x/\x<f.1):0<=sz f x/\sz f x<=16:=by
 obtain⟨g1,g2⟩:=BB hs (i:=x.toNat) (by omega)
 exact⟨g1,by unfold sz;omega⟩
theorem WO{f:SF}(h:okS f){a:Nat}(ha:a<(acF f).length):(act f a).length<=1048576:=h.2.2.2 _ (by
 unfold act;rw [gDE,gEE ha];exact List.getElem_mem ha)
theorem p145{f:SF}(h:okS f):G145 f=some (Hc f):=by
 have hh:=h;obtain⟨hc,hl,hal,hac⟩:=hh;unfold G145 Hc X3;have e1:(f.1,(f.2.1,(f.2.2.1,(f.2.2.2.1,f.2.2.2.2.1))))=shS f:=rfl;simp only [e1,p155 hc,Option.bind_some];cases hcat:Ir (shS f)with
 |false=>rfl
 |true=>
 have hsh:=L4 hcat;have hd:=hsh.hd;obtain⟨a1,a2,a3,a4,a5,a6,a7,a8⟩:=hd;simp only [Bool.not_true,cond_false,Bool.true_and,Option.bind_some];have e2:decide (((f.2.2.2.2.2.1.length:Nat):Int)=f.1)=decide (((szF f).length:Int)=f.1):=rfl;rw [e2];cases h1:decide (((szF f).length:Int)=f.1)with
 |false=>rfl
 |true=>
 have h1:=of_decide_eq_true h1;simp only [Bool.not_true,cond_false,Bool.true_and,Option.bind_some];have e3:decide (((f.2.2.2.2.2.2.length:Nat):Int)=((f.2.1.length:Nat):Int))=decide (((acF f).length:Int)=(ar (shS f):Int)):=rfl;rw [e3];cases h2:decide (((acF f).length:Int)=(ar (shS f):Int))with
 |false=>rfl
 |true=>
 have h2:=of_decide_eq_true h2;simp only [Bool.not_true,cond_false,Bool.true_and,Option.bind_some];rw [wi17];refine Ut (n:=(szF f).length) (p:=fun i=>decide (0<=(szF f).getD i 0)&&decide ((szF f).getD i 0<=16)) (bad:=fun r:Bool=>r=false) (id:=0) (Post:=fun b (o:Option Bool)=>o=some (b&&(List.range (acF f).length).all (Mf f))) (fun i hi=>?_) ?_ ?_ (fun r hr=>by rw [hr];rfl)
 ·have hi':i<f.2.2.2.2.2.1.length:=hi
  simp only [Ak,hi',decide_true,cond_true,Ab hi',and_self,if_true,tNC,Z1,Option.bind_some];rw [Ap (by omega) (by omega)]
  show Q7 _ _ (decide (0<=f.2.2.2.2.2.1.getD i 0)&&decide (f.2.2.2.2.2.1.getD i 0<=16)) _;cases decide (0<=f.2.2.2.2.2.1.getD i 0)&&decide (f.2.2.2.2.2.1.getD i 0<=16)with
  |true=>exact Cz rfl
  |false=>exact Ds ⟨_,rfl,rfl⟩
 ·have e:decide ((((szF f).length:Nat):Int)<((f.2.2.2.2.2.1.length:Nat):Int))=false:=by rw [Ak];exact dF (Nat.lt_irrefl _)
  simp only [e,cond_false]
 ·show(if 0=0 then _ else none)=_
  rw [if_pos rfl,Bool.true_and];refine Ut (n:=(acF f).length) (p:=Mf f) (bad:=fun r:Bool=>r=false) (id:=2) (Post:=fun b (o:Option Bool)=>o=some b) (fun i hi=>?_) ?_ rfl (fun r hr=>by rw [hr])
  ·have hi':i<f.2.2.2.2.2.2.length:=hi
   have him:i<ar (shS f):=by omega
   have hi2:i<f.2.1.length:=him;have hi3:i<f.2.2.1.length:=by
    have:f.2.2.1.length=f.2.1.length:=a3;omega
   obtain⟨b1,b2⟩:=hsh.fr i him;obtain⟨b3,b4⟩:=hsh.to i him;have g1:(0:Int)<=f.2.1.getD i 0/\f.2.1.getD i 0<((f.2.2.2.2.2.1.length:Nat):Int):=⟨b1,by rw [show((f.2.2.2.2.2.1.length:Nat):Int)=f.1 from h1];exact b2⟩
   have g2:(0:Int)<=f.2.2.1.getD i 0/\f.2.2.1.getD i 0<((f.2.2.2.2.2.1.length:Nat):Int):=⟨b3,by rw [show((f.2.2.2.2.2.1.length:Nat):Int)=f.1 from h1];exact b4⟩
   simp only [Ak,hi',decide_true,cond_true,Ab hi',Ab hi2,Ab hi3,g1,g2,and_self,if_true,tNC];rw [Ap (by omega) (by omega)]
   have e4:G132 (f.2.2.2.2.2.1.getD (f.2.2.1.getD i 0).toNat 0,f.2.2.2.2.2.2.getD i [])=some (wi (sz f (tT (shS f) i)) (act f i)):=W3 (WO h hi);rw [e4];show Q7 _ _ (decide ((((f.2.2.2.2.2.2.getD i []).length:Nat):Int)=f.2.2.2.2.2.1.getD (f.2.1.getD i 0).toNat 0)&&wi (sz f (tT (shS f) i)) (act f i)) _;cases decide ((((f.2.2.2.2.2.2.getD i []).length:Nat):Int)=f.2.2.2.2.2.1.getD (f.2.1.getD i 0).toNat 0)with
   |false=>exact Ds ⟨_,rfl,rfl⟩
   |true=>
    rw [Bool.true_and];cases wi (sz f (tT (shS f) i)) (act f i)with
    |true=>exact Cz rfl
    |false=>exact Ds ⟨_,rfl,rfl⟩
  ·have e:decide ((((acF f).length:Nat):Int)<((f.2.2.2.2.2.2.length:Nat):Int))=false:=by rw [Ak];exact dF (Nat.lt_irrefl _)
   simp only [e,cond_false]
theorem p158{x:List Int}{k n:Int}(hn:0<=n/\n<=9223372036854775807)(hx:x.length<=1048576):G158 (x,(k,n))=some (decide ((x.length:Int)=k)&&wi n x):=by
 unfold G158;simp only [W2 hn hx,Option.bind_some];cases decide (((x.length:Nat):Int)=k)<;>rfl
theorem p149{f:SF}(h:okS f):G149 f=some (Hc f):=by
 have hh:=h;obtain⟨hc,hl,hal,hac⟩:=hh;unfold G149 Hc X3;have e1:(f.1,(f.2.1,(f.2.2.1,(f.2.2.2.1,f.2.2.2.2.1))))=shS f:=rfl;have ew:G139 (f.2.2.2.2.2.1,(17:Int))=some (wi 17 (szF f)):=W2 (by omega) hl
 simp only [e1,p156 hc,ew,p157,Option.bind_some];cases hcat:Ir (shS f)with
 |false=>rfl
 |true=>
 have hsh:=L4 hcat;have hd:=hsh.hd;obtain⟨a1,a2,a3,a4,a5,a6,a7,a8⟩:=hd;simp only [Bool.not_true,cond_false,Bool.true_and,Option.bind_some];have e2:decide (((f.2.2.2.2.2.1.length:Nat):Int)=f.1)=decide (((szF f).length:Int)=f.1):=rfl;rw [e2];cases h1:decide (((szF f).length:Int)=f.1)with
 |false=>rfl
 |true=>
 have h1:=of_decide_eq_true h1;simp only [Bool.not_true,cond_false,Bool.true_and,Option.bind_some];have e3:decide (((f.2.2.2.2.2.2.length:Nat):Int)=(((shS f).2.1.length:Nat):Int))=decide (((acF f).length:Int)=(ar (shS f):Int)):=rfl;rw [e3];cases hw:wi 17 (szF f)with
 |false=>cases decide (((acF f).length:Int)=(ar (shS f):Int))<;>rfl
 |true=>
 simp only [Bool.not_true,cond_false,Option.bind_some];cases h2:decide (((acF f).length:Int)=(ar (shS f):Int))with
 |false=>rfl
 |true=>
 have h2:=of_decide_eq_true h2;simp only [Bool.not_true,cond_false,Bool.true_and,Option.bind_some];refine Ut (n:=(acF f).length) (p:=Mf f) (bad:=fun r:Bool=>r=false) (id:=0) (Post:=fun b (o:Option Bool)=>o=some b) (fun i hi=>?_) ?_ rfl (fun r hr=>by rw [hr])
 ·have hi':i<f.2.2.2.2.2.2.length:=hi
  have him:i<ar (shS f):=by omega
  have hi2:i<f.2.1.length:=him;have hi3:i<f.2.2.1.length:=by
   have:f.2.2.1.length=f.2.1.length:=a3;omega
  obtain⟨b1,b2⟩:=hsh.fr i him;obtain⟨b3,b4⟩:=hsh.to i him;have g1:(0:Int)<=f.2.1.getD i 0/\f.2.1.getD i 0<((f.2.2.2.2.2.1.length:Nat):Int):=⟨b1,by rw [show((f.2.2.2.2.2.1.length:Nat):Int)=f.1 from h1];exact b2⟩
  have g2:(0:Int)<=f.2.2.1.getD i 0/\f.2.2.1.getD i 0<((f.2.2.2.2.2.1.length:Nat):Int):=⟨b3,by rw [show((f.2.2.2.2.2.1.length:Nat):Int)=f.1 from h1];exact b4⟩
  simp only [Ak,hi',decide_true,cond_true,Ab hi',Ab hi2,Ab hi3,g1,g2,and_self,if_true,tNC];rw [Ap (by omega) (by omega)]
  obtain⟨z1,z2⟩:=sz_in h1 hw (x:=tT (shS f) i) ⟨b3,b4⟩;have e4:G158 (f.2.2.2.2.2.2.getD i [],(f.2.2.2.2.2.1.getD (f.2.1.getD i 0).toNat 0,f.2.2.2.2.2.1.getD (f.2.2.1.getD i 0).toNat 0))=some (Mf f i):=p158 (x:=act f i) (k:=sz f (fT (shS f) i)) (n:=sz f (tT (shS f) i)) ⟨z1,by omega⟩ (WO h hi)
  rw [e4,Option.bind_some];cases Mf f i with
  |true=>exact Cz rfl
  |false=>exact Ds ⟨_,rfl,rfl⟩
 ·have e:decide ((((acF f).length:Nat):Int)<((f.2.2.2.2.2.2.length:Nat):Int))=false:=by rw [Ak];exact dF (Nat.lt_irrefl _)
  simp only [e,cond_false]
structure FS(f:SF):Prop where
 cat:Ir (shS f)=true
 sh:Sh (shS f)
 sp:DP (shS f)=true
 l1:((szF f).length:Int)=f.1
 l2:(acF f).length=ar (shS f)
 w:wi 17 (szF f)=true
 al: ∀a,a<ar (shS f)->((act f a).length:Int)=sz f (fT (shS f) a)
 aw: ∀a,a<ar (shS f)->wi (sz f (tT (shS f) a)) (act f a)=true
theorem AaB{f:SF}(h:Hc f=true):FS f:=by
 unfold Hc X3 at h;simp only [bAE,decide_eq_true_eq]at h;obtain⟨⟨h1,h2,h3,h4⟩,h5⟩:=h;have h3:(acF f).length=ar (shS f):=by omega
 have ha: ∀a,a<ar (shS f)->Mf f a=true:=fun a ha=>aET.1 h5 a (List.mem_range.2 (by omega))
 refine⟨h1,L4 h1,?_,h2,h3,h4,fun a hl=>?_,fun a hl=>?_⟩
 ·unfold Ir at h1
  rw [bAE]at h1;exact h1.1
 ·have:=ha a hl
  unfold Mf at this;rw [bAE,decide_eq_true_eq]at this;exact this.1
 ·have:=ha a hl
  unfold Mf at this;rw [bAE]at this;exact this.2
theorem FS.szi{f:SF}(h:FS f){x:Int}(hx:0<=x/\x<f.1):0<=sz f x/\sz f x<=16:=sz_in h.l1 h.w hx
def idAt(f:SF)(x:Nat):Int:=f.2.2.2.1.getD x 0
theorem FS.ida{f:SF}(h:FS f){x:Nat}(hx:x<f.2.2.2.1.length): ∃a:Nat,a<ar (shS f)/\idAt f x=(a:Int)/\fT (shS f) a=(x:Int):=by
 have hs:=h.sp;unfold DP at hs;rw [bAE,bAE]at hs;have hi:=aET.1 hs.2.1 x (List.mem_range.2 hx);unfold Wb at hi;rw [bAE,decide_eq_true_eq,decide_eq_true_eq]at hi;obtain⟨a1,a2,a3,a4,a5,a6,a7,a8⟩:=h.sh.hd;obtain⟨g1,g2⟩:=BB a8 hx;have g1:0<=idAt f x:=g1;have g2:idAt f x<(ar (shS f):Int):=g2;refine⟨(idAt f x).toNat,by omega,by omega,hi.1⟩
def OC(f:SF)(x e:Nat):Bool:=decide ((act f (idAt f x).toNat).getD e 0=(e:Int))
def idS(f:SF):Bool:=(List.range f.2.2.2.1.length).all fun x=>(List.range (sz f (x:Int)).toNat).all (OC f x)
def Wv(f:SF)(a b e:Nat):Bool:=decide ((act f (T (shS f) a b).toNat).getD e 0=(act f b).getD ((act f a).getD e 0).toNat 0)
def coB(f:SF)(a b:Nat):Bool:=!mt (shS f) a b||(List.range (sz f (fT (shS f) a)).toNat).all (Wv f a b)
def coS(f:SF):Bool:=(List.range (ar (shS f))).all fun a=>(List.range (ar (shS f))).all (coB f a)
abbrev R4:=Int×Int×Int×Int
def W7(r:R4):Prop:=decide (r.1=0)=false
theorem FS.el{f:SF}(h:FS f){a b e:Nat}(ha:a<ar (shS f))(hb:b<ar (shS f))(hm:mt (shS f) a b=true)(he:e<(act f a).length): ∃t:Nat,t<ar (shS f)/\T (shS f) a b=(t:Int)/\e<(act f t).length/\∃d:Nat,(act f a).getD e 0=(d:Int)/\d<(act f b).length:=by
 obtain⟨t1,t2,t3,t4⟩:=h.sh.pos a b ha hb hm;have t2:T (shS f) a b<(ar (shS f):Int):=t2;have ht:(T (shS f) a b).toNat<ar (shS f):=by omega
 refine⟨(T (shS f) a b).toNat,ht,by omega,?_,?_⟩
 ·have e1:=h.al a ha
  have e2:=h.al _ ht;have e3:fT (shS f) (T (shS f) a b).toNat=fT (shS f) a:=t3;rw [e3]at e2;omega
 ·obtain⟨g1,g2⟩:=BB (h.aw a ha) he
  have e1:=h.al b hb;have e2:tT (shS f) a=fT (shS f) b:=of_decide_eq_true hm;rw [e2]at g2;exact⟨((act f a).getD e 0).toNat,by omega,by omega⟩
theorem p146{f:SF}(h:FS f): ∃r,G146 f=some r/\decide (r.1=0)=(idS f&&coS f):=by
 obtain⟨a1,a2,a3,a4,a5,a6,a7,a8⟩:=h.sh.hd;have l1:((f.2.2.2.2.2.1.length:Nat):Int)=f.1:=h.l1;have l2:f.2.2.2.2.2.2.length=ar (shS f):=h.l2;have c4:((f.2.2.2.1.length:Nat):Int)=f.1:=a7;have hf1:f.1<=8:=a1.2;have hm:ar (shS f)<=40:=a2;unfold G146 idS;refine Ut (n:=f.2.2.2.1.length) (p:=fun x=>(List.range (sz f (x:Int)).toNat).all (OC f x)) (bad:=W7) (id:=0) (Post:=fun b (o:Option R4)=>∃r,o=some r/\decide (r.1=0)=(b&&coS f)) (fun x hx=>?_) ?_ ?_ (fun r hr=>⟨r,rfl,hr⟩)
 ·have hxf:decide ((x:Int)<f.1)=true:=dT (by omega)
  simp only [hxf,cond_true];have hz:=h.szi (x:=(x:Int)) ⟨by omega,by omega⟩
  obtain⟨n,hn⟩: ∃n:Nat,sz f (x:Int)=(n:Int):=⟨(sz f (x:Int)).toNat,by omega⟩
  rw [hn,tNC];refine Aa3 (n:=n) (p:=OC f x) (bad:=W7) (id:=2) (s:=((x+1:Nat):Int)) (fun e he=>?_) ?_ ?_
  ·obtain⟨a,ha,ea,ef⟩:=h.ida hx
   have hxl:x<f.2.2.2.2.2.1.length:=by omega
   have ea':f.2.2.2.1.getD x 0=(a:Int):=ea;have hal:a<f.2.2.2.2.2.2.length:=by omega
   have hn':f.2.2.2.2.2.1.getD x 0=(n:Int):=hn
   have hel:e<(act f a).length:=by
    have:=h.al a ha;rw [ef,hn]at this;omega
   have hel':e<(f.2.2.2.2.2.2.getD a []).length:=hel;simp only [Ab hxl,Ab hx,and_self,if_true,tNC,hn',Ak,he,decide_true,cond_true,ea',Ab hal,Ab hel'];rw [Ap (by omega) (by omega)]
   unfold OC;rw [ea,tNC];show Q7 _ _ (decide ((f.2.2.2.2.2.2.getD a []).getD e 0=(e:Int))) _;cases decide ((f.2.2.2.2.2.2.getD a []).getD e 0=(e:Int))with
   |true=>exact Cz rfl
   |false=>exact Ds ⟨_,rfl,_,rfl,rfl⟩
  ·have hxl:x<f.2.2.2.2.2.1.length:=by omega
   have hn':f.2.2.2.2.2.1.getD x 0=(n:Int):=hn;simp only [Ab hxl,and_self,if_true,tNC,hn',Ak,Nat.lt_irrefl,decide_false,cond_false]
  ·show(if 2=2 then _ else none)=_
   rw [if_pos rfl,Ap (by omega) (by omega)];rfl
 ·have e:decide (((f.2.2.2.1.length:Nat):Int)<f.1)=false:=dF (by omega)
  simp only [e,cond_false]
 ·show ∃r,(if 0=0 then _ else none)=some r/\_
  rw [if_pos rfl,Bool.true_and];unfold coS;refine Ut (n:=ar (shS f)) (p:=fun a=>(List.range (ar (shS f))).all (coB f a)) (bad:=W7) (id:=4) (Post:=fun b (o:Option R4)=>∃r,o=some r/\decide (r.1=0)=b) (fun a ha=>?_) ?_ ⟨_,rfl,rfl⟩ (fun r hr=>⟨r,rfl,hr⟩)
  ·have ha2:a<f.2.1.length:=ha
   have ha3:a<f.2.2.1.length:=by
    have:f.2.2.1.length=f.2.1.length:=a3;omega
   simp only [Ak,ha2,decide_true,cond_true];refine Aa3 (n:=ar (shS f)) (p:=coB f a) (bad:=W7) (id:=6) (s:=((a+1:Nat):Int)) (fun b hb=>?_) ?_ ?_
   ·have hb2:b<f.2.1.length:=hb
    simp only [Ak,hb2,decide_true,cond_true,Ab ha3,Ab hb2,and_self,if_true,tNC];unfold coB;show Q7 _ _ (!decide (f.2.2.1.getD a 0=f.2.1.getD b 0)||_) _;cases hm:decide (f.2.2.1.getD a 0=f.2.1.getD b 0)with
    |false=>
     refine Cz ?_;rw [Bool.not_false,cond_true,Ap (by omega) (by omega)];rfl
    |true=>
     have hm:mt (shS f) a b=true:=hm;rw [Bool.not_true,cond_false,Bool.false_or];obtain⟨f1,f2⟩:=h.sh.fr a ha;obtain⟨z1,z2⟩:=h.szi (x:=fT (shS f) a) ⟨f1,f2⟩;have hal:=h.al a ha;obtain⟨n,hn⟩: ∃n:Nat,sz f (fT (shS f) a)=(n:Int):=⟨(sz f (fT (shS f) a)).toNat,by omega⟩
     rw [hn,tNC];have hg:(0:Int)<=f.2.1.getD a 0/\f.2.1.getD a 0<((f.2.2.2.2.2.1.length:Nat):Int):=⟨f1,by rw [l1];exact f2⟩
     have hn':f.2.2.2.2.2.1.getD (f.2.1.getD a 0).toNat 0=(n:Int):=hn;refine Aa3 (n:=n) (p:=Wv f a b) (bad:=lift W7) (id:=8) (s:=((b+1:Nat):Int)) (fun e he=>?_) ?_ ?_
     ·have he':e<(act f a).length:=by omega
      obtain⟨t,ht,et,hel,d,ed,hd⟩:=h.el ha hb hm he';have r1:a<f.2.2.2.2.1.length:=by
       have:f.2.2.2.2.1.length=f.2.1.length:=a6;omega
      have r2:b<(f.2.2.2.2.1.getD a []).length:=by
       have:(f.2.2.2.2.1.getD a []).length=f.2.1.length:=h.sh.row a ha;omega
      have et':(f.2.2.2.2.1.getD a []).getD b 0=(t:Int):=et;have ed':(f.2.2.2.2.2.2.getD a []).getD e 0=(d:Int):=ed;have q1:t<f.2.2.2.2.2.2.length:=by omega
      have q2:e<(f.2.2.2.2.2.2.getD t []).length:=hel;have q3:b<f.2.2.2.2.2.2.length:=by omega
      have q4:a<f.2.2.2.2.2.2.length:=by omega
      have q5:e<(f.2.2.2.2.2.2.getD a []).length:=he';have q6:d<(f.2.2.2.2.2.2.getD b []).length:=hd;simp only [Ab ha2,hg,hn',Ak,he,decide_true,cond_true,Ab r1,Ab r2,et',Ab q1,Ab q2,Ab q3,Ab q4,Ab q5,ed',Ab q6,and_self,if_true,tNC];rw [Ap (by omega) (by omega)]
      unfold Wv;rw [et,ed,tNC,tNC];show Q7 _ _ (decide ((f.2.2.2.2.2.2.getD t []).getD e 0=(f.2.2.2.2.2.2.getD b []).getD d 0)) _;cases decide ((f.2.2.2.2.2.2.getD t []).getD e 0=(f.2.2.2.2.2.2.getD b []).getD d 0)with
      |true=>exact Cz rfl
      |false=>exact Ds ⟨_,rfl,_,rfl,_,rfl,rfl⟩
     ·simp only [Ab ha2,hg,hn',Ak,Nat.lt_irrefl,decide_false,cond_false,and_self,if_true,tNC]
     ·show(if 8=8 then _ else none)=_
      rw [if_pos rfl,Ap (by omega) (by omega)];rfl
   ·have e:decide (((ar (shS f):Nat):Int)<((f.2.1.length:Nat):Int))=false:=by rw [Ak];exact dF (Nat.lt_irrefl _)
    simp only [e,cond_false]
   ·show(if 6=6 then _ else none)=_
    rw [if_pos rfl,Ap (by omega) (by omega)];rfl
  ·have e:decide (((ar (shS f):Nat):Int)<((f.2.1.length:Nat):Int))=false:=by rw [Ak];exact dF (Nat.lt_irrefl _)
   simp only [e,cond_false]
end Go.Ve.D


namespace Go.Ve.D
open Go Go.Ve
theorem p150{f:SF}(h:FS f): ∃r,G150 f=some r/\decide (r.1=0)=(idS f&&coS f):=by
 obtain⟨a1,a2,a3,a4,a5,a6,a7,a8⟩:=h.sh.hd;have l1:((f.2.2.2.2.2.1.length:Nat):Int)=f.1:=h.l1;have l2:f.2.2.2.2.2.2.length=ar (shS f):=h.l2;have c4:((f.2.2.2.1.length:Nat):Int)=f.1:=a7;have c5:f.2.2.2.2.1.length=ar (shS f):=a6;have hf1:f.1<=8:=a1.2;have hm:ar (shS f)<=40:=a2;unfold G150 idS;refine Ut (n:=f.2.2.2.1.length) (p:=fun x=>(List.range (sz f (x:Int)).toNat).all (OC f x)) (bad:=W7) (id:=0) (Post:=fun b (o:Option R4)=>∃r,o=some r/\decide (r.1=0)=(b&&coS f)) (fun x hx=>?_) ?_ ?_ (fun r hr=>⟨r,rfl,hr⟩)
 ·have hz:=h.szi (x:=(x:Int)) ⟨by omega,by omega⟩
  obtain⟨n,hn⟩: ∃n:Nat,sz f (x:Int)=(n:Int):=⟨(sz f (x:Int)).toNat,by omega⟩
  obtain⟨a,ha,ea,ef⟩:=h.ida hx;have ea':f.2.2.2.1.getD x 0=(a:Int):=ea;have hal:a<f.2.2.2.2.2.2.length:=by omega
  have hel:(act f a).length=n:=by
   have:=h.al a ha;rw [ef,hn]at this;omega
  have hel':(f.2.2.2.2.2.2.getD a []).length=n:=hel;simp only [Ak,hx,decide_true,cond_true,Ab hx,ea',Ab hal,and_self,if_true,tNC,hel'];rw [hn,tNC];refine Aa3 (n:=n) (p:=OC f x) (bad:=W7) (id:=2) (s:=((x+1:Nat):Int)) (fun e he=>?_) ?_ ?_
  ·simp only [he,decide_true,cond_true,Ab he,and_self,if_true,tNC]
   rw [Ap (by omega) (by omega)]
   unfold OC;rw [ea,tNC];show Q7 _ _ (decide ((f.2.2.2.2.2.2.getD a []).getD e 0=(e:Int))) _;cases decide ((f.2.2.2.2.2.2.getD a []).getD e 0=(e:Int))with
   |true=>exact Cz rfl
   |false=>exact Ds ⟨_,rfl,_,rfl,rfl⟩
  ·simp only [Ak,Nat.lt_irrefl,decide_false,cond_false]
  ·show(if 2=2 then _ else none)=_
   rw [if_pos rfl,Ap (by omega) (by omega)];rfl
 ·have e:decide (((f.2.2.2.1.length:Nat):Int)<((f.2.2.2.1.length:Nat):Int))=false:=by rw [Ak];exact dF (Nat.lt_irrefl _)
  simp only [e,cond_false]
 ·show ∃r,(if 0=0 then _ else none)=some r/\_
  rw [if_pos rfl,Bool.true_and];unfold coS;refine Ut (n:=ar (shS f)) (p:=fun a=>(List.range (ar (shS f))).all (coB f a)) (bad:=W7) (id:=4) (Post:=fun b (o:Option R4)=>∃r,o=some r/\decide (r.1=0)=b) (fun a ha=>?_) ?_ ⟨_,rfl,rfl⟩ (fun r hr=>⟨r,rfl,hr⟩)
  ·have r1:a<f.2.2.2.2.1.length:=by omega
   have er:(f.2.2.2.2.1.getD a []).length=ar (shS f):=h.sh.row a ha;have q4:a<f.2.2.2.2.2.2.length:=by omega
   simp only [Ak,r1,decide_true,cond_true,Ab r1,and_self,if_true,tNC,er];refine Aa3 (n:=ar (shS f)) (p:=coB f a) (bad:=W7) (id:=6) (s:=((a+1:Nat):Int)) (fun b hb=>?_) ?_ ?_
   ·simp only [hb,decide_true,cond_true,Ab hb,and_self,if_true,tNC]
    unfold coB;cases hmt:mt (shS f) a b with
    |false=>
     have e:(f.2.2.2.2.1.getD a []).getD b 0= -1:=h.sh.neg a b ha hb hmt;have e0:decide ((f.2.2.2.2.1.getD a []).getD b 0<0)=true:=dT (by omega)
     refine Cz ?_;simp only [e0,cond_true];rw [Ap (by omega) (by omega)];rfl
    |true=>
     obtain⟨t1,t2,_⟩:=h.sh.pos a b ha hb hmt;obtain⟨t,et⟩: ∃t:Nat,T (shS f) a b=(t:Int):=⟨(T (shS f) a b).toNat,by omega⟩
     have et':(f.2.2.2.2.1.getD a []).getD b 0=(t:Int):=et;have e0:decide ((t:Int)<0)=false:=dF (by omega)
     obtain⟨f1,f2⟩:=h.sh.fr a ha;obtain⟨z1,z2⟩:=h.szi (x:=fT (shS f) a) ⟨f1,f2⟩;have hal:=h.al a ha;obtain⟨n,hn⟩: ∃n:Nat,sz f (fT (shS f) a)=(n:Int):=⟨(sz f (fT (shS f) a)).toNat,by omega⟩
     have hel:(act f a).length=n:=by omega
     have hel':(f.2.2.2.2.2.2.getD a []).length=n:=hel;rw [Bool.not_true,Bool.false_or,hn,tNC];simp only [et',e0,cond_false,Ab q4,and_self,if_true,hel',tNC];refine Aa3 (n:=n) (p:=Wv f a b) (bad:=lift W7) (id:=8) (s:=((b+1:Nat):Int)) (fun e he=>?_) ?_ ?_
     ·have he':e<(act f a).length:=by omega
      obtain⟨t',ht,et2,hl,d,ed,hd⟩:=h.el ha hb hmt he';have e3:t'=t:=by omega
      rw [e3]at ht hl;have ed':(f.2.2.2.2.2.2.getD a []).getD e 0=(d:Int):=ed;have q1:t<f.2.2.2.2.2.2.length:=by omega
      have q2:e<(f.2.2.2.2.2.2.getD t []).length:=hl;have q3:b<f.2.2.2.2.2.2.length:=by omega
      have q6:d<(f.2.2.2.2.2.2.getD b []).length:=hd;simp only [Ak,he,decide_true,cond_true,Ab he,Ab q1,Ab q2,Ab q3,ed',Ab q6,and_self,if_true,tNC];rw [Ap (by omega) (by omega)]
      unfold Wv;rw [et,ed,tNC,tNC];show Q7 _ _ (decide ((f.2.2.2.2.2.2.getD t []).getD e 0=(f.2.2.2.2.2.2.getD b []).getD d 0)) _;cases decide ((f.2.2.2.2.2.2.getD t []).getD e 0=(f.2.2.2.2.2.2.getD b []).getD d 0)with
      |true=>exact Cz rfl
      |false=>exact Ds ⟨_,rfl,_,rfl,_,rfl,rfl⟩
     ·simp only [Ak,Nat.lt_irrefl,decide_false,cond_false]
     ·show(if 8=8 then _ else none)=_
      rw [if_pos rfl,Ap (by omega) (by omega)];rfl
   ·simp only [Ak,Nat.lt_irrefl,decide_false,cond_false]
   ·show(if 6=6 then _ else none)=_
    rw [if_pos rfl,Ap (by omega) (by omega)];rfl
  ·have e:decide (((ar (shS f):Nat):Int)<((f.2.2.2.2.1.length:Nat):Int))=false:=by rw [Ak];exact dF (by omega)
   simp only [e,cond_false]
def V9(f:SF):Bool:=Hc f&&(idS f&&coS f)
theorem p128{f:SF}(h:okS f):G128 f=some (V9 f):=by
 unfold G128 V9;have e:=p145 h;simp only [Prod.eta,e,Option.bind_some];cases hs:Hc f with
 |false=>rfl
 |true=>
  obtain⟨r,h1,h2⟩:=p146 (AaB hs);simp only [Bool.not_true,cond_false,h1,Option.bind_some,Bool.true_and,h2]
theorem p134{f:SF}(h:okS f):G134 f=some (V9 f):=by
 unfold G134 V9;have e:=p149 h;simp only [Prod.eta,e,Option.bind_some];cases hs:Hc f with
 |false=>rfl
 |true=>
  obtain⟨r,h1,h2⟩:=p150 (AaB hs);simp only [Bool.not_true,cond_false,h1,Option.bind_some,Bool.true_and,h2]
theorem Aas{f:SF}(h:V9 f=true):FS f:=by
 unfold V9 at h;rw [bAE]at h;exact AaB h.1
end Go.Ve.D


namespace Go.Ve.D
open Go Go.Ve
noncomputable section
theorem CV{α:Type}{n d:Nat}{q:Nat->α}{b:α}:((List.range n).map q).set d b=(List.range n).map fun e=>if e=d then b else q e:=by
 apply List.ext_getElem (by simp)
 intro i h1 h2;simp only [List.getElem_set,List.getElem_map,List.getElem_range];by_cases h:d=i
 ·rw [if_pos h,if_pos h.symm]
 ·rw [if_neg h,if_neg fun e=>h e.symm]
def thn(f g:List Int):List Int:=(List.range f.length).map fun i=>g.getD (f.getD i 0).toNat 0
theorem HJ{f g:List Int}:(thn f g).length=f.length:=by simp [thn]
theorem p122{f g:List Int}(hf:f.length<=1048576)(hw:wi g.length f=true):G122 (f,g)=some (thn f g):=by
 unfold G122;simp only
 have hmem: ∀i,i<f.length->∃d:Nat,f.getD i 0=(d:Int)/\d<g.length:=fun i hi=>by
  obtain⟨h1,h2⟩:=BB hw hi;exact⟨(f.getD i 0).toNat,by omega,by omega⟩
 refine Aa (v:=.brk 0 ((f.length:Int),thn f g)) ?_ rfl;have key: ∀i,i<=f.length->((List.range i).map fun i=>g.getD (f.getD i 0).toNat 0).length=i:=fun i _=>by simp
 refine Ax (st:=fun i:Nat=>((i:Int),(List.range i).map fun i=>g.getD (f.getD i 0).toNat 0)) (n:=f.length) (fun i hi=>?_) ?_ (fun y=>by simp)
 ·obtain⟨d,hd,hdg⟩:=hmem i hi
  simp only [Ak,hi,decide_true,cond_true,Ab hi,hd,Ab hdg,and_self,if_true,tNC,List.length_map,List.length_range,List.length_cons,List.length_nil];rw [Ap (by omega) (by omega),if_pos (show i+(0+1)<=17592186044416 by omega),List.range_succ,List.map_append]
  simp only [List.map_cons,List.map_nil,hd,tNC];rfl
 ·simp only [Ak,Nat.lt_irrefl,decide_false,cond_false]
  rfl
theorem p160{f g:List Int}(hf:f.length<=1048576)(hw:wi g.length f=true):G160 (f,g)=some (thn f g):=by
 unfold G160;have hG:(0:Int)<=(f.length:Int)/\((f.length:Int)<=(f.length:Int)/\((8:Int)*(f.length:Int)<=(281474976710656:Int)/\(f.length:Int)<=(9223372036854775807:Int))):=by omega
 simp only [hG,and_self,if_true,tNC]
 have hmem: ∀i,i<f.length->∃d:Nat,f.getD i 0=(d:Int)/\d<g.length:=fun i hi=>by
  obtain⟨h1,h2⟩:=BB hw hi;exact⟨(f.getD i 0).toNat,by omega,by omega⟩
 have e0:List.replicate f.length (0:Int)=(List.range f.length).map fun j=>if j<0 then g.getD (f.getD j 0).toNat 0 else 0:=by simp [List.map_const']
 rw [e0];refine Aa (v:=.brk 0 ((f.length:Int),thn f g)) ?_ rfl;refine Ax (st:=fun i:Nat=>((i:Int),(List.range f.length).map fun j=>if j<i then g.getD (f.getD j 0).toNat 0 else 0)) (n:=f.length) (fun i hi=>?_) ?_ (fun y=>by simp)
 ·obtain⟨d,hd,hdg⟩:=hmem i hi
  simp only [Ak,hi,decide_true,cond_true,Ab hi,hd,Ab hdg,and_self,if_true,tNC,List.length_map,List.length_range];rw [Ap (by omega) (by omega),CV]
  have e:((List.range f.length).map fun e=>if e=i then g.getD d 0 else if e<i then g.getD (f.getD e 0).toNat 0 else 0)=(List.range f.length).map fun j=>if j<i+1 then g.getD (f.getD j 0).toNat 0 else 0:=List.map_congr_left fun e _=>by
   by_cases h:e=i
   ·subst h
    rw [if_pos rfl,if_pos (Nat.lt_succ_self _),hd,tNC]
   ·rw [if_neg h]
    by_cases h2:e<i
    ·rw [if_pos h2,if_pos (by omega)]
    ·rw [if_neg h2,if_neg (by omega)]
  rw [e];rfl
 ·have e:((List.range f.length).map fun j=>if j<f.length then g.getD (f.getD j 0).toNat 0 else 0)=thn f g:=List.map_congr_left fun j hj=>if_pos (List.mem_range.1 hj)
  simp only [Ak,Nat.lt_irrefl,decide_false,cond_false,e]
end
end Go.Ve.D


namespace Go.Ve.D
open Go Go.Ve
noncomputable section
def prd:List Int->Nat
 | []=>1
 |a::l=>a.toNat*prd l
theorem Lx: ∀ (a b:List Int),prd (a++b)=prd a*prd b
 | [],b=>by simp [prd]
 |x::a,b=>by
  show x.toNat*prd (a++b)=x.toNat*prd a*prd b;rw [Lx a b,Nat.mul_assoc]
theorem YL: ∀ {x:List Int},(∀y∈x,y<=16)->prd x<=16 ^ x.length
 | [],_=>Nat.le_refl _
 |a::l,h=>by
  have h1:=h a (List.mem_cons_self ..);have h2:=YL fun y hy=>h y (mCM _ hy)
  show a.toNat*prd l<=16 ^ (l.length+1);rw [Nat.pow_succ,Nat.mul_comm];exact Nat.mul_le_mul h2 (by omega)
theorem IB{x:List Int}{i:Nat}(hi:i<x.length):prd (x.take (i+1))=prd (x.take i)*(x.getD i 0).toNat:=by
 rw [<-Ha 0 hi,Lx];show _*((x.getD i 0).toNat*1)=_;rw [Nat.mul_one]
theorem Ps{x:List Int}{i:Nat}(hi:i<x.length)(h:x.getD i 0=0):prd x=0:=by
 have e:x=x.take (i+1)++x.drop (i+1):=(List.take_append_drop _ _).symm;rw [e,Lx,IB hi,h];simp
structure Few(x:List Int):Prop where
 l:x.length<=4
 b: ∀y∈x,0<=y/\y<=16
theorem Few.get{x:List Int}(h:Few x){i:Nat}(hi:i<x.length):0<=x.getD i 0/\x.getD i 0<=16:=h.b _ (As 0 hi)
theorem Few.prd{x:List Int}(h:Few x)(i:Nat):Go.Ve.D.prd (x.take i)<=65536:=by
 have h1:=YL (x:=x.take i) fun y hy=>(h.b y (List.mem_of_mem_take hy)).2
 have h2:(x.take i).length<=4:=by have:=h.l;rw [List.length_take];omega
 have h3:16 ^ (x.take i).length<=16 ^ 4:=Nat.pow_le_pow_right (by omega) h2
 have h4:(16:Nat) ^ 4=65536:=by decide
 omega
def noZ(x:List Int)(i:Nat):Bool:=!decide (x.getD i 0=0)
theorem noZ_f{x:List Int}(h:(List.range x.length).all (noZ x)=false):Go.Ve.D.prd x=0:=by
 rw [List.all_eq_false]at h;obtain⟨i,hi,h⟩:=h;have hi:=List.mem_range.1 hi;unfold noZ at h;exact Ps hi (by simpa using h)
theorem p111{x:List Int}(h:Few x):G111 x=some ((Go.Ve.D.prd x:Nat):Int):=by
 unfold G111;have hl:=h.l;refine Bh (st:=fun i:Nat=>(((Go.Ve.D.prd (x.take i):Nat):Int),(i:Int))) (n:=x.length) (p:=noZ x) (Q:=fun r:Int=>r=0) (o:=.brk 0 (((Go.Ve.D.prd x:Nat):Int),(x.length:Int))) (Post:=fun o:Option Int=>o=some ((Go.Ve.D.prd x:Nat):Int)) (fun i hi=>?_) ?_ (fun y=>by simp) (fun _=>?_) (fun hall r hr=>?_)
 ·have hp:=h.prd i
  obtain⟨g1,g2⟩:=h.get hi;obtain⟨k,hk⟩: ∃k:Nat,x.getD i 0=(k:Int):=⟨(x.getD i 0).toNat,by omega⟩
  have hc:((Go.Ve.D.prd (x.take i):Nat):Int)<=1000000000000:=by omega
  have hmul:Go.Ve.D.prd (x.take i)*k<=65536*16:=Nat.mul_le_mul hp (by omega)
  have hs:Go.Ve.D.prd (x.take (i+1))=Go.Ve.D.prd (x.take i)*k:=by rw [IB hi,hk,tNC]
  unfold noZ;simp only [Ak,hi,decide_true,cond_true,Ab hi,and_self,if_true,tNC,hk,hc];cases hz:decide ((k:Int)=0)with
  |true=>exact⟨(fun h=>by cases h),fun _=>⟨_,rfl,rfl⟩⟩
  |false=>
   refine⟨fun _=>?_,(fun h=>by cases h)⟩
   simp only [cond_false];rw [Ap (n:=(i:Int)+1) (by omega) (by omega),show((Go.Ve.D.prd (x.take i):Nat):Int)*(k:Int)=((Go.Ve.D.prd (x.take i)*k:Nat):Int) by simp,Ap (by omega) (by omega),<-hs]
   rfl
 ·simp only [Ak,Nat.lt_irrefl,decide_false,cond_false,List.take_length]
 ·have hp:=h.prd x.length
  rw [List.take_length]at hp;show some (minI _ _)=_;unfold minI
  congr 1
  first|omega|(rw [Int.min_eq_left (by omega)])|(rw [if_pos (by omega)])|simp;omega
 ·rw [noZ_f hall,hr];rfl
end
end Go.Ve.D


namespace Go.Ve.D
open Go Go.Ve
noncomputable section
theorem Xj{k:Nat}(h0:k≠0)(h:k<=16):62500000000<=Int.tdiv 1000000000000 (k:Int)/\Int.tdiv 1000000000000 (k:Int)<=1000000000000:=by
 rw [Int.tdiv_eq_ediv_of_nonneg (by decide)]
 exact⟨Int.le_ediv_of_mul_le (by omega) (by omega),Int.ediv_le_self _ (by decide)⟩
theorem p95{x:List Int}(h:Few x):G95 x=some ((Go.Ve.D.prd x:Nat):Int):=by
 unfold G95;have hl:=h.l;refine Bh (st:=fun i:Nat=>(i:Int)) (n:=x.length) (p:=noZ x) (Q:=fun r:Int=>r=0) (o:=.brk 0 (x.length:Int)) (Post:=fun o:Option Int=>o=some ((Go.Ve.D.prd x:Nat):Int)) (fun i hi=>?_) ?_ (fun y=>by simp) (fun hall=>?_) (fun hall r hr=>by rw [noZ_f hall,hr];rfl)
 ·unfold noZ
  simp only [Ak,hi,decide_true,cond_true,Ab hi,and_self,if_true,tNC];rw [Ap (by omega) (by omega)]
  cases hz:decide (x.getD i 0=0)with
  |true=>exact⟨(fun h=>by cases h),fun _=>⟨_,rfl,rfl⟩⟩
  |false=>exact⟨fun _=>rfl,(fun h=>by cases h)⟩
 ·simp only [Ak,Nat.lt_irrefl,decide_false,cond_false]
 ·show(if 0=0 then _ else none)=_
  rw [if_pos rfl];refine Aa (v:=.brk 2 (((Go.Ve.D.prd x:Nat):Int),(x.length:Int))) (Ax (st:=fun i:Nat=>(((Go.Ve.D.prd (x.take i):Nat):Int),(i:Int))) (n:=x.length) (fun i hi=>?_) ?_ (fun y=>by simp)) rfl
  ·have hp:=h.prd i
   obtain⟨g1,g2⟩:=h.get hi;obtain⟨k,hk⟩: ∃k:Nat,x.getD i 0=(k:Int):=⟨(x.getD i 0).toNat,by omega⟩
   have hz: ¬ ((k:Int)=0):=by
    have:=aET.1 hall i (List.mem_range.2 hi);unfold noZ at this;rw [hk]at this;simpa using this
   have hk16:k<=16:=by omega
   obtain⟨t1,t2⟩:=Xj (k:=k) (by omega) hk16
   have hmul:Go.Ve.D.prd (x.take i)*k<=65536*16:=Nat.mul_le_mul hp hk16;have hs:Go.Ve.D.prd (x.take (i+1))=Go.Ve.D.prd (x.take i)*k:=by rw [IB hi,hk,tNC]
   have ew:IntKind.wrap .i64 (Int.tdiv (1000000000000:Int) (k:Int))=Int.tdiv (1000000000000:Int) (k:Int):=Ap (by omega) (by omega)
   have hn: ¬ (Int.tdiv (1000000000000:Int) (k:Int)<((Go.Ve.D.prd (x.take i):Nat):Int)):=by omega
   simp only [Ak,hi,decide_true,cond_true,Ab hi,and_self,if_true,tNC,hk];rw [if_pos hz];simp only [ew,dF hn,cond_false];rw [Ap (n:=(i:Int)+1) (by omega) (by omega),show((Go.Ve.D.prd (x.take i):Nat):Int)*(k:Int)=((Go.Ve.D.prd (x.take i)*k:Nat):Int) by simp,Ap (by omega) (by omega),<-hs]
   rfl
  ·simp only [Ak,Nat.lt_irrefl,decide_false,cond_false,List.take_length]
end
end Go.Ve.D


namespace Go.Ve.D
open Go Go.Ve
noncomputable section
theorem Jp{α R:Type}{F:(Int×List α)->Option (LO (Int×List α) R)}{n:Nat}{g:Nat->α}{id:Nat}
  (h1: ∀i,i<n->∀acc:List α,acc.length=i->F ((i:Int),acc)=some (.next (((i+1:Nat):Int),acc++ [g i])))
  (h2: ∀acc:List α,F ((n:Int),acc)=some (.brk id ((n:Int),acc))):
  Ag F ((0:Int),[])=some (.brk id ((n:Int),(List.range n).map g)):=by
 refine Ax (st:=fun i:Nat=>((i:Int),(List.range i).map g)) (n:=n) (fun i hi=>?_) (h2 _) (fun y=>by simp)
 rw [h1 i hi _ (by simp),List.range_succ,List.map_append]
 rfl
end
end Go.Ve.D


namespace Go.Ve.D
open Go Go.Ve
noncomputable section
def nmN(x:List Int)(k:Nat):Nat->Nat
 |0=>k
 |j+1=>nmN x k j/(x.getD (x.length-1-j) 0).toNat
def dig(x:List Int)(k e:Nat):Int:=((nmN x k (x.length-1-e) % (x.getD e 0).toNat:Nat):Int)
def D8(x:List Int)(k:Nat):List Int:=(List.range x.length).map (dig x k)
theorem nm_le(x:List Int)(k:Nat): ∀j,nmN x k j<=k
 |0=>Nat.le_refl _
 |j+1=>Nat.le_trans (Nat.div_le_self _ _) (nm_le x k j)
theorem WE{x:List Int}(h:Few x)(hz: ∀i,i<x.length->x.getD i 0≠0){k:Nat}(hk:k<=1000000000000){R:Type}{F:Int×Int×List Int->Option (LO (Int×Int×List Int) R)}
  (hF:F=fun v0=>(bif(decide ((0:Int)<=v0.2.1))then(if(((0:Int)<=v0.2.1)/\(v0.2.1<((x.length:Nat):Int)))then(if((x.getD (v0.2.1).toNat (0:Int))≠(0:Int))then(if(((0:Int)<=v0.2.1)/\(v0.2.1<((v0.2.2.length:Nat):Int)))then(if(((0:Int)<=v0.2.1)/\(v0.2.1<((x.length:Nat):Int)))then(if((x.getD (v0.2.1).toNat (0:Int))≠(0:Int))then(some (LO.next ((IntKind.wrap .i64 (Int.tdiv v0.1 (x.getD (v0.2.1).toNat (0:Int)))),((IntKind.wrap .i64 (v0.2.1-(1:Int))),(v0.2.2.set (v0.2.1).toNat (Int.tmod v0.1 (x.getD (v0.2.1).toNat (0:Int))))))))else none)else none)else none)else none)else none)else(some (LO.brk 0 (v0.1,(v0.2.1,v0.2.2)))))):
  Ag F ((k:Int),((IntKind.wrap .i64 ((x.length:Int)-1)),List.replicate x.length (0:Int)))=some (.brk 0 (((nmN x k x.length:Nat):Int),((x.length:Int)-1-(x.length:Int),D8 x k))):=by
 subst hF;have hl:=h.l;have ew:IntKind.wrap .i64 ((x.length:Int)-1)=(x.length:Int)-1-((0:Nat):Int):=by rw [Bx (by omega) (by omega)];omega
 have e0:List.replicate x.length (0:Int)=(List.range x.length).map fun e=>if x.length<=e+0 then dig x k e else 0:=by
  have:((List.range x.length).map fun e=>if x.length<=e+0 then dig x k e else 0)=(List.range x.length).map fun _=>(0:Int):=List.map_congr_left fun e he=>if_neg (by have:=List.mem_range.1 he;omega)
  rw [this];simp [List.map_const']
 rw [ew,e0];refine Ax (st:=fun j:Nat=>(((nmN x k j:Nat):Int),((x.length:Int)-1-(j:Int),(List.range x.length).map fun e=>if x.length<=e+j then dig x k e else 0))) (n:=x.length) (fun j hj=>?_) ?_ (fun y=>by simp)
 ·obtain⟨i,hi⟩: ∃i:Nat,i=x.length-1-j:=⟨_,rfl⟩
  have hii:(x.length:Int)-1-(j:Int)=(i:Int):=by omega
  have hix:i<x.length:=by omega
  obtain⟨g1,g2⟩:=h.get hix;obtain⟨b,hb⟩: ∃b:Nat,x.getD i 0=(b:Int):=⟨(x.getD i 0).toNat,by omega⟩
  have hbz:(b:Int)≠0:=by rw [<-hb];exact hz i hix
  have hnm:=nm_le x k j;have hdv:nmN x k (j+1)=nmN x k j/b:=by show _/(x.getD (x.length-1-j) 0).toNat=_;rw [<-hi,hb,tNC]
  have hdg:dig x k i=((nmN x k j % b:Nat):Int):=by
   unfold dig;rw [show x.length-1-i=j by omega,hb,tNC]
  have h0:decide ((0:Int)<=(i:Int))=true:=dT (by omega)
  simp only [hii,h0,cond_true,Ab hix,hb,List.length_map,List.length_range,and_self,if_true,tNC];rw [if_pos hbz,if_pos hbz];have e1:Int.tdiv ((nmN x k j:Nat):Int) (b:Int)=((nmN x k j/b:Nat):Int):=rfl;have e2:Int.tmod ((nmN x k j:Nat):Int) (b:Int)=((nmN x k j % b:Nat):Int):=rfl;have hle:nmN x k j/b<=nmN x k j:=Nat.div_le_self _ _;rw [e1,e2,Ap (n:=((nmN x k j/b:Nat):Int)) (by omega) (by omega),Bx (n:=(i:Int)-1) (by omega) (by omega),CV,<-hdv,<-hdg]
  have e3:((List.range x.length).map fun e=>if e=i then dig x k i else if x.length<=e+j then dig x k e else 0)=(List.range x.length).map fun e=>if x.length<=e+(j+1)then dig x k e else 0:=List.map_congr_left fun e he=>by
   have:=List.mem_range.1 he;by_cases h1:e=i
   ·subst h1;rw [if_pos rfl,if_pos (by omega)]
   ·rw [if_neg h1]
    by_cases h2:x.length<=e+j
    ·rw [if_pos h2,if_pos (by omega)]
    ·rw [if_neg h2,if_neg (by omega)]
  rw [e3,show(i:Int)-1=(x.length:Int)-1-((j+1:Nat):Int) by omega]
  rfl
 ·have e:decide ((0:Int)<=(x.length:Int)-1-(x.length:Int))=false:=dF (by omega)
  have e4:((List.range x.length).map fun e=>if x.length<=e+x.length then dig x k e else 0)=D8 x k:=List.map_congr_left fun e _=>if_pos (by omega)
  simp only [e,cond_false,e4]
theorem p98{x:List Int}(h:Few x)(hz: ∀i,i<x.length->x.getD i 0≠0){k:Nat}(hk:k<=1000000000000):G98 (x,(k:Int))=some (D8 x k):=by
 have hl:=h.l;unfold G98;have hG:(0:Int)<=(x.length:Int)/\((x.length:Int)<=(x.length:Int)/\((8:Int)*(x.length:Int)<=(281474976710656:Int)/\(x.length:Int)<=(9223372036854775807:Int))):=by omega
 simp only;rw [if_pos hG,tNC];exact Aa (WE h hz hk rfl) rfl
theorem p110{x:List Int}(h:Few x):G110 x=some true:=by
 have hl:=h.l;unfold G110;refine Ut (n:=x.length) (p:=fun _=>true) (bad:=fun r:Bool=>r=false) (id:=0) (Post:=fun b (o:Option Bool)=>b=true->o=some true) (fun i hi=>?_) ?_ (fun _=>rfl) (fun r hr h=>by cases h) (aET.2 fun _ _=>rfl)
 ·obtain⟨g1,g2⟩:=h.get hi
  have e:G140 (x.getD i 0)=some true:=Aa (a:=G69 (x.getD i 0,((0:Int),(256:Int)))) (p69 _ _ _) (by rw [dT g1,dT (show x.getD i 0<=256 by omega)];rfl)
  simp only [Ak,hi,decide_true,cond_true,Ab hi,and_self,if_true,tNC,e,Option.bind_some];rw [Ap (by omega) (by omega)]
  exact Cz rfl
 ·simp only [Ak,Nat.lt_irrefl,decide_false,cond_false]
theorem p77{x:List Int}(h:Few x)(hz: ∀i,i<x.length->x.getD i 0≠0){k:Nat}(hk:k<Go.Ve.D.prd x):G77 (x,(k:Int))=some (D8 x k,0):=by
 have hl:=h.l;have hp:=h.prd x.length;rw [List.take_length]at hp;have hG:(0:Int)<=(x.length:Int)/\((x.length:Int)<=(x.length:Int)/\((8:Int)*(x.length:Int)<=(281474976710656:Int)/\(x.length:Int)<=(9223372036854775807:Int))):=by omega
 refine Aa (a:=G110 x) (p110 h) ?_;refine Aa (a:=G111 x) (p111 h) ?_;have n1: ¬ ((1000000000000:Int)<((Go.Ve.D.prd x:Nat):Int)):=by omega
 simp only [dF n1,cond_false];rw [Bx (by omega) (by omega)]
 refine Aa (p69 _ _ _) ?_;rw [dT (show(0:Int)<=(k:Int) by omega),dT (show(k:Int)<=((Go.Ve.D.prd x:Nat):Int)-1 by omega)]
 simp only [Bool.and_self,Bool.not_true,cond_false];rw [if_pos hG,tNC];exact Aa (WE h hz (by omega) rfl) rfl
end
end Go.Ve.D


namespace Go.Ve.D
open Go Go.Ve
noncomputable section
theorem K6{x:List Int}{k:Nat}:(D8 x k).length=x.length:=by simp [D8]
theorem Xf{x:List Int}{k e:Nat}(he:e<x.length):(D8 x k).getD e 0=dig x k e:=by
 unfold D8;rw [gDE,List.getElem?_map,List.getElem?_range he];rfl
theorem Y4{x:List Int}(h:Few x){k e:Nat}(he:e<x.length)(hz:x.getD e 0≠0):0<=dig x k e/\dig x k e<x.getD e 0:=by
 obtain⟨g1,g2⟩:=h.get he;unfold dig;have:=Nat.mod_lt (nmN x k (x.length-1-e)) (show 0<(x.getD e 0).toNat by omega)
 omega
theorem KE{x:List Int}{k:Nat}(hk:k<Go.Ve.D.prd x): ∀i,i<x.length->x.getD i 0≠0:=fun i hi e=>by
 rw [Ps hi e]at hk;omega
end
end Go.Ve.D


namespace Go.Ve.D
open Go Go.Ve
noncomputable section
theorem VW{x y:List Int}(h:x.length=y.length):decide (x=y)=(List.range x.length).all fun i=>decide (x.getD i 0=y.getD i 0):=by
 rw [Bool.eq_iff_iff,decide_eq_true_eq,aET];constructor
 ·rintro rfl i _
  exact dT rfl
 ·intro H
  refine List.ext_getElem h fun i h1 h2=>?_
  have:=of_decide_eq_true (H i (List.mem_range.2 h1));simpa [h1,h2]using this
theorem p133{x y:List Int}(hx:x.length<=1048576):G133 (x,y)=some (decide (x=y)):=by
 unfold G133;cases hl:decide ((x.length:Int)=(y.length:Int))with
 |false=>
  have hl:=of_decide_eq_false hl;have:decide (x=y)=false:=dF fun h=>hl (by rw [h])
  rw [this];rfl
 |true=>
  have hl:=of_decide_eq_true hl;have hl:x.length=y.length:=by omega
  rw [VW hl];simp only [Bool.not_true,cond_false];refine Ut (n:=x.length) (p:=fun i=>decide (x.getD i 0=y.getD i 0)) (bad:=fun r:Bool=>r=false) (id:=0) (Post:=fun b (o:Option Bool)=>o=some b) (fun i hi=>?_) ?_ rfl (fun r hr=>by rw [hr])
  ·have hy:i<y.length:=by omega
   simp only [Ak,hi,decide_true,cond_true,Ab hi,Ab hy,and_self,if_true,tNC];rw [Ap (by omega) (by omega)]
   cases decide (x.getD i 0=y.getD i 0)with
   |true=>exact Cz rfl
   |false=>exact Ds ⟨_,rfl,rfl⟩
  ·simp only [Ak,Nat.lt_irrefl,decide_false,cond_false]
theorem Yq{x y:List Int}{n:Nat}(h:(List.range n).all (fun i=>decide (x.getD i 0=y.getD i 0))=false):decide (x=y)=false:=by
 cases hd:decide (x=y)with
 |false=>rfl
 |true=>
  rw [of_decide_eq_true hd]at h;have:(List.range n).all (fun i=>decide (y.getD i 0=y.getD i 0))=true:=aET.2 fun i _=>dT rfl
  rw [this]at h;cases h
theorem p151{x y:List Int}(hx:x.length<=1048576)(hy:y.length<=1048576):G151 (x,y)=some (decide (x=y)):=by
 have key: ∃r,G159 (x,y)=some r/\decide (r=0)=decide (x=y):=by
  unfold G159
  have step: ∀i,i<x.length->i<y.length->∀F:Int->Option (LO Int Int),F=(fun(v0:Int)=>(bif(decide (v0<((x.length:Nat):Int)))then(bif(decide (v0=((y.length:Nat):Int)))then(AM (some (1:Int)))else(if(((0:Int)<=v0)/\(v0<((x.length:Nat):Int)))then(if(((0:Int)<=v0)/\(v0<((y.length:Nat):Int)))then(bif(!decide ((x.getD (v0).toNat (0:Int))=(y.getD (v0).toNat (0:Int))))then(if(((0:Int)<=v0)/\(v0<((x.length:Nat):Int)))then(if(((0:Int)<=v0)/\(v0<((y.length:Nat):Int)))then(bif(decide ((x.getD (v0).toNat (0:Int))<(y.getD (v0).toNat (0:Int))))then(AM (some (-(1:Int))))else(AM (some (1:Int))))else none)else none)else(some (LO.next (IntKind.wrap .i64 (v0+(1:Int))))))else none)else none))else(some (LO.brk 0 v0))))->
    (decide (x.getD i 0=y.getD i 0)=true->F (i:Int)=some (.next ((i+1:Nat):Int)))/\(decide (x.getD i 0=y.getD i 0)=false->∃r,F (i:Int)=some (.ret r)/\decide (r=0)=false):=by
   rintro i h1 h2 F rfl
   have e1:decide ((i:Int)=(y.length:Int))=false:=dF (by omega)
   simp only [Ak,h1,decide_true,cond_true,Ab h1,and_self,if_true,tNC,e1,cond_false,Ab h2];rw [Ap (by omega) (by omega)]
   cases decide (x.getD i 0=y.getD i 0)with
   |true=>exact⟨fun _=>rfl,(fun h=>by cases h)⟩
   |false=>
    refine⟨(fun h=>by cases h),fun _=>?_⟩
    simp only [Bool.not_false,cond_true];cases decide (x.getD i 0<y.getD i 0)<;>exact⟨_,rfl,rfl⟩
  by_cases hl:x.length<=y.length
  ·refine Bh (st:=fun i:Nat=>(i:Int)) (n:=x.length) (p:=fun i=>decide (x.getD i 0=y.getD i 0)) (Q:=fun r:Int=>decide (r=0)=false) (o:=.brk 0 (x.length:Int)) (Post:=fun o:Option Int=>∃r,o=some r/\decide (r=0)=decide (x=y)) (fun i hi=>step i hi (by omega) _ rfl) ?_ (fun y=>by simp) (fun hall=>?_) (fun hall r hr=>⟨r,rfl,by rw [hr,Yq hall]⟩)
   ·simp only [Ak,Nat.lt_irrefl,decide_false,cond_false]
   ·show ∃r,(if 0=0 then _ else none)=some r/\_
    rw [if_pos rfl];simp only [Ak];by_cases h2:x.length<y.length
    ·have:decide (x=y)=false:=dF fun h=>by rw [h]at h2;omega
     simp only [h2,decide_true,cond_true,this];exact⟨_,rfl,rfl⟩
    ·have:decide (x=y)=true:=by rw [VW (by omega)];exact hall
     simp only [h2,decide_false,cond_false,this];exact⟨_,rfl,rfl⟩
  ·have hne:decide (x=y)=false:=dF fun h=>hl (by rw [h];exact Nat.le_refl _)
   have hyx:y.length<x.length:=by omega
   refine Bh (st:=fun i:Nat=>(i:Int)) (n:=y.length) (p:=fun i=>decide (x.getD i 0=y.getD i 0)) (Q:=fun r:Int=>decide (r=0)=false) (o:=.ret 1) (Post:=fun o:Option Int=>∃r,o=some r/\decide (r=0)=decide (x=y)) (fun i hi=>step i (by omega) hi _ rfl) ?_ (fun y=>by simp) (fun hall=>?_) (fun hall r hr=>⟨r,rfl,by rw [hr,hne]⟩)
   ·simp only [Ak,hyx,decide_true,cond_true]
    rfl
   ·exact⟨1,rfl,by rw [hne];rfl⟩
 obtain⟨r,hr,he⟩:=key;unfold G151;simp only [hr,Option.bind_some,he]
theorem PK{x y:List (List Int)}(h:x.length=y.length):decide (x=y)=(List.range x.length).all fun i=>decide (x.getD i []=y.getD i []):=by
 rw [Bool.eq_iff_iff,decide_eq_true_eq,aET];constructor
 ·rintro rfl i _
  exact dT rfl
 ·intro H
  refine List.ext_getElem h fun i h1 h2=>?_
  have:=of_decide_eq_true (H i (List.mem_range.2 h1));simpa [h1,h2]using this
theorem getL{x:List (List Int)}{n:Nat}(hx: ∀y∈x,y.length<=n)(i:Nat):(x.getD i []).length<=n:=by
 by_cases hi:i<x.length
 ·exact hx _ (As _ hi)
 ·rw [gDE,List.getElem?_eq_none (by omega)];exact Nat.zero_le _
theorem p147{x y:List (List Int)}(hl:x.length<=1048576)(hx: ∀z∈x,z.length<=1048576):G147 (x,y)=some (decide (x=y)):=by
 unfold G147;cases hh:decide ((x.length:Int)=(y.length:Int))with
 |false=>
  have hh:=of_decide_eq_false hh;have:decide (x=y)=false:=dF fun h=>hh (by rw [h])
  rw [this];rfl
 |true=>
  have hh:=of_decide_eq_true hh;have hh:x.length=y.length:=by omega
  rw [PK hh];simp only [Bool.not_true,cond_false];refine Ut (n:=x.length) (p:=fun i=>decide (x.getD i []=y.getD i [])) (bad:=fun r:Bool=>r=false) (id:=0) (Post:=fun b (o:Option Bool)=>o=some b) (fun i hi=>?_) ?_ rfl (fun r hr=>by rw [hr])
  ·have hy:i<y.length:=by omega
   simp only [Ak,hi,decide_true,cond_true,Ab hi,Ab hy,and_self,if_true,tNC,p133 (getL hx i),Option.bind_some];rw [Ap (by omega) (by omega)]
   cases decide (x.getD i []=y.getD i [])with
   |true=>exact Cz rfl
   |false=>exact Ds ⟨_,rfl,rfl⟩
  ·simp only [Ak,Nat.lt_irrefl,decide_false,cond_false]
theorem Y9(c d:Cat):decide (c=d)=(decide (c.1=d.1)&&(decide (c.2.1=d.2.1)&&(decide (c.2.2.1=d.2.2.1)&&(decide (c.2.2.2.1=d.2.2.2.1)&&decide (c.2.2.2.2=d.2.2.2.2))))):=by
 obtain⟨c1,c2,c3,c4,c5⟩:=c;obtain⟨d1,d2,d3,d4,d5⟩:=d;rw [Bool.eq_iff_iff];simp only [decide_eq_true_eq,bAE,Prod.mk.injEq]
theorem p129{c d:Cat}(hc:okC c):G129 (c,d)=some (decide (c=d)):=by
 obtain⟨h1,h2,h3,h4,h5⟩:=hc;unfold G129;rw [Y9];simp only [p133 h1,p133 h2,p133 h3,p147 h4 h5,Option.bind_some];cases decide (c.1=d.1)<;>cases decide (c.2.1=d.2.1)<;>cases decide (c.2.2.1=d.2.2.1)<;>cases decide (c.2.2.2.1=d.2.2.2.1)<;>rfl
theorem p135{c d:Cat}(hc:okC c)(hd:okC d):G135 (c,d)=some (decide (c=d)):=by
 obtain⟨h1,h2,h3,h4,h5⟩:=hc;obtain⟨g1,g2,g3,g4,g5⟩:=hd;unfold G135;rw [Y9];simp only [p151 h1 g1,p151 h2 g2,p151 h3 g3,Option.bind_some];cases decide (c.1=d.1)with
 |false=>rfl
 |true=>
 cases decide (c.2.1=d.2.1)with
 |false=>rfl
 |true=>
 cases decide (c.2.2.1=d.2.2.1)with
 |false=>rfl
 |true=>
 cases decide (c.2.2.2.1=d.2.2.2.1)with
 |false=>rfl
 |true=>
 simp only [Bool.not_true,cond_false,Option.bind_some,Bool.true_and];cases hh:decide ((c.2.2.2.2.length:Int)=(d.2.2.2.2.length:Int))with
 |false=>
  have hh:=of_decide_eq_false hh;have:decide (c.2.2.2.2=d.2.2.2.2)=false:=dF fun h=>hh (by rw [h])
  rw [this];rfl
 |true=>
  have hh:=of_decide_eq_true hh;have hh:c.2.2.2.2.length=d.2.2.2.2.length:=by omega
  rw [PK hh];simp only [Bool.not_true,cond_false];generalize c.2.2.2.2=x at*;generalize d.2.2.2.2=y at*;refine Ut (n:=x.length) (p:=fun i=>decide (x.getD i []=y.getD i [])) (bad:=fun r:Bool=>r=false) (id:=0) (Post:=fun b (o:Option Bool)=>o=some b) (fun i hi=>?_) ?_ rfl (fun r hr=>by rw [hr])
  ·have hy:i<y.length:=by omega
   simp only [Ak,hi,decide_true,cond_true,Ab hi,Ab hy,and_self,if_true,tNC,p151 (getL h5 i) (getL g5 i),Option.bind_some];rw [Ap (by omega) (by omega)]
   cases decide (x.getD i []=y.getD i [])with
   |true=>exact Cz rfl
   |false=>exact Ds ⟨_,rfl,rfl⟩
  ·simp only [Ak,Nat.lt_irrefl,decide_false,cond_false]
end
end Go.Ve.D

