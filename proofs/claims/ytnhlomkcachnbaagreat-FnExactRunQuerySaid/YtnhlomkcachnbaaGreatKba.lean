/- Set functors: what makes them. -/
import Derived.Test.YtnhlomkcachnbaaGreatKaa
namespace Go.Ve.D
open Go Go.Ve
theorem chk2{R S:Type}{F:Int->Option (LO Int R)}{n:Nat}{p:Nat->Bool}{Q:R->Prop}{o:LO Int R}{k:LO Int R->Option S}{Post:Bool->Option S->Prop}
  (h1: ∀i,i<n->(p i=true->F (i:Int)=some (.next ((i+1:Nat):Int)))/\(p i=false->∃r,F (i:Int)=some (.ret r)/\Q r)) (h2:F (n:Int)=some o) (ho: ∀y,o≠.next y)
  (hA:Post true (k o)) (hB: ∀r,Q r->Post false (k (.ret r))):Post ((List.range n).all p) (Option.bind (Au F (0:Int)) k):=by
 refine Bq (st:=fun i:Nat=>(i:Int)) (p:=p) (Q:=Q) (o:=o) (Post:=fun x=>Post ((List.range n).all p) x) h1 h2 ho (fun hall=>?_) (fun hall r hr=>?_)
 ·rw [hall];exact hA
 ·rw [hall];exact hB r hr
def P8{R:Type}(bad:R->Prop)(s:Int)(p:Bool)(o:Option (LO Int R)):Prop:=(p=true->o=some (.next s))/\(p=false->∃r,o=some (.ret r)/\bad r)
def lift{R:Type}(bad:R->Prop)(r:LO Int R):Prop:=∃r',r= .ret r'/\bad r'
theorem AaU{R:Type}{bad:R->Prop}{F:Int->Option (LO Int (LO Int R))}{n:Nat}{p:Nat->Bool}{id:Nat}{s:Int}{g:Nat->Int->Option (LO Int R)}
  (h1: ∀i,i<n->P8 (lift bad) ((i+1:Nat):Int) (p i) (F (i:Int))) (h2:F (n:Int)=some (.brk id (n:Int))) (hk:g id (n:Int)=some (.next s)):
  P8 bad s ((List.range n).all p) (Option.bind (Au F (0:Int)) (LO.fin g)):=by
 refine Bq (st:=fun i:Nat=>(i:Int)) (p:=p) (Q:=lift bad) (o:=.brk id (n:Int)) (Post:=fun x=>P8 bad s ((List.range n).all p) x) h1 h2 (fun y=>by simp) (fun hall=>?_) (fun hall r hr=>?_)
 ·rw [hall]
  exact⟨fun _=>hk,(fun h=>by cases h)⟩
 ·rw [hall]
  obtain⟨r',rfl,hb⟩:=hr;exact⟨(fun h=>by cases h),fun _=>⟨r',rfl,hb⟩⟩
theorem Zj{R:Type}{bad:R->Prop}{F:Int->Option (LO Int R)}{n:Nat}{p:Nat->Bool}{id:Nat}{g:Nat->Int->Option R}{Post:Bool->Option R->Prop}
  (h1: ∀i,i<n->P8 bad ((i+1:Nat):Int) (p i) (F (i:Int))) (h2:F (n:Int)=some (.brk id (n:Int))) (hA:Post true (g id (n:Int))) (hB: ∀r,bad r->Post false (some r)):
  Post ((List.range n).all p) (Option.bind (Au F (0:Int)) (LO.fin g)):=
 chk2 (Q:=bad) h1 h2 (fun y=>by simp) hA fun r hr=>hB r hr
theorem DB{R:Type}{bad:R->Prop}{s:Int}{o:Option (LO Int R)}(h:o=some (.next s)):P8 bad s true o:=⟨fun _=>h,(fun h=>by cases h)⟩
theorem HH{R:Type}{bad:R->Prop}{s:Int}{o:Option (LO Int R)}(h: ∃r,o=some (.ret r)/\bad r):P8 bad s false o:=⟨(fun h=>by cases h),fun _=>h⟩
abbrev SF:=Int×List Int×List Int×List Int×List (List Int)×List Int×List (List Int)
def shS(f:SF):Cat:=(f.1,(f.2.1,(f.2.2.1,(f.2.2.2.1,f.2.2.2.2.1))))
def szF(f:SF):List Int:=f.2.2.2.2.2.1
def acF(f:SF):List (List Int):=f.2.2.2.2.2.2
def okS(f:SF):Prop:=okC (shS f)/\(szF f).length<=1048576/\(acF f).length<=1048576/\∀y∈acF f,y.length<=1048576
def act(f:SF)(a:Nat):List Int:=(acF f).getD a []
def sz(f:SF)(x:Int):Int:=(szF f).getD x.toNat 0
def Mt(f:SF)(a:Nat):Bool:=decide (((act f a).length:Int)=sz f (fT (shS f) a))&&wi (sz f (tT (shS f) a)) (act f a)
def Wp(f:SF):Bool:=DA (shS f)&&(decide (((szF f).length:Int)=f.1)&&(decide (((acF f).length:Int)=(ar (shS f):Int))&&wi 17 (szF f)))
def DU(f:SF):Bool:=Wp f&&(List.range (acF f).length).all (Mt f)
theorem wi17(x:List Int):wi 17 x=(List.range x.length).all fun i=>decide (0<=x.getD i 0)&&decide (x.getD i 0<=16):=by
 rw [Mo (0:Int) (fun a=>decide (0<=a)&&decide (a<=16)) x]
 unfold wi
 congr 1
 funext a
 unfold inn;rw [Bool.eq_iff_iff];simp only [bAE,decide_eq_true_eq];omega
theorem sz_in{f:SF}(h1:((szF f).length:Int)=f.1)(hs:wi 17 (szF f)=true){x:Int}(hx:0<=x/\x<f.1):0<=sz f x/\sz f x<=16:=by
 obtain⟨g1,g2⟩:=Cb hs (i:=x.toNat) (by omega)
 exact⟨g1,by unfold sz;omega⟩
theorem W7{f:SF}(h:okS f){a:Nat}(ha:a<(acF f).length):(act f a).length<=1048576:=h.2.2.2 _ (by
 unfold act;rw [gDE,gEE ha];exact List.getElem_mem ha)
theorem p53{f:SF}(h:okS f):G53 f=some (DU f):=by
 have hh:=h;obtain⟨hc,hl,hal,hac⟩:=hh;unfold G53 DU Wp;have e1:(f.1,(f.2.1,(f.2.2.1,(f.2.2.2.1,f.2.2.2.2.1))))=shS f:=rfl;simp only [e1,p55 hc,Option.bind_some];cases hcat:DA (shS f)with
 |false=>rfl
 |true=>
 have hsh:=IJ hcat;have hd:=hsh.hd;obtain⟨a1,a2,a3,a4,a5,a6,a7,a8⟩:=hd;simp only [Bool.not_true,cond_false,Bool.true_and,Option.bind_some];have e2:decide (((f.2.2.2.2.2.1.length:Nat):Int)=f.1)=decide (((szF f).length:Int)=f.1):=rfl;rw [e2];cases h1:decide (((szF f).length:Int)=f.1)with
 |false=>rfl
 |true=>
 have h1:=of_decide_eq_true h1;simp only [Bool.not_true,cond_false,Bool.true_and,Option.bind_some];have e3:decide (((f.2.2.2.2.2.2.length:Nat):Int)=((f.2.1.length:Nat):Int))=decide (((acF f).length:Int)=(ar (shS f):Int)):=rfl;rw [e3];cases h2:decide (((acF f).length:Int)=(ar (shS f):Int))with
 |false=>rfl
 |true=>
 have h2:=of_decide_eq_true h2;simp only [Bool.not_true,cond_false,Bool.true_and,Option.bind_some];rw [wi17];refine Zj (n:=(szF f).length) (p:=fun i=>decide (0<=(szF f).getD i 0)&&decide ((szF f).getD i 0<=16)) (bad:=fun r:Bool=>r=false) (id:=0) (Post:=fun b (o:Option Bool)=>o=some (b&&(List.range (acF f).length).all (Mt f))) (fun i hi=>?_) ?_ ?_ (fun r hr=>by rw [hr];rfl)
 ·have hi':i<f.2.2.2.2.2.1.length:=hi
  simp only [Ag,hi',decide_true,cond_true,Ad hi',and_self,if_true,tNC,p58,Option.bind_some];rw [An (by omega) (by omega)]
  show P8 _ _ (decide (0<=f.2.2.2.2.2.1.getD i 0)&&decide (f.2.2.2.2.2.1.getD i 0<=16)) _;cases decide (0<=f.2.2.2.2.2.1.getD i 0)&&decide (f.2.2.2.2.2.1.getD i 0<=16)with
  |true=>exact DB rfl
  |false=>exact HH ⟨_,rfl,rfl⟩
 ·have e:decide ((((szF f).length:Nat):Int)<((f.2.2.2.2.2.1.length:Nat):Int))=false:=by rw [Ag];exact dF (Nat.lt_irrefl _)
  simp only [e,cond_false]
 ·show(if 0=0 then _ else none)=_
  rw [if_pos rfl,Bool.true_and];refine Zj (n:=(acF f).length) (p:=Mt f) (bad:=fun r:Bool=>r=false) (id:=2) (Post:=fun b (o:Option Bool)=>o=some b) (fun i hi=>?_) ?_ rfl (fun r hr=>by rw [hr])
  ·have hi':i<f.2.2.2.2.2.2.length:=hi
   have him:i<ar (shS f):=by omega
   have hi2:i<f.2.1.length:=him;have hi3:i<f.2.2.1.length:=by
    have:f.2.2.1.length=f.2.1.length:=a3;omega
   obtain⟨b1,b2⟩:=hsh.fr i him;obtain⟨b3,b4⟩:=hsh.to i him;have g1:(0:Int)<=f.2.1.getD i 0/\f.2.1.getD i 0<((f.2.2.2.2.2.1.length:Nat):Int):=⟨b1,by rw [show((f.2.2.2.2.2.1.length:Nat):Int)=f.1 from h1];exact b2⟩
   have g2:(0:Int)<=f.2.2.1.getD i 0/\f.2.2.1.getD i 0<((f.2.2.2.2.2.1.length:Nat):Int):=⟨b3,by rw [show((f.2.2.2.2.2.1.length:Nat):Int)=f.1 from h1];exact b4⟩
   simp only [Ag,hi',decide_true,cond_true,Ad hi',Ad hi2,Ad hi3,g1,g2,and_self,if_true,tNC];rw [An (by omega) (by omega)]
   have e4:G56 (f.2.2.2.2.2.1.getD (f.2.2.1.getD i 0).toNat 0,f.2.2.2.2.2.2.getD i [])=some (wi (sz f (tT (shS f) i)) (act f i)):=p56 (W7 h hi);rw [e4];show P8 _ _ (decide ((((f.2.2.2.2.2.2.getD i []).length:Nat):Int)=f.2.2.2.2.2.1.getD (f.2.1.getD i 0).toNat 0)&&wi (sz f (tT (shS f) i)) (act f i)) _;cases decide ((((f.2.2.2.2.2.2.getD i []).length:Nat):Int)=f.2.2.2.2.2.1.getD (f.2.1.getD i 0).toNat 0)with
   |false=>exact HH ⟨_,rfl,rfl⟩
   |true=>
    rw [Bool.true_and];cases wi (sz f (tT (shS f) i)) (act f i)with
    |true=>exact DB rfl
    |false=>exact HH ⟨_,rfl,rfl⟩
  ·have e:decide ((((acF f).length:Nat):Int)<((f.2.2.2.2.2.2.length:Nat):Int))=false:=by rw [Ag];exact dF (Nat.lt_irrefl _)
   simp only [e,cond_false]
theorem p76{x:List Int}{k n:Int}(hn:0<=n/\n<=9223372036854775807)(hx:x.length<=1048576):G76 (x,(k,n))=some (decide ((x.length:Int)=k)&&wi n x):=by
 unfold G76;simp only [p62 hn hx,Option.bind_some];cases decide (((x.length:Nat):Int)=k)<;>rfl
theorem p60{f:SF}(h:okS f):G60 f=some (DU f):=by
 have hh:=h;obtain⟨hc,hl,hal,hac⟩:=hh;unfold G60 DU Wp;have e1:(f.1,(f.2.1,(f.2.2.1,(f.2.2.2.1,f.2.2.2.2.1))))=shS f:=rfl;have ew:G62 (f.2.2.2.2.2.1,(17:Int))=some (wi 17 (szF f)):=p62 (by omega) hl
 simp only [e1,p74 hc,ew,p75,Option.bind_some];cases hcat:DA (shS f)with
 |false=>rfl
 |true=>
 have hsh:=IJ hcat;have hd:=hsh.hd;obtain⟨a1,a2,a3,a4,a5,a6,a7,a8⟩:=hd;simp only [Bool.not_true,cond_false,Bool.true_and,Option.bind_some];have e2:decide (((f.2.2.2.2.2.1.length:Nat):Int)=f.1)=decide (((szF f).length:Int)=f.1):=rfl;rw [e2];cases h1:decide (((szF f).length:Int)=f.1)with
 |false=>rfl
 |true=>
 have h1:=of_decide_eq_true h1;simp only [Bool.not_true,cond_false,Bool.true_and,Option.bind_some];have e3:decide (((f.2.2.2.2.2.2.length:Nat):Int)=(((shS f).2.1.length:Nat):Int))=decide (((acF f).length:Int)=(ar (shS f):Int)):=rfl;rw [e3];cases hw:wi 17 (szF f)with
 |false=>cases decide (((acF f).length:Int)=(ar (shS f):Int))<;>rfl
 |true=>
 simp only [Bool.not_true,cond_false,Option.bind_some];cases h2:decide (((acF f).length:Int)=(ar (shS f):Int))with
 |false=>rfl
 |true=>
 have h2:=of_decide_eq_true h2;simp only [Bool.not_true,cond_false,Bool.true_and,Option.bind_some];refine Zj (n:=(acF f).length) (p:=Mt f) (bad:=fun r:Bool=>r=false) (id:=0) (Post:=fun b (o:Option Bool)=>o=some b) (fun i hi=>?_) ?_ rfl (fun r hr=>by rw [hr])
 ·have hi':i<f.2.2.2.2.2.2.length:=hi
  have him:i<ar (shS f):=by omega
  have hi2:i<f.2.1.length:=him;have hi3:i<f.2.2.1.length:=by
   have:f.2.2.1.length=f.2.1.length:=a3;omega
  obtain⟨b1,b2⟩:=hsh.fr i him;obtain⟨b3,b4⟩:=hsh.to i him;have g1:(0:Int)<=f.2.1.getD i 0/\f.2.1.getD i 0<((f.2.2.2.2.2.1.length:Nat):Int):=⟨b1,by rw [show((f.2.2.2.2.2.1.length:Nat):Int)=f.1 from h1];exact b2⟩
  have g2:(0:Int)<=f.2.2.1.getD i 0/\f.2.2.1.getD i 0<((f.2.2.2.2.2.1.length:Nat):Int):=⟨b3,by rw [show((f.2.2.2.2.2.1.length:Nat):Int)=f.1 from h1];exact b4⟩
  simp only [Ag,hi',decide_true,cond_true,Ad hi',Ad hi2,Ad hi3,g1,g2,and_self,if_true,tNC];rw [An (by omega) (by omega)]
  obtain⟨z1,z2⟩:=sz_in h1 hw (x:=tT (shS f) i) ⟨b3,b4⟩;have e4:G76 (f.2.2.2.2.2.2.getD i [],(f.2.2.2.2.2.1.getD (f.2.1.getD i 0).toNat 0,f.2.2.2.2.2.1.getD (f.2.2.1.getD i 0).toNat 0))=some (Mt f i):=p76 (x:=act f i) (k:=sz f (fT (shS f) i)) (n:=sz f (tT (shS f) i)) ⟨z1,by omega⟩ (W7 h hi)
  rw [e4,Option.bind_some];cases Mt f i with
  |true=>exact DB rfl
  |false=>exact HH ⟨_,rfl,rfl⟩
 ·have e:decide ((((acF f).length:Nat):Int)<((f.2.2.2.2.2.2.length:Nat):Int))=false:=by rw [Ag];exact dF (Nat.lt_irrefl _)
  simp only [e,cond_false]
structure FS(f:SF):Prop where
 cat:DA (shS f)=true
 sh:Sh (shS f)
 sp:DS (shS f)=true
 l1:((szF f).length:Int)=f.1
 l2:(acF f).length=ar (shS f)
 w:wi 17 (szF f)=true
 al: ∀a,a<ar (shS f)->((act f a).length:Int)=sz f (fT (shS f) a)
 aw: ∀a,a<ar (shS f)->wi (sz f (tT (shS f) a)) (act f a)=true
theorem Aax{f:SF}(h:DU f=true):FS f:=by
 unfold DU Wp at h;simp only [bAE,decide_eq_true_eq]at h;obtain⟨⟨h1,h2,h3,h4⟩,h5⟩:=h;have h3:(acF f).length=ar (shS f):=by omega
 have ha: ∀a,a<ar (shS f)->Mt f a=true:=fun a ha=>aET.1 h5 a (List.mem_range.2 (by omega))
 refine⟨h1,IJ h1,?_,h2,h3,h4,fun a hl=>?_,fun a hl=>?_⟩
 ·unfold DA at h1
  rw [bAE]at h1;exact h1.1
 ·have:=ha a hl
  unfold Mt at this;rw [bAE,decide_eq_true_eq]at this;exact this.1
 ·have:=ha a hl
  unfold Mt at this;rw [bAE]at this;exact this.2
theorem FS.szi{f:SF}(h:FS f){x:Int}(hx:0<=x/\x<f.1):0<=sz f x/\sz f x<=16:=sz_in h.l1 h.w hx
def idAt(f:SF)(x:Nat):Int:=f.2.2.2.1.getD x 0
theorem FS.ida{f:SF}(h:FS f){x:Nat}(hx:x<f.2.2.2.1.length): ∃a:Nat,a<ar (shS f)/\idAt f x=(a:Int)/\fT (shS f) a=(x:Int):=by
 have hs:=h.sp;unfold DS at hs;rw [bAE,bAE]at hs;have hi:=aET.1 hs.2.1 x (List.mem_range.2 hx);unfold Wo at hi;rw [bAE,decide_eq_true_eq,decide_eq_true_eq]at hi;obtain⟨a1,a2,a3,a4,a5,a6,a7,a8⟩:=h.sh.hd;obtain⟨g1,g2⟩:=Cb a8 hx;have g1:0<=idAt f x:=g1;have g2:idAt f x<(ar (shS f):Int):=g2;refine⟨(idAt f x).toNat,by omega,by omega,hi.1⟩
def OU(f:SF)(x e:Nat):Bool:=decide ((act f (idAt f x).toNat).getD e 0=(e:Int))
def idS(f:SF):Bool:=(List.range f.2.2.2.1.length).all fun x=>(List.range (sz f (x:Int)).toNat).all (OU f x)
def WJ(f:SF)(a b e:Nat):Bool:=decide ((act f (T (shS f) a b).toNat).getD e 0=(act f b).getD ((act f a).getD e 0).toNat 0)
def coB(f:SF)(a b:Nat):Bool:=!mt (shS f) a b||(List.range (sz f (fT (shS f) a)).toNat).all (WJ f a b)
def coS(f:SF):Bool:=(List.range (ar (shS f))).all fun a=>(List.range (ar (shS f))).all (coB f a)
abbrev R4:=Int×Int×Int×Int
def Xl(r:R4):Prop:=decide (r.1=0)=false
theorem FS.el{f:SF}(h:FS f){a b e:Nat}(ha:a<ar (shS f))(hb:b<ar (shS f))(hm:mt (shS f) a b=true)(he:e<(act f a).length): ∃t:Nat,t<ar (shS f)/\T (shS f) a b=(t:Int)/\e<(act f t).length/\∃d:Nat,(act f a).getD e 0=(d:Int)/\d<(act f b).length:=by
 obtain⟨t1,t2,t3,t4⟩:=h.sh.pos a b ha hb hm;have t2:T (shS f) a b<(ar (shS f):Int):=t2;have ht:(T (shS f) a b).toNat<ar (shS f):=by omega
 refine⟨(T (shS f) a b).toNat,ht,by omega,?_,?_⟩
 ·have e1:=h.al a ha
  have e2:=h.al _ ht;have e3:fT (shS f) (T (shS f) a b).toNat=fT (shS f) a:=t3;rw [e3]at e2;omega
 ·obtain⟨g1,g2⟩:=Cb (h.aw a ha) he
  have e1:=h.al b hb;have e2:tT (shS f) a=fT (shS f) b:=of_decide_eq_true hm;rw [e2]at g2;exact⟨((act f a).getD e 0).toNat,by omega,by omega⟩
theorem p54{f:SF}(h:FS f): ∃r,G54 f=some r/\decide (r.1=0)=(idS f&&coS f):=by
 obtain⟨a1,a2,a3,a4,a5,a6,a7,a8⟩:=h.sh.hd;have l1:((f.2.2.2.2.2.1.length:Nat):Int)=f.1:=h.l1;have l2:f.2.2.2.2.2.2.length=ar (shS f):=h.l2;have c4:((f.2.2.2.1.length:Nat):Int)=f.1:=a7;have hf1:f.1<=8:=a1.2;have hm:ar (shS f)<=40:=a2;unfold G54 idS;refine Zj (n:=f.2.2.2.1.length) (p:=fun x=>(List.range (sz f (x:Int)).toNat).all (OU f x)) (bad:=Xl) (id:=0) (Post:=fun b (o:Option R4)=>∃r,o=some r/\decide (r.1=0)=(b&&coS f)) (fun x hx=>?_) ?_ ?_ (fun r hr=>⟨r,rfl,hr⟩)
 ·have hxf:decide ((x:Int)<f.1)=true:=dT (by omega)
  simp only [hxf,cond_true];have hz:=h.szi (x:=(x:Int)) ⟨by omega,by omega⟩
  obtain⟨n,hn⟩: ∃n:Nat,sz f (x:Int)=(n:Int):=⟨(sz f (x:Int)).toNat,by omega⟩
  rw [hn,tNC];refine AaU (n:=n) (p:=OU f x) (bad:=Xl) (id:=2) (s:=((x+1:Nat):Int)) (fun e he=>?_) ?_ ?_
  ·obtain⟨a,ha,ea,ef⟩:=h.ida hx
   have hxl:x<f.2.2.2.2.2.1.length:=by omega
   have ea':f.2.2.2.1.getD x 0=(a:Int):=ea;have hal:a<f.2.2.2.2.2.2.length:=by omega
   have hn':f.2.2.2.2.2.1.getD x 0=(n:Int):=hn
   have hel:e<(act f a).length:=by
    have:=h.al a ha;rw [ef,hn]at this;omega
   have hel':e<(f.2.2.2.2.2.2.getD a []).length:=hel;simp only [Ad hxl,Ad hx,and_self,if_true,tNC,hn',Ag,he,decide_true,cond_true,ea',Ad hal,Ad hel'];rw [An (by omega) (by omega)]
   unfold OU;rw [ea,tNC];show P8 _ _ (decide ((f.2.2.2.2.2.2.getD a []).getD e 0=(e:Int))) _;cases decide ((f.2.2.2.2.2.2.getD a []).getD e 0=(e:Int))with
   |true=>exact DB rfl
   |false=>exact HH ⟨_,rfl,_,rfl,rfl⟩
  ·have hxl:x<f.2.2.2.2.2.1.length:=by omega
   have hn':f.2.2.2.2.2.1.getD x 0=(n:Int):=hn;simp only [Ad hxl,and_self,if_true,tNC,hn',Ag,Nat.lt_irrefl,decide_false,cond_false]
  ·show(if 2=2 then _ else none)=_
   rw [if_pos rfl,An (by omega) (by omega)];rfl
 ·have e:decide (((f.2.2.2.1.length:Nat):Int)<f.1)=false:=dF (by omega)
  simp only [e,cond_false]
 ·show ∃r,(if 0=0 then _ else none)=some r/\_
  rw [if_pos rfl,Bool.true_and];unfold coS;refine Zj (n:=ar (shS f)) (p:=fun a=>(List.range (ar (shS f))).all (coB f a)) (bad:=Xl) (id:=4) (Post:=fun b (o:Option R4)=>∃r,o=some r/\decide (r.1=0)=b) (fun a ha=>?_) ?_ ⟨_,rfl,rfl⟩ (fun r hr=>⟨r,rfl,hr⟩)
  ·have ha2:a<f.2.1.length:=ha
   have ha3:a<f.2.2.1.length:=by
    have:f.2.2.1.length=f.2.1.length:=a3;omega
   simp only [Ag,ha2,decide_true,cond_true];refine AaU (n:=ar (shS f)) (p:=coB f a) (bad:=Xl) (id:=6) (s:=((a+1:Nat):Int)) (fun b hb=>?_) ?_ ?_
   ·have hb2:b<f.2.1.length:=hb
    simp only [Ag,hb2,decide_true,cond_true,Ad ha3,Ad hb2,and_self,if_true,tNC];unfold coB;show P8 _ _ (!decide (f.2.2.1.getD a 0=f.2.1.getD b 0)||_) _;cases hm:decide (f.2.2.1.getD a 0=f.2.1.getD b 0)with
    |false=>
     refine DB ?_;rw [Bool.not_false,cond_true,An (by omega) (by omega)];rfl
    |true=>
     have hm:mt (shS f) a b=true:=hm;rw [Bool.not_true,cond_false,Bool.false_or];obtain⟨f1,f2⟩:=h.sh.fr a ha;obtain⟨z1,z2⟩:=h.szi (x:=fT (shS f) a) ⟨f1,f2⟩;have hal:=h.al a ha;obtain⟨n,hn⟩: ∃n:Nat,sz f (fT (shS f) a)=(n:Int):=⟨(sz f (fT (shS f) a)).toNat,by omega⟩
     rw [hn,tNC];have hg:(0:Int)<=f.2.1.getD a 0/\f.2.1.getD a 0<((f.2.2.2.2.2.1.length:Nat):Int):=⟨f1,by rw [l1];exact f2⟩
     have hn':f.2.2.2.2.2.1.getD (f.2.1.getD a 0).toNat 0=(n:Int):=hn;refine AaU (n:=n) (p:=WJ f a b) (bad:=lift Xl) (id:=8) (s:=((b+1:Nat):Int)) (fun e he=>?_) ?_ ?_
     ·have he':e<(act f a).length:=by omega
      obtain⟨t,ht,et,hel,d,ed,hd⟩:=h.el ha hb hm he';have r1:a<f.2.2.2.2.1.length:=by
       have:f.2.2.2.2.1.length=f.2.1.length:=a6;omega
      have r2:b<(f.2.2.2.2.1.getD a []).length:=by
       have:(f.2.2.2.2.1.getD a []).length=f.2.1.length:=h.sh.row a ha;omega
      have et':(f.2.2.2.2.1.getD a []).getD b 0=(t:Int):=et;have ed':(f.2.2.2.2.2.2.getD a []).getD e 0=(d:Int):=ed;have q1:t<f.2.2.2.2.2.2.length:=by omega
      have q2:e<(f.2.2.2.2.2.2.getD t []).length:=hel;have q3:b<f.2.2.2.2.2.2.length:=by omega
      have q4:a<f.2.2.2.2.2.2.length:=by omega
      have q5:e<(f.2.2.2.2.2.2.getD a []).length:=he';have q6:d<(f.2.2.2.2.2.2.getD b []).length:=hd;simp only [Ad ha2,hg,hn',Ag,he,decide_true,cond_true,Ad r1,Ad r2,et',Ad q1,Ad q2,Ad q3,Ad q4,Ad q5,ed',Ad q6,and_self,if_true,tNC];rw [An (by omega) (by omega)]
      unfold WJ;rw [et,ed,tNC,tNC];show P8 _ _ (decide ((f.2.2.2.2.2.2.getD t []).getD e 0=(f.2.2.2.2.2.2.getD b []).getD d 0)) _;cases decide ((f.2.2.2.2.2.2.getD t []).getD e 0=(f.2.2.2.2.2.2.getD b []).getD d 0)with
      |true=>exact DB rfl
      |false=>exact HH ⟨_,rfl,_,rfl,_,rfl,rfl⟩
     ·simp only [Ad ha2,hg,hn',Ag,Nat.lt_irrefl,decide_false,cond_false,and_self,if_true,tNC]
     ·show(if 8=8 then _ else none)=_
      rw [if_pos rfl,An (by omega) (by omega)];rfl
   ·have e:decide (((ar (shS f):Nat):Int)<((f.2.1.length:Nat):Int))=false:=by rw [Ag];exact dF (Nat.lt_irrefl _)
    simp only [e,cond_false]
   ·show(if 6=6 then _ else none)=_
    rw [if_pos rfl,An (by omega) (by omega)];rfl
  ·have e:decide (((ar (shS f):Nat):Int)<((f.2.1.length:Nat):Int))=false:=by rw [Ag];exact dF (Nat.lt_irrefl _)
   simp only [e,cond_false]
end Go.Ve.D


namespace Go.Ve.D
open Go Go.Ve
theorem p61{f:SF}(h:FS f): ∃r,G61 f=some r/\decide (r.1=0)=(idS f&&coS f):=by
 obtain⟨a1,a2,a3,a4,a5,a6,a7,a8⟩:=h.sh.hd;have l1:((f.2.2.2.2.2.1.length:Nat):Int)=f.1:=h.l1;have l2:f.2.2.2.2.2.2.length=ar (shS f):=h.l2;have c4:((f.2.2.2.1.length:Nat):Int)=f.1:=a7;have c5:f.2.2.2.2.1.length=ar (shS f):=a6;have hf1:f.1<=8:=a1.2;have hm:ar (shS f)<=40:=a2;unfold G61 idS;refine Zj (n:=f.2.2.2.1.length) (p:=fun x=>(List.range (sz f (x:Int)).toNat).all (OU f x)) (bad:=Xl) (id:=0) (Post:=fun b (o:Option R4)=>∃r,o=some r/\decide (r.1=0)=(b&&coS f)) (fun x hx=>?_) ?_ ?_ (fun r hr=>⟨r,rfl,hr⟩)
 ·have hz:=h.szi (x:=(x:Int)) ⟨by omega,by omega⟩
  obtain⟨n,hn⟩: ∃n:Nat,sz f (x:Int)=(n:Int):=⟨(sz f (x:Int)).toNat,by omega⟩
  obtain⟨a,ha,ea,ef⟩:=h.ida hx;have ea':f.2.2.2.1.getD x 0=(a:Int):=ea;have hal:a<f.2.2.2.2.2.2.length:=by omega
  have hel:(act f a).length=n:=by
   have:=h.al a ha;rw [ef,hn]at this;omega
  have hel':(f.2.2.2.2.2.2.getD a []).length=n:=hel;simp only [Ag,hx,decide_true,cond_true,Ad hx,ea',Ad hal,and_self,if_true,tNC,hel'];rw [hn,tNC];refine AaU (n:=n) (p:=OU f x) (bad:=Xl) (id:=2) (s:=((x+1:Nat):Int)) (fun e he=>?_) ?_ ?_
  ·simp only [he,decide_true,cond_true,Ad he,and_self,if_true,tNC]
   rw [An (by omega) (by omega)]
   unfold OU;rw [ea,tNC];show P8 _ _ (decide ((f.2.2.2.2.2.2.getD a []).getD e 0=(e:Int))) _;cases decide ((f.2.2.2.2.2.2.getD a []).getD e 0=(e:Int))with
   |true=>exact DB rfl
   |false=>exact HH ⟨_,rfl,_,rfl,rfl⟩
  ·simp only [Ag,Nat.lt_irrefl,decide_false,cond_false]
  ·show(if 2=2 then _ else none)=_
   rw [if_pos rfl,An (by omega) (by omega)];rfl
 ·have e:decide (((f.2.2.2.1.length:Nat):Int)<((f.2.2.2.1.length:Nat):Int))=false:=by rw [Ag];exact dF (Nat.lt_irrefl _)
  simp only [e,cond_false]
 ·show ∃r,(if 0=0 then _ else none)=some r/\_
  rw [if_pos rfl,Bool.true_and];unfold coS;refine Zj (n:=ar (shS f)) (p:=fun a=>(List.range (ar (shS f))).all (coB f a)) (bad:=Xl) (id:=4) (Post:=fun b (o:Option R4)=>∃r,o=some r/\decide (r.1=0)=b) (fun a ha=>?_) ?_ ⟨_,rfl,rfl⟩ (fun r hr=>⟨r,rfl,hr⟩)
  ·have r1:a<f.2.2.2.2.1.length:=by omega
   have er:(f.2.2.2.2.1.getD a []).length=ar (shS f):=h.sh.row a ha;have q4:a<f.2.2.2.2.2.2.length:=by omega
   simp only [Ag,r1,decide_true,cond_true,Ad r1,and_self,if_true,tNC,er];refine AaU (n:=ar (shS f)) (p:=coB f a) (bad:=Xl) (id:=6) (s:=((a+1:Nat):Int)) (fun b hb=>?_) ?_ ?_
   ·simp only [hb,decide_true,cond_true,Ad hb,and_self,if_true,tNC]
    unfold coB;cases hmt:mt (shS f) a b with
    |false=>
     have e:(f.2.2.2.2.1.getD a []).getD b 0= -1:=h.sh.neg a b ha hb hmt;have e0:decide ((f.2.2.2.2.1.getD a []).getD b 0<0)=true:=dT (by omega)
     refine DB ?_;simp only [e0,cond_true];rw [An (by omega) (by omega)];rfl
    |true=>
     obtain⟨t1,t2,_⟩:=h.sh.pos a b ha hb hmt;obtain⟨t,et⟩: ∃t:Nat,T (shS f) a b=(t:Int):=⟨(T (shS f) a b).toNat,by omega⟩
     have et':(f.2.2.2.2.1.getD a []).getD b 0=(t:Int):=et;have e0:decide ((t:Int)<0)=false:=dF (by omega)
     obtain⟨f1,f2⟩:=h.sh.fr a ha;obtain⟨z1,z2⟩:=h.szi (x:=fT (shS f) a) ⟨f1,f2⟩;have hal:=h.al a ha;obtain⟨n,hn⟩: ∃n:Nat,sz f (fT (shS f) a)=(n:Int):=⟨(sz f (fT (shS f) a)).toNat,by omega⟩
     have hel:(act f a).length=n:=by omega
     have hel':(f.2.2.2.2.2.2.getD a []).length=n:=hel;rw [Bool.not_true,Bool.false_or,hn,tNC];simp only [et',e0,cond_false,Ad q4,and_self,if_true,hel',tNC];refine AaU (n:=n) (p:=WJ f a b) (bad:=lift Xl) (id:=8) (s:=((b+1:Nat):Int)) (fun e he=>?_) ?_ ?_
     ·have he':e<(act f a).length:=by omega
      obtain⟨t',ht,et2,hl,d,ed,hd⟩:=h.el ha hb hmt he';have e3:t'=t:=by omega
      rw [e3]at ht hl;have ed':(f.2.2.2.2.2.2.getD a []).getD e 0=(d:Int):=ed;have q1:t<f.2.2.2.2.2.2.length:=by omega
      have q2:e<(f.2.2.2.2.2.2.getD t []).length:=hl;have q3:b<f.2.2.2.2.2.2.length:=by omega
      have q6:d<(f.2.2.2.2.2.2.getD b []).length:=hd;simp only [Ag,he,decide_true,cond_true,Ad he,Ad q1,Ad q2,Ad q3,ed',Ad q6,and_self,if_true,tNC];rw [An (by omega) (by omega)]
      unfold WJ;rw [et,ed,tNC,tNC];show P8 _ _ (decide ((f.2.2.2.2.2.2.getD t []).getD e 0=(f.2.2.2.2.2.2.getD b []).getD d 0)) _;cases decide ((f.2.2.2.2.2.2.getD t []).getD e 0=(f.2.2.2.2.2.2.getD b []).getD d 0)with
      |true=>exact DB rfl
      |false=>exact HH ⟨_,rfl,_,rfl,_,rfl,rfl⟩
     ·simp only [Ag,Nat.lt_irrefl,decide_false,cond_false]
     ·show(if 8=8 then _ else none)=_
      rw [if_pos rfl,An (by omega) (by omega)];rfl
   ·simp only [Ag,Nat.lt_irrefl,decide_false,cond_false]
   ·show(if 6=6 then _ else none)=_
    rw [if_pos rfl,An (by omega) (by omega)];rfl
  ·have e:decide (((ar (shS f):Nat):Int)<((f.2.2.2.2.1.length:Nat):Int))=false:=by rw [Ag];exact dF (by omega)
   simp only [e,cond_false]
def UP(f:SF):Bool:=DU f&&(idS f&&coS f)
theorem p37{f:SF}(h:okS f):G37 f=some (UP f):=by
 unfold G37 UP;have e:=p53 h;simp only [Prod.eta,e,Option.bind_some];cases hs:DU f with
 |false=>rfl
 |true=>
  obtain⟨r,h1,h2⟩:=p54 (Aax hs);simp only [Bool.not_true,cond_false,h1,Option.bind_some,Bool.true_and,h2]
theorem p46{f:SF}(h:okS f):G46 f=some (UP f):=by
 unfold G46 UP;have e:=p60 h;simp only [Prod.eta,e,Option.bind_some];cases hs:DU f with
 |false=>rfl
 |true=>
  obtain⟨r,h1,h2⟩:=p61 (Aax hs);simp only [Bool.not_true,cond_false,h1,Option.bind_some,Bool.true_and,h2]
theorem L8{f:SF}(h:UP f=true):FS f:=by
 unfold UP at h;rw [bAE]at h;exact Aax h.1
end Go.Ve.D

