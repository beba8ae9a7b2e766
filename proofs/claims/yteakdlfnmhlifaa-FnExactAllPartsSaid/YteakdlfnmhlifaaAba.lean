/- Set functors: what makes them. -/
import Derived.Test.YteakdlfnmhlifaaAaa
open List(range)
open Option(bind_some)
open Nat(lt_irrefl)
set_option linter.all false
namespace Go.Ve.D
open Go Go.Ve
variable{s x:Int}{a:Nat}{R:Type}
theorem chk2{S:Type}{F:Int->Option (LO Int R)}{n:Nat}{p:Nat->Bool}{Q:R->Prop}{o:LO Int R}{k:LO Int R->Option S}{Post:Bool->Option S->Prop}
  (J:∀i,i<n->(p i=true->F (i:Int)=some (.next ((i+1:Nat):Int)))/\(p i=false->∃r,F (i:Int)=some (.ret r)/\Q r)) (H:F (n:Int)=some o) (A:∀y,o≠.next y)
  (E:Post true (k o)) (B:∀r,Q r->Post false (k (.ret r))):Post ((range n).all p) (Option.bind (Ap F (0:Int)) k):=by
 refine Ch (st:=λi:Nat=>(i:Int)) (p:=p) (Q:=Q) (o:=o) (Post:=λx=>Post ((range n).all p) x) J H A (λe=>?_) (λe r u=>?_)
 .rw[e];exact E
 .rw[e];exact B r u
def Wi{R:Type}(bad:R->Prop)(s:Int)(p:Bool)(o:Option (LO Int R)):Prop:=(p=true->o=some (.next s))/\(p=false->∃r,o=some (.ret r)/\bad r)
def lift{R:Type}(bad:R->Prop)(r:LO Int R):Prop:=∃r',r=.ret r'/\bad r'
theorem AdV{bad:R->Prop}{F:Int->Option (LO Int (LO Int R))}{n:Nat}{p:Nat->Bool}{id:Nat}{s:Int}{g:Nat->Int->Option (LO Int R)}
  (H:∀i,i<n->Wi (lift bad) ((i+1:Nat):Int) (p i) (F (i:Int))) (E:F (n:Int)=some (.brk id (n:Int))) (A:g id (n:Int)=some (.next s)):
  Wi bad s ((range n).all p) (Option.bind (Ap F (0:Int)) (LO.fin g)):=by
 refine Ch (st:=λi:Nat=>(i:Int)) (p:=p) (Q:=lift bad) (o:=.brk id (n:Int)) (Post:=λx=>Wi bad s ((range n).all p) x) H E (λy=>by simp) (λe=>?_) (λe r u=>?_)
 .rw[e]
  exact⟨λ_=>A,(λh=>by cases h)⟩
 .rw[e]
  obtain⟨r',rfl,B⟩:=u;exact⟨(λh=>by cases h),λ_=>⟨r',rfl,B⟩⟩
def AaU{bad:R->Prop}{F:Int->Option (LO Int R)}{n:Nat}{p:Nat->Bool}{id:Nat}{g:Nat->Int->Option R}{Post:Bool->Option R->Prop}
  (E:∀i,i<n->Wi bad ((i+1:Nat):Int) (p i) (F (i:Int))) (B:F (n:Int)=some (.brk id (n:Int))) (A:Post true (g id (n:Int))) (u:∀r,bad r->Post false (some r)):
  Post ((range n).all p) (Option.bind (Ap F (0:Int)) (LO.fin g)):=
 chk2 (Q:=bad) E B (λy=>by simp) A λr e=>u r e
def Ha{bad:R->Prop}{o:Option (LO Int R)}(h:o=some (.next s)):Wi bad s true o:=⟨λ_=>h,(λh=>by cases h)⟩
def Ht{bad:R->Prop}{o:Option (LO Int R)}(h:∃r,o=some (.ret r)/\bad r):Wi bad s false o:=⟨(λh=>by cases h),λ_=>h⟩
abbrev SF:=Int×List Int×List Int×List Int×List (List Int)×List Int×List (List Int)
variable{f:SF}
def shS(f:SF):Cat:=(f.1,(f.2.1,(f.2.2.1,(f.2.2.2.1,f.2.2.2.2.1))))
def szF(f:SF):List Int:=f.2.2.2.2.2.1
def acF(f:SF):List (List Int):=f.2.2.2.2.2.2
def okS(f:SF):Prop:=okC (shS f)/\(szF f).length<=1048576/\(acF f).length<=1048576/\∀y∈acF f,y.length<=1048576
def act(f:SF)(a:Nat):List Int:=(acF f).getD a []
def sz(f:SF)(x:Int):Int:=(szF f).getD x.toNat 0
def NL(f:SF)(a:Nat):Bool:=decide (((act f a).length:Int)=sz f (fT (shS f) a))&&wi (sz f (tT (shS f) a)) (act f a)
def AaC(f:SF):Bool:=Jm (shS f)&&(decide (((szF f).length:Int)=f.1)&&(decide (((acF f).length:Int)=(ar (shS f):Int))&&wi 17 (szF f)))
def HP(f:SF):Bool:=AaC f&&(range (acF f).length).all (NL f)
theorem wi17(x:List Int):wi 17 x=(range x.length).all λi=>decide (0<=x.getD i 0)&&decide (x.getD i 0<=16):=by
 rw[K0 (0:Int) (λa=>decide (0<=a)&&decide (a<=16)) x]
 unfold wi
 congr 1
 funext a
 unfold inn;rw[Bool.eq_iff_iff];simp only[bAE,decide_eq_true_eq];omega
def sz_in(A:((szF f).length:Int)=f.1)(e:wi 17 (szF f)=true)(u:0<=x/\x<f.1):0<=sz f x/\sz f x<=16:=by
 obtain⟨g1,g2⟩:=Hq e (i:=x.toNat) (by omega)
 exact⟨g1,by unfold sz;omega⟩
def Zi(h:okS f)(e:a<(acF f).length):(act f a).length<=1048576:=h.2.2.2 _ (by
 unfold act;rw[gDE,gEE e];exact List.getElem_mem e)
def p61(h:okS f):G61 f=some (HP f):=by
 have W:=h;obtain⟨Y,hl,Z,hac⟩:=W;unfold G61 HP AaC;have e1:(f.1,(f.2.1,(f.2.2.1,(f.2.2.2.1,f.2.2.2.2.1))))=shS f:=rfl;simp only[e1,p44 Y,bind_some];cases E:Jm (shS f)with
 |false=>rfl
 |true=>
 have A:=Nm E;have hd:=A.hd;obtain⟨a1,a2,a3,a4,a5,a6,a7,a8⟩:=hd;simp only[Bool.not_true,cond_false,Bool.true_and,bind_some];have e2:decide (((f.2.2.2.2.2.1.length:Nat):Int)=f.1)=decide (((szF f).length:Int)=f.1):=rfl;rw[e2];cases F:decide (((szF f).length:Int)=f.1)with
 |false=>rfl
 |true=>
 have F:=of_decide_eq_true F;simp only[Bool.not_true,cond_false,Bool.true_and,bind_some];have e3:decide (((f.2.2.2.2.2.2.length:Nat):Int)=((f.2.1.length:Nat):Int))=decide (((acF f).length:Int)=(ar (shS f):Int)):=rfl;rw[e3];cases U:decide (((acF f).length:Int)=(ar (shS f):Int))with
 |false=>rfl
 |true=>
 have U:=of_decide_eq_true U;simp only[Bool.not_true,cond_false,Bool.true_and,bind_some];rw[wi17];refine AaU (n:=(szF f).length) (p:=λi=>decide (0<=(szF f).getD i 0)&&decide ((szF f).getD i 0<=16)) (bad:=λr:Bool=>r=false) (id:=0) (Post:=λb (o:Option Bool)=>o=some (b&&(range (acF f).length).all (NL f))) (λi hi=>?_) ?_ ?_ (λr H=>by rw[H];rfl)
 .have u:i<f.2.2.2.2.2.1.length:=hi
  simp only[Ao,u,decide_true,cond_true,Af u,and_self,if_true,tNC,p106,bind_some];rw[Aw (by omega) (by omega)]
  show Wi _ _ (decide (0<=f.2.2.2.2.2.1.getD i 0)&&decide (f.2.2.2.2.2.1.getD i 0<=16)) _;cases decide (0<=f.2.2.2.2.2.1.getD i 0)&&decide (f.2.2.2.2.2.1.getD i 0<=16)with
  |true=>exact Ha rfl
  |false=>exact Ht ⟨_,rfl,rfl⟩
 .have e:decide ((((szF f).length:Nat):Int)<((f.2.2.2.2.2.1.length:Nat):Int))=false:=by rw[Ao];exact dF (lt_irrefl _)
  simp only[e,cond_false]
 .show(if 0=0 then _ else none)=_
  rw[if_pos rfl,Bool.true_and];refine AaU (n:=(acF f).length) (p:=NL f) (bad:=λr:Bool=>r=false) (id:=2) (Post:=λb (o:Option Bool)=>o=some b) (λi hi=>?_) ?_ rfl (λr H=>by rw[H])
  .have u:i<f.2.2.2.2.2.2.length:=hi
   have B:i<ar (shS f):=by omega
   have O:i<f.2.1.length:=B;have J:i<f.2.2.1.length:=by
    have:f.2.2.1.length=f.2.1.length:=a3;omega
   obtain⟨b1,b2⟩:=A.fr i B;obtain⟨b3,b4⟩:=A.to i B;have g1:(0:Int)<=f.2.1.getD i 0/\f.2.1.getD i 0<((f.2.2.2.2.2.1.length:Nat):Int):=⟨b1,by rw[show((f.2.2.2.2.2.1.length:Nat):Int)=f.1 from F];exact b2⟩
   have g2:(0:Int)<=f.2.2.1.getD i 0/\f.2.2.1.getD i 0<((f.2.2.2.2.2.1.length:Nat):Int):=⟨b3,by rw[show((f.2.2.2.2.2.1.length:Nat):Int)=f.1 from F];exact b4⟩
   simp only[Ao,u,decide_true,cond_true,Af u,Af O,Af J,g1,g2,and_self,if_true,tNC];rw[Aw (by omega) (by omega)]
   have e4:G107 (f.2.2.2.2.2.1.getD (f.2.2.1.getD i 0).toNat 0,f.2.2.2.2.2.2.getD i [])=some (wi (sz f (tT (shS f) i)) (act f i)):=p107 (Zi h hi);rw[e4];show Wi _ _ (decide ((((f.2.2.2.2.2.2.getD i []).length:Nat):Int)=f.2.2.2.2.2.1.getD (f.2.1.getD i 0).toNat 0)&&wi (sz f (tT (shS f) i)) (act f i)) _;cases decide ((((f.2.2.2.2.2.2.getD i []).length:Nat):Int)=f.2.2.2.2.2.1.getD (f.2.1.getD i 0).toNat 0)with
   |false=>exact Ht ⟨_,rfl,rfl⟩
   |true=>
    rw[Bool.true_and];cases wi (sz f (tT (shS f) i)) (act f i)with
    |true=>exact Ha rfl
    |false=>exact Ht ⟨_,rfl,rfl⟩
  .have e:decide ((((acF f).length:Nat):Int)<((f.2.2.2.2.2.2.length:Nat):Int))=false:=by rw[Ao];exact dF (lt_irrefl _)
   simp only[e,cond_false]
def p113{x:List Int}{k n:Int}(u:0<=n/\n<=9223372036854775807)(e:x.length<=1048576):G113 (x,(k,n))=some (decide ((x.length:Int)=k)&&wi n x):=by
 unfold G113;simp only[p112 u e,bind_some];cases decide (((x.length:Nat):Int)=k)<;>rfl
theorem p70(h:okS f):G70 f=some (HP f):=by
 have hh:=h;obtain⟨hc,hl,hal,hac⟩:=hh;unfold G70 HP AaC;have e1:(f.1,(f.2.1,(f.2.2.1,(f.2.2.2.1,f.2.2.2.2.1))))=shS f:=rfl;have ew:G112 (f.2.2.2.2.2.1,(17:Int))=some (wi 17 (szF f)):=p112 (by omega) hl
 simp only[e1,p51 hc,ew,p99,bind_some];cases E:Jm (shS f)with
 |false=>rfl
 |true=>
 have u:=Nm E;have hd:=u.hd;obtain⟨a1,a2,a3,a4,a5,a6,a7,a8⟩:=hd;simp only[Bool.not_true,cond_false,Bool.true_and,bind_some];have e2:decide (((f.2.2.2.2.2.1.length:Nat):Int)=f.1)=decide (((szF f).length:Int)=f.1):=rfl;rw[e2];cases F:decide (((szF f).length:Int)=f.1)with
 |false=>rfl
 |true=>
 have F:=of_decide_eq_true F;simp only[Bool.not_true,cond_false,Bool.true_and,bind_some];have e3:decide (((f.2.2.2.2.2.2.length:Nat):Int)=(((shS f).2.1.length:Nat):Int))=decide (((acF f).length:Int)=(ar (shS f):Int)):=rfl;rw[e3];cases Z:wi 17 (szF f)with
 |false=>cases decide (((acF f).length:Int)=(ar (shS f):Int))<;>rfl
 |true=>
 simp only[Bool.not_true,cond_false,bind_some];cases O:decide (((acF f).length:Int)=(ar (shS f):Int))with
 |false=>rfl
 |true=>
 have O:=of_decide_eq_true O;simp only[Bool.not_true,cond_false,Bool.true_and,bind_some];refine AaU (n:=(acF f).length) (p:=NL f) (bad:=λr:Bool=>r=false) (id:=0) (Post:=λb (o:Option Bool)=>o=some b) (λi hi=>?_) ?_ rfl (λr hr=>by rw[hr])
 .have B:i<f.2.2.2.2.2.2.length:=hi
  have A:i<ar (shS f):=by omega
  have J:i<f.2.1.length:=A;have H:i<f.2.2.1.length:=by
   have:f.2.2.1.length=f.2.1.length:=a3;omega
  obtain⟨b1,b2⟩:=u.fr i A;obtain⟨W,U⟩:=u.to i A;have g1:(0:Int)<=f.2.1.getD i 0/\f.2.1.getD i 0<((f.2.2.2.2.2.1.length:Nat):Int):=⟨b1,by rw[show((f.2.2.2.2.2.1.length:Nat):Int)=f.1 from F];exact b2⟩
  have g2:(0:Int)<=f.2.2.1.getD i 0/\f.2.2.1.getD i 0<((f.2.2.2.2.2.1.length:Nat):Int):=⟨W,by rw[show((f.2.2.2.2.2.1.length:Nat):Int)=f.1 from F];exact U⟩
  simp only[Ao,B,decide_true,cond_true,Af B,Af J,Af H,g1,g2,and_self,if_true,tNC];rw[Aw (by omega) (by omega)]
  obtain⟨Y,z2⟩:=sz_in F Z (x:=tT (shS f) i) ⟨W,U⟩;have e4:G113 (f.2.2.2.2.2.2.getD i [],(f.2.2.2.2.2.1.getD (f.2.1.getD i 0).toNat 0,f.2.2.2.2.2.1.getD (f.2.2.1.getD i 0).toNat 0))=some (NL f i):=p113 (x:=act f i) (k:=sz f (fT (shS f) i)) (n:=sz f (tT (shS f) i)) ⟨Y,by omega⟩ (Zi h hi)
  rw[e4,bind_some];cases NL f i with
  |true=>exact Ha rfl
  |false=>exact Ht ⟨_,rfl,rfl⟩
 .have e:decide ((((acF f).length:Nat):Int)<((f.2.2.2.2.2.2.length:Nat):Int))=false:=by rw[Ao];exact dF (lt_irrefl _)
  simp only[e,cond_false]
structure FS(f:SF):Prop where
 cat:Jm (shS f)=true
 sh:Sh (shS f)
 sp:Hp (shS f)=true
 l1:((szF f).length:Int)=f.1
 l2:(acF f).length=ar (shS f)
 w:wi 17 (szF f)=true
 al:∀a,a<ar (shS f)->((act f a).length:Int)=sz f (fT (shS f) a)
 aw:∀a,a<ar (shS f)->wi (sz f (tT (shS f) a)) (act f a)=true
theorem Adj(h:HP f=true):FS f:=by
 unfold HP AaC at h;simp only[bAE,decide_eq_true_eq]at h;obtain⟨⟨e,F,B,E⟩,h5⟩:=h;have B:(acF f).length=ar (shS f):=by omega
 have A:∀a,a<ar (shS f)->NL f a=true:=λa A=>aET.1 h5 a (List.mem_range.2 (by omega))
 refine⟨e,Nm e,?_,F,B,E,λa u=>?_,λa u=>?_⟩
 .unfold Jm at e
  rw[bAE]at e;exact e.1
 .have:=A a u
  unfold NL at this;rw[bAE,decide_eq_true_eq]at this;exact this.1
 .have:=A a u
  unfold NL at this;rw[bAE]at this;exact this.2
def FS.szi(h:FS f)(e:0<=x/\x<f.1):0<=sz f x/\sz f x<=16:=sz_in h.l1 h.w e
def idAt(f:SF)(x:Nat):Int:=f.2.2.2.1.getD x 0
def FS.ida(h:FS f){x:Nat}(u:x<f.2.2.2.1.length):∃a:Nat,a<ar (shS f)/\idAt f x=(a:Int)/\fT (shS f) a=(x:Int):=by
 have e:=h.sp;unfold Hp at e;rw[bAE,bAE]at e;have hi:=aET.1 e.2.1 x (List.mem_range.2 u);unfold YG at hi;rw[bAE,decide_eq_true_eq,decide_eq_true_eq]at hi;obtain⟨a1,a2,a3,a4,a5,a6,a7,a8⟩:=h.sh.hd;obtain⟨g1,g2⟩:=Hq a8 u;have g1:0<=idAt f x:=g1;have g2:idAt f x<(ar (shS f):Int):=g2;refine⟨(idAt f x).toNat,by omega,by omega,hi.1⟩
def QB(f:SF)(x e:Nat):Bool:=decide ((act f (idAt f x).toNat).getD e 0=(e:Int))
def idS(f:SF):Bool:=(range f.2.2.2.1.length).all λx=>(range (sz f (x:Int)).toNat).all (QB f x)
def Wt(f:SF)(a b e:Nat):Bool:=decide ((act f (T (shS f) a b).toNat).getD e 0=(act f b).getD ((act f a).getD e 0).toNat 0)
def coB(f:SF)(a b:Nat):Bool:=!mt (shS f) a b||(range (sz f (fT (shS f) a)).toNat).all (Wt f a b)
def coS(f:SF):Bool:=(range (ar (shS f))).all λa=>(range (ar (shS f))).all (coB f a)
abbrev R4:=Int×Int×Int×Int
def Zv(r:R4):Prop:=decide (r.1=0)=false
def FS.el(h:FS f){b e:Nat}(u:a<ar (shS f))(F:b<ar (shS f))(E:mt (shS f) a b=true)(H:e<(act f a).length):∃t:Nat,t<ar (shS f)/\T (shS f) a b=(t:Int)/\e<(act f t).length/\∃d:Nat,(act f a).getD e 0=(d:Int)/\d<(act f b).length:=by
 obtain⟨t1,t2,t3,t4⟩:=h.sh.pos a b u F E;have t2:T (shS f) a b<(ar (shS f):Int):=t2;have B:(T (shS f) a b).toNat<ar (shS f):=by omega
 refine⟨(T (shS f) a b).toNat,B,by omega,?_,?_⟩
 .have O:=h.al a u
  have A:=h.al _ B;have J:fT (shS f) (T (shS f) a b).toNat=fT (shS f) a:=t3;rw[J]at A;omega
 .obtain⟨g1,g2⟩:=Hq (h.aw a u) H
  have O:=h.al b F;have A:tT (shS f) a=fT (shS f) b:=of_decide_eq_true E;rw[A]at g2;exact⟨((act f a).getD e 0).toNat,by omega,by omega⟩
theorem p62(h:FS f):∃r,G62 f=some r/\decide (r.1=0)=(idS f&&coS f):=by
 obtain⟨a1,a2,a3,a4,a5,a6,a7,a8⟩:=h.sh.hd;have l1:((f.2.2.2.2.2.1.length:Nat):Int)=f.1:=h.l1;have l2:f.2.2.2.2.2.2.length=ar (shS f):=h.l2;have c4:((f.2.2.2.1.length:Nat):Int)=f.1:=a7;have hf1:f.1<=8:=a1.2;have Y:ar (shS f)<=40:=a2;unfold G62 idS;refine AaU (n:=f.2.2.2.1.length) (p:=λx=>(range (sz f (x:Int)).toNat).all (QB f x)) (bad:=Zv) (id:=0) (Post:=λb (o:Option R4)=>∃r,o=some r/\decide (r.1=0)=(b&&coS f)) (λx hx=>?_) ?_ ?_ (λr hr=>⟨r,rfl,hr⟩)
 .have Z:decide ((x:Int)<f.1)=true:=dT (by omega)
  simp only[Z,cond_true];have hz:=h.szi (x:=(x:Int)) ⟨by omega,by omega⟩
  obtain⟨n,B⟩:∃n:Nat,sz f (x:Int)=(n:Int):=⟨(sz f (x:Int)).toNat,by omega⟩
  rw[B,tNC];refine AdV (n:=n) (p:=QB f x) (bad:=Zv) (id:=2) (s:=((x+1:Nat):Int)) (λe he=>?_) ?_ ?_
  .obtain⟨a,H,ea,ef⟩:=h.ida hx
   have A:x<f.2.2.2.2.2.1.length:=by omega
   have ea':f.2.2.2.1.getD x 0=(a:Int):=ea;have W:a<f.2.2.2.2.2.2.length:=by omega
   have u:f.2.2.2.2.2.1.getD x 0=(n:Int):=B
   have E:e<(act f a).length:=by
    have:=h.al a H;rw[ef,B]at this;omega
   have J:e<(f.2.2.2.2.2.2.getD a []).length:=E;simp only[Af A,Af hx,and_self,if_true,tNC,u,Ao,he,decide_true,cond_true,ea',Af W,Af J];rw[Aw (by omega) (by omega)]
   unfold QB;rw[ea,tNC];show Wi _ _ (decide ((f.2.2.2.2.2.2.getD a []).getD e 0=(e:Int))) _;cases decide ((f.2.2.2.2.2.2.getD a []).getD e 0=(e:Int))with
   |true=>exact Ha rfl
   |false=>exact Ht ⟨_,rfl,_,rfl,rfl⟩
  .have A:x<f.2.2.2.2.2.1.length:=by omega
   have u:f.2.2.2.2.2.1.getD x 0=(n:Int):=B;simp only[Af A,and_self,if_true,tNC,u,Ao,lt_irrefl,decide_false,cond_false]
  .show(if 2=2 then _ else none)=_
   rw[if_pos rfl,Aw (by omega) (by omega)];rfl
 .have e:decide (((f.2.2.2.1.length:Nat):Int)<f.1)=false:=dF (by omega)
  simp only[e,cond_false]
 .show ∃r,(if 0=0 then _ else none)=some r/\_
  rw[if_pos rfl,Bool.true_and];unfold coS;refine AaU (n:=ar (shS f)) (p:=λa=>(range (ar (shS f))).all (coB f a)) (bad:=Zv) (id:=4) (Post:=λb (o:Option R4)=>∃r,o=some r/\decide (r.1=0)=b) (λa H=>?_) ?_ ⟨_,rfl,rfl⟩ (λr hr=>⟨r,rfl,hr⟩)
  .have F:a<f.2.1.length:=H
   have ha3:a<f.2.2.1.length:=by
    have:f.2.2.1.length=f.2.1.length:=a3;omega
   simp only[Ao,F,decide_true,cond_true];refine AdV (n:=ar (shS f)) (p:=coB f a) (bad:=Zv) (id:=6) (s:=((a+1:Nat):Int)) (λb hb=>?_) ?_ ?_
   .have U:b<f.2.1.length:=hb
    simp only[Ao,U,decide_true,cond_true,Af ha3,Af U,and_self,if_true,tNC];unfold coB;show Wi _ _ (!decide (f.2.2.1.getD a 0=f.2.1.getD b 0)||_) _;cases Y:decide (f.2.2.1.getD a 0=f.2.1.getD b 0)with
    |false=>
     refine Ha ?_;rw[Bool.not_false,cond_true,Aw (by omega) (by omega)];rfl
    |true=>
     have Y:mt (shS f) a b=true:=Y;rw[Bool.not_true,cond_false,Bool.false_or];obtain⟨f1,f2⟩:=h.sh.fr a H;obtain⟨z1,z2⟩:=h.szi (x:=fT (shS f) a) ⟨f1,f2⟩;have W:=h.al a H;obtain⟨n,B⟩:∃n:Nat,sz f (fT (shS f) a)=(n:Int):=⟨(sz f (fT (shS f) a)).toNat,by omega⟩
     rw[B,tNC];have hg:(0:Int)<=f.2.1.getD a 0/\f.2.1.getD a 0<((f.2.2.2.2.2.1.length:Nat):Int):=⟨f1,by rw[l1];exact f2⟩
     have u:f.2.2.2.2.2.1.getD (f.2.1.getD a 0).toNat 0=(n:Int):=B;refine AdV (n:=n) (p:=Wt f a b) (bad:=lift Zv) (id:=8) (s:=((b+1:Nat):Int)) (λe he=>?_) ?_ ?_
     .have O:e<(act f a).length:=by omega
      obtain⟨t,ht,et,E,d,ed,hd⟩:=h.el H hb Y O;have r1:a<f.2.2.2.2.1.length:=by
       have:f.2.2.2.2.1.length=f.2.1.length:=a6;omega
      have r2:b<(f.2.2.2.2.1.getD a []).length:=by
       have:(f.2.2.2.2.1.getD a []).length=f.2.1.length:=h.sh.row a H;omega
      have et':(f.2.2.2.2.1.getD a []).getD b 0=(t:Int):=et;have ed':(f.2.2.2.2.2.2.getD a []).getD e 0=(d:Int):=ed;have q1:t<f.2.2.2.2.2.2.length:=by omega
      have q2:e<(f.2.2.2.2.2.2.getD t []).length:=E;have q3:b<f.2.2.2.2.2.2.length:=by omega
      have q4:a<f.2.2.2.2.2.2.length:=by omega
      have q5:e<(f.2.2.2.2.2.2.getD a []).length:=O;have q6:d<(f.2.2.2.2.2.2.getD b []).length:=hd;simp only[Af F,hg,u,Ao,he,decide_true,cond_true,Af r1,Af r2,et',Af q1,Af q2,Af q3,Af q4,Af q5,ed',Af q6,and_self,if_true,tNC];rw[Aw (by omega) (by omega)]
      unfold Wt;rw[et,ed,tNC,tNC];show Wi _ _ (decide ((f.2.2.2.2.2.2.getD t []).getD e 0=(f.2.2.2.2.2.2.getD b []).getD d 0)) _;cases decide ((f.2.2.2.2.2.2.getD t []).getD e 0=(f.2.2.2.2.2.2.getD b []).getD d 0)with
      |true=>exact Ha rfl
      |false=>exact Ht ⟨_,rfl,_,rfl,_,rfl,rfl⟩
     .simp only[Af F,hg,u,Ao,lt_irrefl,decide_false,cond_false,and_self,if_true,tNC]
     .show(if 8=8 then _ else none)=_
      rw[if_pos rfl,Aw (by omega) (by omega)];rfl
   .have e:decide (((ar (shS f):Nat):Int)<((f.2.1.length:Nat):Int))=false:=by rw[Ao];exact dF (lt_irrefl _)
    simp only[e,cond_false]
   .show(if 6=6 then _ else none)=_
    rw[if_pos rfl,Aw (by omega) (by omega)];rfl
  .have e:decide (((ar (shS f):Nat):Int)<((f.2.1.length:Nat):Int))=false:=by rw[Ao];exact dF (lt_irrefl _)
   simp only[e,cond_false]
end Go.Ve.D


namespace Go.Ve.D
open Go Go.Ve
variable{f:SF}
theorem p71(h:FS f):∃r,G71 f=some r/\decide (r.1=0)=(idS f&&coS f):=by
 obtain⟨a1,a2,a3,a4,a5,a6,a7,a8⟩:=h.sh.hd;have l1:((f.2.2.2.2.2.1.length:Nat):Int)=f.1:=h.l1;have l2:f.2.2.2.2.2.2.length=ar (shS f):=h.l2;have c4:((f.2.2.2.1.length:Nat):Int)=f.1:=a7;have c5:f.2.2.2.2.1.length=ar (shS f):=a6;have hf1:f.1<=8:=a1.2;have hm:ar (shS f)<=40:=a2;unfold G71 idS;refine AaU (n:=f.2.2.2.1.length) (p:=λx=>(range (sz f (x:Int)).toNat).all (QB f x)) (bad:=Zv) (id:=0) (Post:=λb (o:Option R4)=>∃r,o=some r/\decide (r.1=0)=(b&&coS f)) (λx U=>?_) ?_ ?_ (λr W=>⟨r,rfl,W⟩)
 .have hz:=h.szi (x:=(x:Int)) ⟨by omega,by omega⟩
  obtain⟨n,O⟩:∃n:Nat,sz f (x:Int)=(n:Int):=⟨(sz f (x:Int)).toNat,by omega⟩
  obtain⟨a,A,ea,ef⟩:=h.ida U;have ea':f.2.2.2.1.getD x 0=(a:Int):=ea;have J:a<f.2.2.2.2.2.2.length:=by omega
  have E:(act f a).length=n:=by
   have:=h.al a A;rw[ef,O]at this;omega
  have u:(f.2.2.2.2.2.2.getD a []).length=n:=E;simp only[Ao,U,decide_true,cond_true,Af U,ea',Af J,and_self,if_true,tNC,u];rw[O,tNC];refine AdV (n:=n) (p:=QB f x) (bad:=Zv) (id:=2) (s:=((x+1:Nat):Int)) (λe F=>?_) ?_ ?_
  .simp only[F,decide_true,cond_true,Af F,and_self,if_true,tNC]
   rw[Aw (by omega) (by omega)]
   unfold QB;rw[ea,tNC];show Wi _ _ (decide ((f.2.2.2.2.2.2.getD a []).getD e 0=(e:Int))) _;cases decide ((f.2.2.2.2.2.2.getD a []).getD e 0=(e:Int))with
   |true=>exact Ha rfl
   |false=>exact Ht ⟨_,rfl,_,rfl,rfl⟩
  .simp only[Ao,lt_irrefl,decide_false,cond_false]
  .show(if 2=2 then _ else none)=_
   rw[if_pos rfl,Aw (by omega) (by omega)];rfl
 .have e:decide (((f.2.2.2.1.length:Nat):Int)<((f.2.2.2.1.length:Nat):Int))=false:=by rw[Ao];exact dF (lt_irrefl _)
  simp only[e,cond_false]
 .show ∃r,(if 0=0 then _ else none)=some r/\_
  rw[if_pos rfl,Bool.true_and];unfold coS;refine AaU (n:=ar (shS f)) (p:=λa=>(range (ar (shS f))).all (coB f a)) (bad:=Zv) (id:=4) (Post:=λb (o:Option R4)=>∃r,o=some r/\decide (r.1=0)=b) (λa A=>?_) ?_ ⟨_,rfl,rfl⟩ (λr W=>⟨r,rfl,W⟩)
  .have r1:a<f.2.2.2.2.1.length:=by omega
   have er:(f.2.2.2.2.1.getD a []).length=ar (shS f):=h.sh.row a A;have q4:a<f.2.2.2.2.2.2.length:=by omega
   simp only[Ao,r1,decide_true,cond_true,Af r1,and_self,if_true,tNC,er];refine AdV (n:=ar (shS f)) (p:=coB f a) (bad:=Zv) (id:=6) (s:=((a+1:Nat):Int)) (λb H=>?_) ?_ ?_
   .simp only[H,decide_true,cond_true,Af H,and_self,if_true,tNC]
    unfold coB;cases B:mt (shS f) a b with
    |false=>
     have e:(f.2.2.2.2.1.getD a []).getD b 0= -1:=h.sh.neg a b A H B;have e0:decide ((f.2.2.2.2.1.getD a []).getD b 0<0)=true:=dT (by omega)
     refine Ha ?_;simp only[e0,cond_true];rw[Aw (by omega) (by omega)];rfl
    |true=>
     obtain⟨t1,t2,_⟩:=h.sh.pos a b A H B;obtain⟨t,et⟩:∃t:Nat,T (shS f) a b=(t:Int):=⟨(T (shS f) a b).toNat,by omega⟩
     have Z:(f.2.2.2.2.1.getD a []).getD b 0=(t:Int):=et;have e0:decide ((t:Int)<0)=false:=dF (by omega)
     obtain⟨f1,f2⟩:=h.sh.fr a A;obtain⟨z1,z2⟩:=h.szi (x:=fT (shS f) a) ⟨f1,f2⟩;have J:=h.al a A;obtain⟨n,O⟩:∃n:Nat,sz f (fT (shS f) a)=(n:Int):=⟨(sz f (fT (shS f) a)).toNat,by omega⟩
     have E:(act f a).length=n:=by omega
     have u:(f.2.2.2.2.2.2.getD a []).length=n:=E;rw[Bool.not_true,Bool.false_or,O,tNC];simp only[Z,e0,cond_false,Af q4,and_self,if_true,u,tNC];refine AdV (n:=n) (p:=Wt f a b) (bad:=lift Zv) (id:=8) (s:=((b+1:Nat):Int)) (λe F=>?_) ?_ ?_
     .have Y:e<(act f a).length:=by omega
      obtain⟨t',ht,et2,hl,d,ed,hd⟩:=h.el A H B Y;have e3:t'=t:=by omega
      rw[e3]at ht hl;have ed':(f.2.2.2.2.2.2.getD a []).getD e 0=(d:Int):=ed;have q1:t<f.2.2.2.2.2.2.length:=by omega
      have q2:e<(f.2.2.2.2.2.2.getD t []).length:=hl;have q3:b<f.2.2.2.2.2.2.length:=by omega
      have q6:d<(f.2.2.2.2.2.2.getD b []).length:=hd;simp only[Ao,F,decide_true,cond_true,Af F,Af q1,Af q2,Af q3,ed',Af q6,and_self,if_true,tNC];rw[Aw (by omega) (by omega)]
      unfold Wt;rw[et,ed,tNC,tNC];show Wi _ _ (decide ((f.2.2.2.2.2.2.getD t []).getD e 0=(f.2.2.2.2.2.2.getD b []).getD d 0)) _;cases decide ((f.2.2.2.2.2.2.getD t []).getD e 0=(f.2.2.2.2.2.2.getD b []).getD d 0)with
      |true=>exact Ha rfl
      |false=>exact Ht ⟨_,rfl,_,rfl,_,rfl,rfl⟩
     .simp only[Ao,lt_irrefl,decide_false,cond_false]
     .show(if 8=8 then _ else none)=_
      rw[if_pos rfl,Aw (by omega) (by omega)];rfl
   .simp only[Ao,lt_irrefl,decide_false,cond_false]
   .show(if 6=6 then _ else none)=_
    rw[if_pos rfl,Aw (by omega) (by omega)];rfl
  .have e:decide (((ar (shS f):Nat):Int)<((f.2.2.2.2.1.length:Nat):Int))=false:=by rw[Ao];exact dF (by omega)
   simp only[e,cond_false]
def UV(f:SF):Bool:=HP f&&(idS f&&coS f)
def p32(h:okS f):G32 f=some (UV f):=by
 unfold G32 UV;have e:=p61 h;simp only[Prod.eta,e,bind_some];cases u:HP f with
 |false=>rfl
 |true=>
  obtain⟨r,B,A⟩:=p62 (Adj u);simp only[Bool.not_true,cond_false,B,bind_some,Bool.true_and,A]
def p37(h:okS f):G37 f=some (UV f):=by
 unfold G37 UV;have e:=p70 h;simp only[Prod.eta,e,bind_some];cases u:HP f with
 |false=>rfl
 |true=>
  obtain⟨r,B,A⟩:=p71 (Adj u);simp only[Bool.not_true,cond_false,B,bind_some,Bool.true_and,A]
def Ko(h:UV f=true):FS f:=by
 unfold UV at h;rw[bAE]at h;exact Adj h.1
def p151{x:List Int}(h:x.length<=1048576)(a:Int):G151 (x,a)=some (x.contains a):=p64 h a
end Go.Ve.D


namespace Go.Ve.D
open Go Go.Ve
noncomputable section
def YP{α R:Type}{F:(Int×List α)->Option (LO (Int×List α) R)}{n:Nat}{g:Nat->α}{id:Nat}
  (A:∀i,i<n->∀e:List α,e.length=i->F ((i:Int),e)=some (.next (((i+1:Nat):Int),e++[g i])))
  (u:∀e:List α,F ((n:Int),e)=some (.brk id ((n:Int),e))):
  Ap F ((0:Int),[])=some (.brk id ((n:Int),(range n).map g)):=by
 refine Bi (st:=λi:Nat=>((i:Int),(range i).map g)) (n:=n) (λi hi=>?_) (u _) (λy=>by simp)
 rw[A i hi _ (by simp),List.range_succ,List.map_append]
 rfl
end
end Go.Ve.D

