/- Sets of arrows: what they compute. -/
import Derived.Test.YtojjlnbnneemaaaGnb
open List(range)
open Option(bind_some)
open Nat(lt_irrefl)
set_option linter.all false
namespace Go.Ve.D
open Go Go.Ve
def IY{c:Cat}(h:Hc c=true):Sh c:=by
 unfold Hc at h;rw[bAE]at h;exact Aa1 h.1
def Aad{α R:Type}{f:(Int×List α)->Option (LO (Int×List α) R)}{n:Nat}{q:Nat->Bool}{g:Nat->α}{id:Nat}
  (J:∀i,i<n->∀u:List α,u.length<=i->f ((i:Int),u)=some (.next (((i+1:Nat):Int),bif q i then u++[g i]else u)))
  (E:∀u:List α,f ((n:Int),u)=some (.brk id ((n:Int),u))):
  A4 f ((0:Int),[])=some (.brk id ((n:Int),((range n).filter q).map g)):=by
 have key:∀i,(((range i).filter q).map g).length<=i:=λi=>by
  rw[List.length_map];have:=List.length_filter_le q (range i);rwa [List.length_range]at this
 refine AG (st:=λi:Nat=>((i:Int),((range i).filter q).map g)) (n:=n) (λi B=>?_) (E _) (λy=>by simp)
 rw[J i B _ (key i),List.range_succ,List.filter_append,List.map_append]
 congr 3
 cases A:q i<;>simp[A]
def fT(c:Cat)(f:Nat):Int:=c.2.1.getD f 0
def tT(c:Cat)(f:Nat):Int:=c.2.2.1.getD f 0
def ar(c:Cat):Nat:=c.2.1.length
def JM(c:Cat)(x y:Int):List Int:=((range (ar c)).filter λf=>decide (fT c f=x)&&decide (tT c f=y)).map fun(f:Nat)=>(f:Int)
def risB(x:List Int):Bool:=(range (x.length-1)).all λi=>!decide (x.getD (i+1) 0<=x.getD i 0)
def arrC(c:Cat)(w:List Int):Int:=bif !Hc c then 1 else bif !wi (ar c) w then 2 else 0
def Acm(c:Cat)(w:List Int):Int:=bif decide (arrC c w=0)&& !risB w then 5 else arrC c w
end Go.Ve.D


namespace Go.Ve.D
open Go Go.Ve
end Go.Ve.D


namespace Go.Ve.D
open Go Go.Ve
theorem Qz{c:Cat}{x y:Int}:(JM c x y).length<=ar c:=by
 unfold JM;rw[List.length_map];have:=List.length_filter_le (λf=>decide (fT c f=x)&&decide (tT c f=y)) (range (ar c))
 rwa [List.length_range]at this
def hit(c:Cat)(w:List Int)(f v:Nat)(b a:Int):Bool:=w.contains b&&decide (T c b.toNat f=T c a.toNat v)
end Go.Ve.D


namespace Go.Ve.D
open Go Go.Ve
end Go.Ve.D


namespace Go.Ve.D
open Go Go.Ve
variable{s x:Int}{a:Nat}{R:Type}
theorem chk2{S:Type}{F:Int->Option (LO Int R)}{n:Nat}{p:Nat->Bool}{Q:R->Prop}{o:LO Int R}{k:LO Int R->Option S}{Post:Bool->Option S->Prop}
  (U:∀i,i<n->(p i=true->F (i:Int)=some (.next ((i+1:Nat):Int)))/\(p i=false->∃r,F (i:Int)=some (.ret r)/\Q r)) (O:F (n:Int)=some o) (B:∀y,o≠.next y)
  (J:Post true (k o)) (E:∀r,Q r->Post false (k (.ret r))):Post ((range n).all p) (Option.bind (A4 F (0:Int)) k):=by
 refine Cq (st:=λi:Nat=>(i:Int)) (p:=p) (Q:=Q) (o:=o) (Post:=λx=>Post ((range n).all p) x) U O B (λu=>?_) (λu r A=>?_)
 .rw[u];exact J
 .rw[u];exact E r A
def UO{R:Type}(bad:R->Prop)(s:Int)(p:Bool)(o:Option (LO Int R)):Prop:=(p=true->o=some (.next s))/\(p=false->∃r,o=some (.ret r)/\bad r)
def lift{R:Type}(bad:R->Prop)(r:LO Int R):Prop:=∃r',r=.ret r'/\bad r'
theorem Acz{bad:R->Prop}{F:Int->Option (LO Int (LO Int R))}{n:Nat}{p:Nat->Bool}{id:Nat}{s:Int}{g:Nat->Int->Option (LO Int R)}
  (O:∀i,i<n->UO (lift bad) ((i+1:Nat):Int) (p i) (F (i:Int))) (J:F (n:Int)=some (.brk id (n:Int))) (B:g id (n:Int)=some (.next s)):
  UO bad s ((range n).all p) (Option.bind (A4 F (0:Int)) (LO.fin g)):=by
 refine Cq (st:=λi:Nat=>(i:Int)) (p:=p) (Q:=lift bad) (o:=.brk id (n:Int)) (Post:=λx=>UO bad s ((range n).all p) x) O J (λy=>by simp) (λu=>?_) (λu r A=>?_)
 .rw[u]
  exact⟨λ_=>B,(λh=>by cases h)⟩
 .rw[u]
  obtain⟨r',rfl,E⟩:=A;exact⟨(λh=>by cases h),λ_=>⟨r',rfl,E⟩⟩
def Aap{bad:R->Prop}{F:Int->Option (LO Int R)}{n:Nat}{p:Nat->Bool}{id:Nat}{g:Nat->Int->Option R}{Post:Bool->Option R->Prop}
  (J:∀i,i<n->UO bad ((i+1:Nat):Int) (p i) (F (i:Int))) (E:F (n:Int)=some (.brk id (n:Int))) (B:Post true (g id (n:Int))) (A:∀r,bad r->Post false (some r)):
  Post ((range n).all p) (Option.bind (A4 F (0:Int)) (LO.fin g)):=
 chk2 (Q:=bad) J E (λy=>by simp) B λr u=>A r u
def D6{bad:R->Prop}{o:Option (LO Int R)}(h:o=some (.next s)):UO bad s true o:=⟨λ_=>h,(λh=>by cases h)⟩
def HN{bad:R->Prop}{o:Option (LO Int R)}(h:∃r,o=some (.ret r)/\bad r):UO bad s false o:=⟨(λh=>by cases h),λ_=>h⟩
abbrev SF:=Int×List Int×List Int×List Int×List (List Int)×List Int×List (List Int)
variable{f:SF}
def shS(f:SF):Cat:=(f.1,(f.2.1,(f.2.2.1,(f.2.2.2.1,f.2.2.2.2.1))))
def szF(f:SF):List Int:=f.2.2.2.2.2.1
def acF(f:SF):List (List Int):=f.2.2.2.2.2.2
def okS(f:SF):Prop:=okC (shS f)/\(szF f).length<=1048576/\(acF f).length<=1048576/\∀y∈acF f,y.length<=1048576
def act(f:SF)(a:Nat):List Int:=(acF f).getD a []
def sz(f:SF)(x:Int):Int:=(szF f).getD x.toNat 0
def MO(f:SF)(a:Nat):Bool:=decide (((act f a).length:Int)=sz f (fT (shS f) a))&&wi (sz f (tT (shS f) a)) (act f a)
def Y4(f:SF):Bool:=Hc (shS f)&&(decide (((szF f).length:Int)=f.1)&&(decide (((acF f).length:Int)=(ar (shS f):Int))&&wi 17 (szF f)))
def Hq(f:SF):Bool:=Y4 f&&(range (acF f).length).all (MO f)
theorem wi17(x:List Int):wi 17 x=(range x.length).all λi=>decide (0<=x.getD i 0)&&decide (x.getD i 0<=16):=by
 rw[MK (0:Int) (λa=>decide (0<=a)&&decide (a<=16)) x]
 unfold wi
 congr 1
 funext a
 unfold inn;rw[Bool.eq_iff_iff];simp only[bAE,decide_eq_true_eq];omega
def sz_in(B:((szF f).length:Int)=f.1)(u:wi 17 (szF f)=true)(A:0<=x/\x<f.1):0<=sz f x/\sz f x<=16:=by
 obtain⟨g1,g2⟩:=DY u (i:=x.toNat) (by omega)
 exact⟨g1,by unfold sz;omega⟩
def XQ(h:okS f)(u:a<(acF f).length):(act f a).length<=1048576:=h.2.2.2 _ (by
 unfold act;rw[gDE,gEE u];exact List.getElem_mem u)
def p132(h:okS f):G132 f=some (Hq f):=by
 have hh:=h;obtain⟨hc,hl,hal,hac⟩:=hh
 delta G132 Hq Y4 ln lw k4 lt gd li l0 q4 sc nx bk
 have e1:(f.1,(f.2.1,(f.2.2.1,(f.2.2.2.1,f.2.2.2.2.1))))=shS f:=rfl;simp only[e1,p108 hc,bind_some];cases E:Hc (shS f)with
 |false=>rfl
 |true=>
 have A:=IY E;have hd:=A.hd;obtain⟨a1,a2,a3,a4,a5,a6,a7,a8⟩:=hd;simp only[Bool.not_true,cond_false,Bool.true_and,bind_some];have e2:decide (((f.2.2.2.2.2.1.length:Nat):Int)=f.1)=decide (((szF f).length:Int)=f.1):=rfl;rw[e2];cases O:decide (((szF f).length:Int)=f.1)with
 |false=>rfl
 |true=>
 have O:=of_decide_eq_true O;simp only[Bool.not_true,cond_false,Bool.true_and,bind_some];have e3:decide (((f.2.2.2.2.2.2.length:Nat):Int)=((f.2.1.length:Nat):Int))=decide (((acF f).length:Int)=(ar (shS f):Int)):=rfl;rw[e3];cases Z:decide (((acF f).length:Int)=(ar (shS f):Int))with
 |false=>rfl
 |true=>
 have Z:=of_decide_eq_true Z;simp only[Bool.not_true,cond_false,Bool.true_and,bind_some];rw[wi17];refine Aap (n:=(szF f).length) (p:=λi=>decide (0<=(szF f).getD i 0)&&decide ((szF f).getD i 0<=16)) (bad:=λr:Bool=>r=false) (id:=0) (Post:=λb (o:Option Bool)=>o=some (b&&(range (acF f).length).all (MO f))) (λi J=>?_) ?_ ?_ (λr U=>by rw[U];rfl)
 .have u:i<f.2.2.2.2.2.1.length:=J
  simp only[Af,u,decide_true,cond_true,Ac u,and_self,if_true,tNC,p156,bind_some];rw[Ah (by omega) (by omega)]
  show UO _ _ (decide (0<=f.2.2.2.2.2.1.getD i 0)&&decide (f.2.2.2.2.2.1.getD i 0<=16)) _;cases decide (0<=f.2.2.2.2.2.1.getD i 0)&&decide (f.2.2.2.2.2.1.getD i 0<=16)with
  |true=>exact D6 rfl
  |false=>exact HN ⟨_,rfl,rfl⟩
 .have e:decide ((((szF f).length:Nat):Int)<((f.2.2.2.2.2.1.length:Nat):Int))=false:=by rw[Af];exact dF (lt_irrefl _)
  simp only[e,cond_false]
 .show(if 0=0 then _ else none)=_
  rw[if_pos rfl,Bool.true_and];refine Aap (n:=(acF f).length) (p:=MO f) (bad:=λr:Bool=>r=false) (id:=2) (Post:=λb (o:Option Bool)=>o=some b) (λi J=>?_) ?_ rfl (λr U=>by rw[U])
  .have u:i<f.2.2.2.2.2.2.length:=J
   have B:i<ar (shS f):=by omega
   have Y:i<f.2.1.length:=B;have W:i<f.2.2.1.length:=by
    have:f.2.2.1.length=f.2.1.length:=a3;omega
   obtain⟨b1,b2⟩:=A.fr i B;obtain⟨b3,b4⟩:=A.to i B;have g1:(0:Int)<=f.2.1.getD i 0/\f.2.1.getD i 0<((f.2.2.2.2.2.1.length:Nat):Int):=⟨b1,by rw[show((f.2.2.2.2.2.1.length:Nat):Int)=f.1 from O];exact b2⟩
   have g2:(0:Int)<=f.2.2.1.getD i 0/\f.2.2.1.getD i 0<((f.2.2.2.2.2.1.length:Nat):Int):=⟨b3,by rw[show((f.2.2.2.2.2.1.length:Nat):Int)=f.1 from O];exact b4⟩
   simp only[Af,u,decide_true,cond_true,Ac u,Ac Y,Ac W,g1,g2,and_self,if_true,tNC];rw[Ah (by omega) (by omega)]
   have e4:G140 (f.2.2.2.2.2.1.getD (f.2.2.1.getD i 0).toNat 0,f.2.2.2.2.2.2.getD i [])=some (wi (sz f (tT (shS f) i)) (act f i)):=p140 (XQ h J);rw[e4];show UO _ _ (decide ((((f.2.2.2.2.2.2.getD i []).length:Nat):Int)=f.2.2.2.2.2.1.getD (f.2.1.getD i 0).toNat 0)&&wi (sz f (tT (shS f) i)) (act f i)) _;cases decide ((((f.2.2.2.2.2.2.getD i []).length:Nat):Int)=f.2.2.2.2.2.1.getD (f.2.1.getD i 0).toNat 0)with
   |false=>exact HN ⟨_,rfl,rfl⟩
   |true=>
    rw[Bool.true_and];cases wi (sz f (tT (shS f) i)) (act f i)with
    |true=>exact D6 rfl
    |false=>exact HN ⟨_,rfl,rfl⟩
  .have e:decide ((((acF f).length:Nat):Int)<((f.2.2.2.2.2.2.length:Nat):Int))=false:=by rw[Af];exact dF (lt_irrefl _)
   simp only[e,cond_false]
def p155{x:List Int}{k n:Int}(A:0<=n/\n<=9223372036854775807)(u:x.length<=1048576):G155 (x,(k,n))=some (decide ((x.length:Int)=k)&&wi n x):=by
 delta G155 an
 simp only[p93 A u,bind_some];cases decide (((x.length:Nat):Int)=k)<;>rfl
theorem p128(h:okS f):G128 f=some (Hq f):=by
 have hh:=h;obtain⟨hc,hl,hal,hac⟩:=hh
 delta G128 Hq Y4 ln lw k4 lt gd li l0 q4 sc nx bk
 have e1:(f.1,(f.2.1,(f.2.2.1,(f.2.2.2.1,f.2.2.2.2.1))))=shS f:=rfl;have ew:G93 (f.2.2.2.2.2.1,(17:Int))=some (wi 17 (szF f)):=p93 (by omega) hl
 simp only[e1,p65 hc,ew,p89,bind_some];cases E:Hc (shS f)with
 |false=>rfl
 |true=>
 have u:=IY E;have hd:=u.hd;obtain⟨a1,a2,a3,a4,a5,a6,a7,a8⟩:=hd;simp only[Bool.not_true,cond_false,Bool.true_and,bind_some];have e2:decide (((f.2.2.2.2.2.1.length:Nat):Int)=f.1)=decide (((szF f).length:Int)=f.1):=rfl;rw[e2];cases J:decide (((szF f).length:Int)=f.1)with
 |false=>rfl
 |true=>
 have J:=of_decide_eq_true J;simp only[Bool.not_true,cond_false,Bool.true_and,bind_some];have e3:decide (((f.2.2.2.2.2.2.length:Nat):Int)=(((shS f).2.1.length:Nat):Int))=decide (((acF f).length:Int)=(ar (shS f):Int)):=rfl;rw[e3];cases hw:wi 17 (szF f)with
 |false=>cases decide (((acF f).length:Int)=(ar (shS f):Int))<;>rfl
 |true=>
 simp only[Bool.not_true,cond_false,bind_some];cases Y:decide (((acF f).length:Int)=(ar (shS f):Int))with
 |false=>rfl
 |true=>
 have Y:=of_decide_eq_true Y;simp only[Bool.not_true,cond_false,Bool.true_and,bind_some];refine Aap (n:=(acF f).length) (p:=MO f) (bad:=λr:Bool=>r=false) (id:=0) (Post:=λb (o:Option Bool)=>o=some b) (λi W=>?_) ?_ rfl (λr hr=>by rw[hr])
 .have B:i<f.2.2.2.2.2.2.length:=W
  have A:i<ar (shS f):=by omega
  have U:i<f.2.1.length:=A;have O:i<f.2.2.1.length:=by
   have:f.2.2.1.length=f.2.1.length:=a3;omega
  obtain⟨b1,b2⟩:=u.fr i A;obtain⟨b3,Z⟩:=u.to i A;have g1:(0:Int)<=f.2.1.getD i 0/\f.2.1.getD i 0<((f.2.2.2.2.2.1.length:Nat):Int):=⟨b1,by rw[show((f.2.2.2.2.2.1.length:Nat):Int)=f.1 from J];exact b2⟩
  have g2:(0:Int)<=f.2.2.1.getD i 0/\f.2.2.1.getD i 0<((f.2.2.2.2.2.1.length:Nat):Int):=⟨b3,by rw[show((f.2.2.2.2.2.1.length:Nat):Int)=f.1 from J];exact Z⟩
  simp only[Af,B,decide_true,cond_true,Ac B,Ac U,Ac O,g1,g2,and_self,if_true,tNC];rw[Ah (by omega) (by omega)]
  obtain⟨z1,z2⟩:=sz_in J hw (x:=tT (shS f) i) ⟨b3,Z⟩;have e4:G155 (f.2.2.2.2.2.2.getD i [],(f.2.2.2.2.2.1.getD (f.2.1.getD i 0).toNat 0,f.2.2.2.2.2.1.getD (f.2.2.1.getD i 0).toNat 0))=some (MO f i):=p155 (x:=act f i) (k:=sz f (fT (shS f) i)) (n:=sz f (tT (shS f) i)) ⟨z1,by omega⟩ (XQ h W)
  rw[e4,bind_some];cases MO f i with
  |true=>exact D6 rfl
  |false=>exact HN ⟨_,rfl,rfl⟩
 .have e:decide ((((acF f).length:Nat):Int)<((f.2.2.2.2.2.2.length:Nat):Int))=false:=by rw[Af];exact dF (lt_irrefl _)
  simp only[e,cond_false]
structure FS(f:SF):Prop where
 cat:Hc (shS f)=true
 sh:Sh (shS f)
 sp:DW (shS f)=true
 l1:((szF f).length:Int)=f.1
 l2:(acF f).length=ar (shS f)
 w:wi 17 (szF f)=true
 al:∀a,a<ar (shS f)->((act f a).length:Int)=sz f (fT (shS f) a)
 aw:∀a,a<ar (shS f)->wi (sz f (tT (shS f) a)) (act f a)=true
theorem AbV(h:Hq f=true):FS f:=by
 unfold Hq Y4 at h;simp only[bAE,decide_eq_true_eq]at h;obtain⟨⟨u,O,E,J⟩,h5⟩:=h;have E:(acF f).length=ar (shS f):=by omega
 have B:∀a,a<ar (shS f)->MO f a=true:=λa B=>aET.1 h5 a (List.mem_range.2 (by omega))
 refine⟨u,IY u,?_,O,E,J,λa A=>?_,λa A=>?_⟩
 .unfold Hc at u
  rw[bAE]at u;exact u.1
 .have:=B a A
  unfold MO at this;rw[bAE,decide_eq_true_eq]at this;exact this.1
 .have:=B a A
  unfold MO at this;rw[bAE]at this;exact this.2
def FS.szi(h:FS f)(u:0<=x/\x<f.1):0<=sz f x/\sz f x<=16:=sz_in h.l1 h.w u
def Aaa(f:SF)(x:Nat):Int:=f.2.2.2.1.getD x 0
def FS.ida(h:FS f){x:Nat}(B:x<f.2.2.2.1.length):∃a:Nat,a<ar (shS f)/\Aaa f x=(a:Int)/\fT (shS f) a=(x:Int):=by
 have u:=h.sp;unfold DW at u;rw[bAE,bAE]at u;have A:=aET.1 u.2.1 x (List.mem_range.2 B);unfold Vg at A;rw[bAE,decide_eq_true_eq,decide_eq_true_eq]at A;obtain⟨a1,a2,a3,a4,a5,a6,a7,a8⟩:=h.sh.hd;obtain⟨g1,g2⟩:=DY a8 B;have g1:0<=Aaa f x:=g1;have g2:Aaa f x<(ar (shS f):Int):=g2;refine⟨(Aaa f x).toNat,by omega,by omega,A.1⟩
def Pn(f:SF)(x e:Nat):Bool:=decide ((act f (Aaa f x).toNat).getD e 0=(e:Int))
def idS(f:SF):Bool:=(range f.2.2.2.1.length).all λx=>(range (sz f (x:Int)).toNat).all (Pn f x)
def Xz(f:SF)(a b e:Nat):Bool:=decide ((act f (T (shS f) a b).toNat).getD e 0=(act f b).getD ((act f a).getD e 0).toNat 0)
def coB(f:SF)(a b:Nat):Bool:=!mt (shS f) a b||(range (sz f (fT (shS f) a)).toNat).all (Xz f a b)
def coS(f:SF):Bool:=(range (ar (shS f))).all λa=>(range (ar (shS f))).all (coB f a)
abbrev R4:=Int×Int×Int×Int
def X6(r:R4):Prop:=decide (r.1=0)=false
def FS.el(h:FS f){b e:Nat}(u:a<ar (shS f))(J:b<ar (shS f))(E:mt (shS f) a b=true)(O:e<(act f a).length):∃t:Nat,t<ar (shS f)/\T (shS f) a b=(t:Int)/\e<(act f t).length/\∃d:Nat,(act f a).getD e 0=(d:Int)/\d<(act f b).length:=by
 obtain⟨t1,t2,t3,t4⟩:=h.sh.pos a b u J E;have t2:T (shS f) a b<(ar (shS f):Int):=t2;have B:(T (shS f) a b).toNat<ar (shS f):=by omega
 refine⟨(T (shS f) a b).toNat,B,by omega,?_,?_⟩
 .have W:=h.al a u
  have A:=h.al _ B;have U:fT (shS f) (T (shS f) a b).toNat=fT (shS f) a:=t3;rw[U]at A;omega
 .obtain⟨g1,g2⟩:=DY (h.aw a u) O
  have W:=h.al b J;have A:tT (shS f) a=fT (shS f) b:=of_decide_eq_true E;rw[A]at g2;exact⟨((act f a).getD e 0).toNat,by omega,by omega⟩
theorem p133(h:FS f):∃r,G133 f=some r/\decide (r.1=0)=(idS f&&coS f):=by
 obtain⟨a1,a2,a3,a4,a5,a6,a7,a8⟩:=h.sh.hd;have l1:((f.2.2.2.2.2.1.length:Nat):Int)=f.1:=h.l1;have l2:f.2.2.2.2.2.2.length=ar (shS f):=h.l2;have c4:((f.2.2.2.1.length:Nat):Int)=f.1:=a7;have hf1:f.1<=8:=a1.2;have hm:ar (shS f)<=40:=a2
 delta G133 idS lw l2 g2 lt gd li l0 q4 sc nx bk
 refine Aap (n:=f.2.2.2.1.length) (p:=λx=>(range (sz f (x:Int)).toNat).all (Pn f x)) (bad:=X6) (id:=0) (Post:=λb (o:Option R4)=>∃r,o=some r/\decide (r.1=0)=(b&&coS f)) (λx hx=>?_) ?_ ?_ (λr hr=>⟨r,rfl,hr⟩)
 .have hxf:decide ((x:Int)<f.1)=true:=dT (by omega)
  simp only[hxf,cond_true];have hz:=h.szi (x:=(x:Int)) ⟨by omega,by omega⟩
  obtain⟨n,B⟩:∃n:Nat,sz f (x:Int)=(n:Int):=⟨(sz f (x:Int)).toNat,by omega⟩
  rw[B,tNC];refine Acz (n:=n) (p:=Pn f x) (bad:=X6) (id:=2) (s:=((x+1:Nat):Int)) (λe he=>?_) ?_ ?_
  .obtain⟨a,O,ea,ef⟩:=h.ida hx
   have A:x<f.2.2.2.2.2.1.length:=by omega
   have ea':f.2.2.2.1.getD x 0=(a:Int):=ea;have Z:a<f.2.2.2.2.2.2.length:=by omega
   have u:f.2.2.2.2.2.1.getD x 0=(n:Int):=B
   have E:e<(act f a).length:=by
    have:=h.al a O;rw[ef,B]at this;omega
   have U:e<(f.2.2.2.2.2.2.getD a []).length:=E;simp only[Ac A,Ac hx,and_self,if_true,tNC,u,Af,he,decide_true,cond_true,ea',Ac Z,Ac U];rw[Ah (by omega) (by omega)]
   unfold Pn;rw[ea,tNC];show UO _ _ (decide ((f.2.2.2.2.2.2.getD a []).getD e 0=(e:Int))) _;cases decide ((f.2.2.2.2.2.2.getD a []).getD e 0=(e:Int))with
   |true=>exact D6 rfl
   |false=>exact HN ⟨_,rfl,_,rfl,rfl⟩
  .have A:x<f.2.2.2.2.2.1.length:=by omega
   have u:f.2.2.2.2.2.1.getD x 0=(n:Int):=B;simp only[Ac A,and_self,if_true,tNC,u,Af,lt_irrefl,decide_false,cond_false]
  .show(if 2=2 then _ else none)=_
   rw[if_pos rfl,Ah (by omega) (by omega)];rfl
 .have e:decide (((f.2.2.2.1.length:Nat):Int)<f.1)=false:=dF (by omega)
  simp only[e,cond_false]
 .show ∃r,(if 0=0 then _ else none)=some r/\_
  rw[if_pos rfl,Bool.true_and];unfold coS;refine Aap (n:=ar (shS f)) (p:=λa=>(range (ar (shS f))).all (coB f a)) (bad:=X6) (id:=4) (Post:=λb (o:Option R4)=>∃r,o=some r/\decide (r.1=0)=b) (λa O=>?_) ?_ ⟨_,rfl,rfl⟩ (λr hr=>⟨r,rfl,hr⟩)
  .have J:a<f.2.1.length:=O
   have ha3:a<f.2.2.1.length:=by
    have:f.2.2.1.length=f.2.1.length:=a3;omega
   simp only[Af,J,decide_true,cond_true];refine Acz (n:=ar (shS f)) (p:=coB f a) (bad:=X6) (id:=6) (s:=((a+1:Nat):Int)) (λb hb=>?_) ?_ ?_
   .have Y:b<f.2.1.length:=hb
    simp only[Af,Y,decide_true,cond_true,Ac ha3,Ac Y,and_self,if_true,tNC];unfold coB;show UO _ _ (!decide (f.2.2.1.getD a 0=f.2.1.getD b 0)||_) _;cases hm:decide (f.2.2.1.getD a 0=f.2.1.getD b 0)with
    |false=>
     refine D6 ?_;rw[Bool.not_false,cond_true,Ah (by omega) (by omega)];rfl
    |true=>
     have hm:mt (shS f) a b=true:=hm;rw[Bool.not_true,cond_false,Bool.false_or];obtain⟨f1,f2⟩:=h.sh.fr a O;obtain⟨z1,z2⟩:=h.szi (x:=fT (shS f) a) ⟨f1,f2⟩;have Z:=h.al a O;obtain⟨n,B⟩:∃n:Nat,sz f (fT (shS f) a)=(n:Int):=⟨(sz f (fT (shS f) a)).toNat,by omega⟩
     rw[B,tNC];have hg:(0:Int)<=f.2.1.getD a 0/\f.2.1.getD a 0<((f.2.2.2.2.2.1.length:Nat):Int):=⟨f1,by rw[l1];exact f2⟩
     have u:f.2.2.2.2.2.1.getD (f.2.1.getD a 0).toNat 0=(n:Int):=B;refine Acz (n:=n) (p:=Xz f a b) (bad:=lift X6) (id:=8) (s:=((b+1:Nat):Int)) (λe he=>?_) ?_ ?_
     .have W:e<(act f a).length:=by omega
      obtain⟨t,ht,et,E,d,ed,hd⟩:=h.el O hb hm W;have r1:a<f.2.2.2.2.1.length:=by
       have:f.2.2.2.2.1.length=f.2.1.length:=a6;omega
      have r2:b<(f.2.2.2.2.1.getD a []).length:=by
       have:(f.2.2.2.2.1.getD a []).length=f.2.1.length:=h.sh.row a O;omega
      have et':(f.2.2.2.2.1.getD a []).getD b 0=(t:Int):=et;have ed':(f.2.2.2.2.2.2.getD a []).getD e 0=(d:Int):=ed;have q1:t<f.2.2.2.2.2.2.length:=by omega
      have q2:e<(f.2.2.2.2.2.2.getD t []).length:=E;have q3:b<f.2.2.2.2.2.2.length:=by omega
      have q4:a<f.2.2.2.2.2.2.length:=by omega
      have q5:e<(f.2.2.2.2.2.2.getD a []).length:=W;have q6:d<(f.2.2.2.2.2.2.getD b []).length:=hd;simp only[Ac J,hg,u,Af,he,decide_true,cond_true,Ac r1,Ac r2,et',Ac q1,Ac q2,Ac q3,Ac q4,Ac q5,ed',Ac q6,and_self,if_true,tNC];rw[Ah (by omega) (by omega)]
      unfold Xz;rw[et,ed,tNC,tNC];show UO _ _ (decide ((f.2.2.2.2.2.2.getD t []).getD e 0=(f.2.2.2.2.2.2.getD b []).getD d 0)) _;cases decide ((f.2.2.2.2.2.2.getD t []).getD e 0=(f.2.2.2.2.2.2.getD b []).getD d 0)with
      |true=>exact D6 rfl
      |false=>exact HN ⟨_,rfl,_,rfl,_,rfl,rfl⟩
     .simp only[Ac J,hg,u,Af,lt_irrefl,decide_false,cond_false,and_self,if_true,tNC]
     .show(if 8=8 then _ else none)=_
      rw[if_pos rfl,Ah (by omega) (by omega)];rfl
   .have e:decide (((ar (shS f):Nat):Int)<((f.2.1.length:Nat):Int))=false:=by rw[Af];exact dF (lt_irrefl _)
    simp only[e,cond_false]
   .show(if 6=6 then _ else none)=_
    rw[if_pos rfl,Ah (by omega) (by omega)];rfl
  .have e:decide (((ar (shS f):Nat):Int)<((f.2.1.length:Nat):Int))=false:=by rw[Af];exact dF (lt_irrefl _)
   simp only[e,cond_false]
end Go.Ve.D

