/- Sets of arrows: what they compute. -/
import Derived.Test.YtmmmafnkggaknaaGreatYnb
set_option linter.all false
namespace Go.Ve.D
open Go Go.Ve
variable{x:List Int}
def IR{c:Cat}(h:HF c=true):Sh c:=by
 unfold HF at h;rw[bAE]at h;exact Zl h.1
def VX{α R:Type}{f:(Int×List α)->Option (LO (Int×List α) R)}{n:Nat}{q:Nat->Bool}{g:Nat->α}{id:Nat}
  (J:∀i,i<n->∀e:List α,e.length<=i->f ((i:Int),e)=some (.next (((i+1:Nat):Int),bif q i then e++[g i]else e)))
  (E:∀e:List α,f ((n:Int),e)=some (.brk id ((n:Int),e))):
  Aj f ((0:Int),[])=some (.brk id ((n:Int),((List.range n).filter q).map g)):=by
 have u:∀i,(((List.range i).filter q).map g).length<=i:=λi=>by
  rw[List.length_map];have:=List.length_filter_le q (List.range i);rwa [List.length_range]at this
 refine CZ (st:=λi:Nat=>((i:Int),((List.range i).filter q).map g)) (n:=n) (λi B=>?_) (E _) (λy=>by simp)
 rw[J i B _ (u i),List.range_succ,List.filter_append,List.map_append]
 congr 3
 cases A:q i<;>simp[A]
def fT(c:Cat)(f:Nat):Int:=c.2.1.getD f 0
def tT(c:Cat)(f:Nat):Int:=c.2.2.1.getD f 0
def ar(c:Cat):Nat:=c.2.1.length
def p98(h:x.length<=1048576)(a:Int):G98 (x,a)=some (x.contains a):=by
 unfold G98;simp only
 have e:x.contains a= !((List.range x.length).all λi=>!decide (x.getD i 0=a)):=by
  rw[Io (0:Int) (λb=>!decide (b=a)) x,Bool.eq_iff_iff]
  simp[List.contains_eq_mem]
 refine Ae (Bq (st:=λi:Nat=>(i:Int)) (n:=x.length) (p:=λi=>!decide (x.getD i 0=a)) (r:=true) (o:=.brk 0 (x.length:Int)) (λi u=>?_) ?_ (λy=>by simp)) ?_
 .simp only[Am,u,decide_true,cond_true,Ac u,if_true,and_self,tNC]
  rw[Ah (by omega) (by omega)]
  cases decide (x.getD i 0=a)<;>rfl
 .simp only[Am,Nat.lt_irrefl,decide_false,cond_false]
 .rw[e]
  cases (List.range x.length).all λi=>!decide (x.getD i 0=a)<;>rfl
def OY(x:List Int):Bool:=(List.range (x.length-1)).all λi=>!decide (x.getD (i+1) 0<=x.getD i 0)
def p97(h:x.length<=1048576):G97 x=some (OY x):=by
 unfold G97 OY;by_cases A:x.length=0
 .rw[Bu]
  have e:decide ((1:Int)<((x.length:Nat):Int))=false:=by simp;omega
  simp only[e,cond_false,Option.bind_some];rw[A];rfl
 refine Ae (Bq (st:=λi:Nat=>((i+1:Nat):Int)) (n:=x.length-1) (p:=λi=>!decide (x.getD (i+1) 0<=x.getD i 0)) (r:=false) (o:=.brk 0 (x.length:Int)) (λi J=>?_) ?_ (λy=>by simp)) ?_
 .have u:i+1<x.length:=by omega
  have E:IntKind.wrap .i64 (((i+1:Nat):Int)-1)=((i:Nat):Int):=by rw[Ah (by omega) (by omega)];omega
  have B:IntKind.wrap .i64 (((i+1:Nat):Int)+1)=((i+1+1:Nat):Int):=by rw[Ah (by omega) (by omega)];omega
  simp only[Am,u,decide_true,cond_true,Ac u,E,B,Ac (show i<x.length by omega),if_true,and_self,tNC]
  cases decide (x.getD (i+1) 0<=x.getD i 0)<;>rfl
 .have e:decide (((x.length-1+1:Nat):Int)<((x.length:Nat):Int))=false:=by simp;omega
  simp only[e,cond_false]
  congr 2
  omega
 .cases (List.range (x.length-1)).all λi=>!decide (x.getD (i+1) 0<=x.getD i 0)<;>rfl
def p91(h:x.length<=1048576):G91 x=some (OY x):=by
 unfold G91 OY;by_cases A:x.length=0
 .rw[Bu]
  have e:decide ((1:Int)<((x.length:Nat):Int))=false:=by simp;omega
  simp only[e,cond_false,Option.bind_some];rw[A];rfl
 refine Ae (Bq (st:=λi:Nat=>((i+1:Nat):Int)) (n:=x.length-1) (p:=λi=>!decide (x.getD (i+1) 0<=x.getD i 0)) (r:=false) (o:=.brk 0 (x.length:Int)) (λi J=>?_) ?_ (λy=>by simp)) ?_
 .have u:i+1<x.length:=by omega
  have E:IntKind.wrap .i64 (((i+1:Nat):Int)-1)=((i:Nat):Int):=by rw[Ah (by omega) (by omega)];omega
  have B:IntKind.wrap .i64 (((i+1:Nat):Int)+1)=((i+1+1:Nat):Int):=by rw[Ah (by omega) (by omega)];omega
  simp only[Am,u,decide_true,cond_true,Ac u,E,B,Ac (show i<x.length by omega),if_true,and_self,tNC]
  cases decide (x.getD (i+1) 0<=x.getD i 0)<;>rfl
 .have e:decide (((x.length-1+1:Nat):Int)<((x.length:Nat):Int))=false:=by simp;omega
  simp only[e,cond_false]
  congr 2
  omega
 .cases (List.range (x.length-1)).all λi=>!decide (x.getD (i+1) 0<=x.getD i 0)<;>rfl
def arrC(c:Cat)(w:List Int):Int:=bif !HF c then 1 else bif !wi (ar c) w then 2 else 0
def Aaz(c:Cat)(w:List Int):Int:=bif decide (arrC c w=0)&& !OY w then 5 else arrC c w
end Go.Ve.D


namespace Go.Ve.D
open Go Go.Ve
def QZ{n:Nat}{p q:Nat->Bool}(h:∀i,i<n->p i=q i):(List.range n).all p=(List.range n).all q:=by
 rw[Bool.eq_iff_iff,aET,aET];exact⟨λH i e=>by rw[<-h i (List.mem_range.1 e)];exact H i e,λH i e=>by rw[h i (List.mem_range.1 e)];exact H i e⟩
end Go.Ve.D


namespace Go.Ve.D
open Go Go.Ve
def hit(c:Cat)(w:List Int)(f v:Nat)(b a:Int):Bool:=w.contains b&&decide (T c b.toNat f=T c a.toNat v)
end Go.Ve.D


namespace Go.Ve.D
open Go Go.Ve
variable{m:Nat}{q:Nat->Bool}
def Vp(c:Cat)(x:Int):List Int:=((List.range (ar c)).filter λf=>decide (fT c f=x)).map fun(f:Nat)=>(f:Int)
def p75{c:Cat}(A:c.2.1.length<=1048576)(x:Int):G75 (c,x)=some (Vp c x):=by
 obtain⟨c1,c2,c3,c4,c5⟩:=c;unfold G75;simp only at A⊢;refine Ae (v:=.brk 0 ((c2.length:Int),Vp (c1,(c2,(c3,(c4,c5)))) x)) (VX (λi u e B=>?_) λe=>?_) rfl
 .simp only[Am,u,decide_true,cond_true,Ac u,if_true,and_self,tNC,List.length_cons,List.length_nil]
  rw[Ah (by omega) (by omega),if_pos (show e.length+(0+1)<=17592186044416 by omega)]
  show _=some (LO.next (((i+1:Nat):Int),bif decide (c2.getD i 0=x)then e++[(i:Int)]else e))
  cases decide (c2.getD i 0=x)<;>rfl
 .simp only[Am,Nat.lt_irrefl,decide_false,cond_false]
def Yz{i:Nat}(A:i<(((List.range m).filter q).map fun(f:Nat)=>(f:Int)).length):∃f:Nat,f<m/\q f=true/\(((List.range m).filter q).map fun(f:Nat)=>(f:Int)).getD i 0=(f:Int):=by
 have u:=DE (0:Int) A;obtain⟨f,B,e⟩:=List.mem_map.1 u;obtain⟨J,E⟩:=List.mem_filter.1 B;exact⟨f,List.mem_range.1 J,E,e.symm⟩
def Yy:(((List.range m).filter q).map fun(f:Nat)=>(f:Int)).length<=m:=by
 rw[List.length_map];have:=List.length_filter_le q (List.range m);rwa [List.length_range]at this
end Go.Ve.D


namespace Go.Ve.D
open Go Go.Ve
variable{s x:Int}{a:Nat}{R:Type}
theorem chk2{S:Type}{F:Int->Option (LO Int R)}{n:Nat}{p:Nat->Bool}{Q:R->Prop}{o:LO Int R}{k:LO Int R->Option S}{Post:Bool->Option S->Prop}
  (U:∀i,i<n->(p i=true->F (i:Int)=some (.next ((i+1:Nat):Int)))/\(p i=false->∃r,F (i:Int)=some (.ret r)/\Q r)) (J:F (n:Int)=some o) (A:∀y,o≠.next y)
  (E:Post true (k o)) (B:∀r,Q r->Post false (k (.ret r))):Post ((List.range n).all p) (Option.bind (Aj F (0:Int)) k):=by
 refine BK (st:=λi:Nat=>(i:Int)) (p:=p) (Q:=Q) (o:=o) (Post:=λx=>Post ((List.range n).all p) x) U J A (λe=>?_) (λe r u=>?_)
 .rw[e];exact E
 .rw[e];exact B r u
def Oo{R:Type}(bad:R->Prop)(s:Int)(p:Bool)(o:Option (LO Int R)):Prop:=(p=true->o=some (.next s))/\(p=false->∃r,o=some (.ret r)/\bad r)
def lift{R:Type}(bad:R->Prop)(r:LO Int R):Prop:=∃r',r=.ret r'/\bad r'
theorem YI{bad:R->Prop}{F:Int->Option (LO Int (LO Int R))}{n:Nat}{p:Nat->Bool}{id:Nat}{s:Int}{g:Nat->Int->Option (LO Int R)}
  (J:∀i,i<n->Oo (lift bad) ((i+1:Nat):Int) (p i) (F (i:Int))) (E:F (n:Int)=some (.brk id (n:Int))) (A:g id (n:Int)=some (.next s)):
  Oo bad s ((List.range n).all p) (Option.bind (Aj F (0:Int)) (LO.fin g)):=by
 refine BK (st:=λi:Nat=>(i:Int)) (p:=p) (Q:=lift bad) (o:=.brk id (n:Int)) (Post:=λx=>Oo bad s ((List.range n).all p) x) J E (λy=>by simp) (λe=>?_) (λe r u=>?_)
 .rw[e]
  exact⟨λ_=>A,(λh=>by cases h)⟩
 .rw[e]
  obtain⟨r',rfl,B⟩:=u;exact⟨(λh=>by cases h),λ_=>⟨r',rfl,B⟩⟩
def Q8{bad:R->Prop}{F:Int->Option (LO Int R)}{n:Nat}{p:Nat->Bool}{id:Nat}{g:Nat->Int->Option R}{Post:Bool->Option R->Prop}
  (E:∀i,i<n->Oo bad ((i+1:Nat):Int) (p i) (F (i:Int))) (B:F (n:Int)=some (.brk id (n:Int))) (A:Post true (g id (n:Int))) (u:∀r,bad r->Post false (some r)):
  Post ((List.range n).all p) (Option.bind (Aj F (0:Int)) (LO.fin g)):=
 chk2 (Q:=bad) E B (λy=>by simp) A λr e=>u r e
def Cn{bad:R->Prop}{o:Option (LO Int R)}(h:o=some (.next s)):Oo bad s true o:=⟨λ_=>h,(λh=>by cases h)⟩
def Co{bad:R->Prop}{o:Option (LO Int R)}(h:∃r,o=some (.ret r)/\bad r):Oo bad s false o:=⟨(λh=>by cases h),λ_=>h⟩
abbrev SF:=Int×List Int×List Int×List Int×List (List Int)×List Int×List (List Int)
variable{f:SF}
def shS(f:SF):Cat:=(f.1,(f.2.1,(f.2.2.1,(f.2.2.2.1,f.2.2.2.2.1))))
def szF(f:SF):List Int:=f.2.2.2.2.2.1
def acF(f:SF):List (List Int):=f.2.2.2.2.2.2
def okS(f:SF):Prop:=okC (shS f)/\(szF f).length<=1048576/\(acF f).length<=1048576/\∀y∈acF f,y.length<=1048576
def act(f:SF)(a:Nat):List Int:=(acF f).getD a []
def sz(f:SF)(x:Int):Int:=(szF f).getD x.toNat 0
def L3(f:SF)(a:Nat):Bool:=decide (((act f a).length:Int)=sz f (fT (shS f) a))&&wi (sz f (tT (shS f) a)) (act f a)
def XB(f:SF):Bool:=HF (shS f)&&(decide (((szF f).length:Int)=f.1)&&(decide (((acF f).length:Int)=(ar (shS f):Int))&&wi 17 (szF f)))
def Hj(f:SF):Bool:=XB f&&(List.range (acF f).length).all (L3 f)
theorem wi17(x:List Int):wi 17 x=(List.range x.length).all λi=>decide (0<=x.getD i 0)&&decide (x.getD i 0<=16):=by
 rw[Io (0:Int) (λa=>decide (0<=a)&&decide (a<=16)) x]
 unfold wi
 congr 1
 funext a
 unfold inn;rw[Bool.eq_iff_iff];simp only[bAE,decide_eq_true_eq];omega
def Zh(u:((szF f).length:Int)=f.1)(hs:wi 17 (szF f)=true)(e:0<=x/\x<f.1):0<=sz f x/\sz f x<=16:=by
 obtain⟨g1,g2⟩:=Cx hs (i:=x.toNat) (by omega)
 exact⟨g1,by unfold sz;omega⟩
def Wu(h:okS f)(e:a<(acF f).length):(act f a).length<=1048576:=h.2.2.2 _ (by
 unfold act;rw[gDE,gEE e];exact List.getElem_mem e)
def p95(h:okS f):G95 f=some (Hj f):=by
 have hh:=h;obtain⟨hc,hl,hal,hac⟩:=hh;unfold G95 Hj XB;have e1:(f.1,(f.2.1,(f.2.2.1,(f.2.2.2.1,f.2.2.2.2.1))))=shS f:=rfl;simp only[e1,p79 hc,Option.bind_some];cases E:HF (shS f)with
 |false=>rfl
 |true=>
 have A:=IR E;have hd:=A.hd;obtain⟨a1,a2,a3,a4,a5,a6,a7,a8⟩:=hd;simp only[Bool.not_true,cond_false,Bool.true_and,Option.bind_some];have e2:decide (((f.2.2.2.2.2.1.length:Nat):Int)=f.1)=decide (((szF f).length:Int)=f.1):=rfl;rw[e2];cases U:decide (((szF f).length:Int)=f.1)with
 |false=>rfl
 |true=>
 have U:=of_decide_eq_true U;simp only[Bool.not_true,cond_false,Bool.true_and,Option.bind_some];have e3:decide (((f.2.2.2.2.2.2.length:Nat):Int)=((f.2.1.length:Nat):Int))=decide (((acF f).length:Int)=(ar (shS f):Int)):=rfl;rw[e3];cases h2:decide (((acF f).length:Int)=(ar (shS f):Int))with
 |false=>rfl
 |true=>
 have h2:=of_decide_eq_true h2;simp only[Bool.not_true,cond_false,Bool.true_and,Option.bind_some];rw[wi17];refine Q8 (n:=(szF f).length) (p:=λi=>decide (0<=(szF f).getD i 0)&&decide ((szF f).getD i 0<=16)) (bad:=λr:Bool=>r=false) (id:=0) (Post:=λb (o:Option Bool)=>o=some (b&&(List.range (acF f).length).all (L3 f))) (λi J=>?_) ?_ ?_ (λr W=>by rw[W];rfl)
 .have u:i<f.2.2.2.2.2.1.length:=J
  simp only[Am,u,decide_true,cond_true,Ac u,and_self,if_true,tNC,p129,Option.bind_some];rw[Ah (by omega) (by omega)]
  show Oo _ _ (decide (0<=f.2.2.2.2.2.1.getD i 0)&&decide (f.2.2.2.2.2.1.getD i 0<=16)) _;cases decide (0<=f.2.2.2.2.2.1.getD i 0)&&decide (f.2.2.2.2.2.1.getD i 0<=16)with
  |true=>exact Cn rfl
  |false=>exact Co ⟨_,rfl,rfl⟩
 .have e:decide ((((szF f).length:Nat):Int)<((f.2.2.2.2.2.1.length:Nat):Int))=false:=by rw[Am];exact dF (Nat.lt_irrefl _)
  simp only[e,cond_false]
 .show(if 0=0 then _ else none)=_
  rw[if_pos rfl,Bool.true_and];refine Q8 (n:=(acF f).length) (p:=L3 f) (bad:=λr:Bool=>r=false) (id:=2) (Post:=λb (o:Option Bool)=>o=some b) (λi J=>?_) ?_ rfl (λr W=>by rw[W])
  .have u:i<f.2.2.2.2.2.2.length:=J
   have B:i<ar (shS f):=by omega
   have hi2:i<f.2.1.length:=B;have Z:i<f.2.2.1.length:=by
    have:f.2.2.1.length=f.2.1.length:=a3;omega
   obtain⟨b1,b2⟩:=A.fr i B;obtain⟨b3,b4⟩:=A.to i B;have g1:(0:Int)<=f.2.1.getD i 0/\f.2.1.getD i 0<((f.2.2.2.2.2.1.length:Nat):Int):=⟨b1,by rw[show((f.2.2.2.2.2.1.length:Nat):Int)=f.1 from U];exact b2⟩
   have g2:(0:Int)<=f.2.2.1.getD i 0/\f.2.2.1.getD i 0<((f.2.2.2.2.2.1.length:Nat):Int):=⟨b3,by rw[show((f.2.2.2.2.2.1.length:Nat):Int)=f.1 from U];exact b4⟩
   simp only[Am,u,decide_true,cond_true,Ac u,Ac hi2,Ac Z,g1,g2,and_self,if_true,tNC];rw[Ah (by omega) (by omega)]
   have e4:G80 (f.2.2.2.2.2.1.getD (f.2.2.1.getD i 0).toNat 0,f.2.2.2.2.2.2.getD i [])=some (wi (sz f (tT (shS f) i)) (act f i)):=p80 (Wu h J);rw[e4];show Oo _ _ (decide ((((f.2.2.2.2.2.2.getD i []).length:Nat):Int)=f.2.2.2.2.2.1.getD (f.2.1.getD i 0).toNat 0)&&wi (sz f (tT (shS f) i)) (act f i)) _;cases decide ((((f.2.2.2.2.2.2.getD i []).length:Nat):Int)=f.2.2.2.2.2.1.getD (f.2.1.getD i 0).toNat 0)with
   |false=>exact Co ⟨_,rfl,rfl⟩
   |true=>
    rw[Bool.true_and];cases wi (sz f (tT (shS f) i)) (act f i)with
    |true=>exact Cn rfl
    |false=>exact Co ⟨_,rfl,rfl⟩
  .have e:decide ((((acF f).length:Nat):Int)<((f.2.2.2.2.2.2.length:Nat):Int))=false:=by rw[Am];exact dF (Nat.lt_irrefl _)
   simp only[e,cond_false]
def p128{x:List Int}{k n:Int}(u:0<=n/\n<=9223372036854775807)(e:x.length<=1048576):G128 (x,(k,n))=some (decide ((x.length:Int)=k)&&wi n x):=by
 unfold G128;simp only[p84 u e,Option.bind_some];cases decide (((x.length:Nat):Int)=k)<;>rfl
theorem p89(h:okS f):G89 f=some (Hj f):=by
 have hh:=h;obtain⟨hc,hl,hal,hac⟩:=hh;unfold G89 Hj XB;have e1:(f.1,(f.2.1,(f.2.2.1,(f.2.2.2.1,f.2.2.2.2.1))))=shS f:=rfl;have ew:G84 (f.2.2.2.2.2.1,(17:Int))=some (wi 17 (szF f)):=p84 (by omega) hl
 simp only[e1,p83 hc,ew,p39,Option.bind_some];cases E:HF (shS f)with
 |false=>rfl
 |true=>
 have u:=IR E;have hd:=u.hd;obtain⟨a1,a2,a3,a4,a5,a6,a7,a8⟩:=hd;simp only[Bool.not_true,cond_false,Bool.true_and,Option.bind_some];have e2:decide (((f.2.2.2.2.2.1.length:Nat):Int)=f.1)=decide (((szF f).length:Int)=f.1):=rfl;rw[e2];cases J:decide (((szF f).length:Int)=f.1)with
 |false=>rfl
 |true=>
 have J:=of_decide_eq_true J;simp only[Bool.not_true,cond_false,Bool.true_and,Option.bind_some];have e3:decide (((f.2.2.2.2.2.2.length:Nat):Int)=(((shS f).2.1.length:Nat):Int))=decide (((acF f).length:Int)=(ar (shS f):Int)):=rfl;rw[e3];cases hw:wi 17 (szF f)with
 |false=>cases decide (((acF f).length:Int)=(ar (shS f):Int))<;>rfl
 |true=>
 simp only[Bool.not_true,cond_false,Option.bind_some];cases h2:decide (((acF f).length:Int)=(ar (shS f):Int))with
 |false=>rfl
 |true=>
 have h2:=of_decide_eq_true h2;simp only[Bool.not_true,cond_false,Bool.true_and,Option.bind_some];refine Q8 (n:=(acF f).length) (p:=L3 f) (bad:=λr:Bool=>r=false) (id:=0) (Post:=λb (o:Option Bool)=>o=some b) (λi Z=>?_) ?_ rfl (λr hr=>by rw[hr])
 .have B:i<f.2.2.2.2.2.2.length:=Z
  have A:i<ar (shS f):=by omega
  have W:i<f.2.1.length:=A;have U:i<f.2.2.1.length:=by
   have:f.2.2.1.length=f.2.1.length:=a3;omega
  obtain⟨b1,b2⟩:=u.fr i A;obtain⟨b3,b4⟩:=u.to i A;have g1:(0:Int)<=f.2.1.getD i 0/\f.2.1.getD i 0<((f.2.2.2.2.2.1.length:Nat):Int):=⟨b1,by rw[show((f.2.2.2.2.2.1.length:Nat):Int)=f.1 from J];exact b2⟩
  have g2:(0:Int)<=f.2.2.1.getD i 0/\f.2.2.1.getD i 0<((f.2.2.2.2.2.1.length:Nat):Int):=⟨b3,by rw[show((f.2.2.2.2.2.1.length:Nat):Int)=f.1 from J];exact b4⟩
  simp only[Am,B,decide_true,cond_true,Ac B,Ac W,Ac U,g1,g2,and_self,if_true,tNC];rw[Ah (by omega) (by omega)]
  obtain⟨z1,z2⟩:=Zh J hw (x:=tT (shS f) i) ⟨b3,b4⟩;have e4:G128 (f.2.2.2.2.2.2.getD i [],(f.2.2.2.2.2.1.getD (f.2.1.getD i 0).toNat 0,f.2.2.2.2.2.1.getD (f.2.2.1.getD i 0).toNat 0))=some (L3 f i):=p128 (x:=act f i) (k:=sz f (fT (shS f) i)) (n:=sz f (tT (shS f) i)) ⟨z1,by omega⟩ (Wu h Z)
  rw[e4,Option.bind_some];cases L3 f i with
  |true=>exact Cn rfl
  |false=>exact Co ⟨_,rfl,rfl⟩
 .have e:decide ((((acF f).length:Nat):Int)<((f.2.2.2.2.2.2.length:Nat):Int))=false:=by rw[Am];exact dF (Nat.lt_irrefl _)
  simp only[e,cond_false]
structure FS(f:SF):Prop where
 cat:HF (shS f)=true
 sh:Sh (shS f)
 sp:DR (shS f)=true
 l1:((szF f).length:Int)=f.1
 l2:(acF f).length=ar (shS f)
 w:wi 17 (szF f)=true
 al:∀a,a<ar (shS f)->((act f a).length:Int)=sz f (fT (shS f) a)
 aw:∀a,a<ar (shS f)->wi (sz f (tT (shS f) a)) (act f a)=true
theorem Aac(h:Hj f=true):FS f:=by
 unfold Hj XB at h;simp only[bAE,decide_eq_true_eq]at h;obtain⟨⟨e,J,B,E⟩,h5⟩:=h;have B:(acF f).length=ar (shS f):=by omega
 have A:∀a,a<ar (shS f)->L3 f a=true:=λa A=>aET.1 h5 a (List.mem_range.2 (by omega))
 refine⟨e,IR e,?_,J,B,E,λa u=>?_,λa u=>?_⟩
 .unfold HF at e
  rw[bAE]at e;exact e.1
 .have:=A a u
  unfold L3 at this;rw[bAE,decide_eq_true_eq]at this;exact this.1
 .have:=A a u
  unfold L3 at this;rw[bAE]at this;exact this.2
def FS.szi(h:FS f)(e:0<=x/\x<f.1):0<=sz f x/\sz f x<=16:=Zh h.l1 h.w e
def AaH(f:SF)(x:Nat):Int:=f.2.2.2.1.getD x 0
def FS.ida(h:FS f){x:Nat}(u:x<f.2.2.2.1.length):∃a:Nat,a<ar (shS f)/\AaH f x=(a:Int)/\fT (shS f) a=(x:Int):=by
 have hs:=h.sp;unfold DR at hs;rw[bAE,bAE]at hs;have e:=aET.1 hs.2.1 x (List.mem_range.2 u);unfold Q7 at e;rw[bAE,decide_eq_true_eq,decide_eq_true_eq]at e;obtain⟨a1,a2,a3,a4,a5,a6,a7,a8⟩:=h.sh.hd;obtain⟨g1,g2⟩:=Cx a8 u;have g1:0<=AaH f x:=g1;have g2:AaH f x<(ar (shS f):Int):=g2;refine⟨(AaH f x).toNat,by omega,by omega,e.1⟩
def Ot(f:SF)(x e:Nat):Bool:=decide ((act f (AaH f x).toNat).getD e 0=(e:Int))
def idS(f:SF):Bool:=(List.range f.2.2.2.1.length).all λx=>(List.range (sz f (x:Int)).toNat).all (Ot f x)
def V9(f:SF)(a b e:Nat):Bool:=decide ((act f (T (shS f) a b).toNat).getD e 0=(act f b).getD ((act f a).getD e 0).toNat 0)
def coB(f:SF)(a b:Nat):Bool:=!mt (shS f) a b||(List.range (sz f (fT (shS f) a)).toNat).all (V9 f a b)
def coS(f:SF):Bool:=(List.range (ar (shS f))).all λa=>(List.range (ar (shS f))).all (coB f a)
abbrev R4:=Int×Int×Int×Int
def WG(r:R4):Prop:=decide (r.1=0)=false
def FS.el(h:FS f){b e:Nat}(u:a<ar (shS f))(J:b<ar (shS f))(E:mt (shS f) a b=true)(U:e<(act f a).length):∃t:Nat,t<ar (shS f)/\T (shS f) a b=(t:Int)/\e<(act f t).length/\∃d:Nat,(act f a).getD e 0=(d:Int)/\d<(act f b).length:=by
 obtain⟨t1,t2,t3,t4⟩:=h.sh.pos a b u J E;have t2:T (shS f) a b<(ar (shS f):Int):=t2;have B:(T (shS f) a b).toNat<ar (shS f):=by omega
 refine⟨(T (shS f) a b).toNat,B,by omega,?_,?_⟩
 .have Z:=h.al a u
  have A:=h.al _ B;have W:fT (shS f) (T (shS f) a b).toNat=fT (shS f) a:=t3;rw[W]at A;omega
 .obtain⟨g1,g2⟩:=Cx (h.aw a u) U
  have Z:=h.al b J;have A:tT (shS f) a=fT (shS f) b:=of_decide_eq_true E;rw[A]at g2;exact⟨((act f a).getD e 0).toNat,by omega,by omega⟩
theorem p96(h:FS f):∃r,G96 f=some r/\decide (r.1=0)=(idS f&&coS f):=by
 obtain⟨a1,a2,a3,a4,a5,a6,a7,a8⟩:=h.sh.hd;have l1:((f.2.2.2.2.2.1.length:Nat):Int)=f.1:=h.l1;have l2:f.2.2.2.2.2.2.length=ar (shS f):=h.l2;have c4:((f.2.2.2.1.length:Nat):Int)=f.1:=a7;have hf1:f.1<=8:=a1.2;have hm:ar (shS f)<=40:=a2;unfold G96 idS;refine Q8 (n:=f.2.2.2.1.length) (p:=λx=>(List.range (sz f (x:Int)).toNat).all (Ot f x)) (bad:=WG) (id:=0) (Post:=λb (o:Option R4)=>∃r,o=some r/\decide (r.1=0)=(b&&coS f)) (λx hx=>?_) ?_ ?_ (λr hr=>⟨r,rfl,hr⟩)
 .have hxf:decide ((x:Int)<f.1)=true:=dT (by omega)
  simp only[hxf,cond_true];have hz:=h.szi (x:=(x:Int)) ⟨by omega,by omega⟩
  obtain⟨n,B⟩:∃n:Nat,sz f (x:Int)=(n:Int):=⟨(sz f (x:Int)).toNat,by omega⟩
  rw[B,tNC];refine YI (n:=n) (p:=Ot f x) (bad:=WG) (id:=2) (s:=((x+1:Nat):Int)) (λe he=>?_) ?_ ?_
  .obtain⟨a,U,ea,ef⟩:=h.ida hx
   have A:x<f.2.2.2.2.2.1.length:=by omega
   have ea':f.2.2.2.1.getD x 0=(a:Int):=ea;have hal:a<f.2.2.2.2.2.2.length:=by omega
   have u:f.2.2.2.2.2.1.getD x 0=(n:Int):=B
   have E:e<(act f a).length:=by
    have:=h.al a U;rw[ef,B]at this;omega
   have W:e<(f.2.2.2.2.2.2.getD a []).length:=E;simp only[Ac A,Ac hx,and_self,if_true,tNC,u,Am,he,decide_true,cond_true,ea',Ac hal,Ac W];rw[Ah (by omega) (by omega)]
   unfold Ot;rw[ea,tNC];show Oo _ _ (decide ((f.2.2.2.2.2.2.getD a []).getD e 0=(e:Int))) _;cases decide ((f.2.2.2.2.2.2.getD a []).getD e 0=(e:Int))with
   |true=>exact Cn rfl
   |false=>exact Co ⟨_,rfl,_,rfl,rfl⟩
  .have A:x<f.2.2.2.2.2.1.length:=by omega
   have u:f.2.2.2.2.2.1.getD x 0=(n:Int):=B;simp only[Ac A,and_self,if_true,tNC,u,Am,Nat.lt_irrefl,decide_false,cond_false]
  .show(if 2=2 then _ else none)=_
   rw[if_pos rfl,Ah (by omega) (by omega)];rfl
 .have e:decide (((f.2.2.2.1.length:Nat):Int)<f.1)=false:=dF (by omega)
  simp only[e,cond_false]
 .show ∃r,(if 0=0 then _ else none)=some r/\_
  rw[if_pos rfl,Bool.true_and];unfold coS;refine Q8 (n:=ar (shS f)) (p:=λa=>(List.range (ar (shS f))).all (coB f a)) (bad:=WG) (id:=4) (Post:=λb (o:Option R4)=>∃r,o=some r/\decide (r.1=0)=b) (λa U=>?_) ?_ ⟨_,rfl,rfl⟩ (λr hr=>⟨r,rfl,hr⟩)
  .have J:a<f.2.1.length:=U
   have ha3:a<f.2.2.1.length:=by
    have:f.2.2.1.length=f.2.1.length:=a3;omega
   simp only[Am,J,decide_true,cond_true];refine YI (n:=ar (shS f)) (p:=coB f a) (bad:=WG) (id:=6) (s:=((a+1:Nat):Int)) (λb hb=>?_) ?_ ?_
   .have hb2:b<f.2.1.length:=hb
    simp only[Am,hb2,decide_true,cond_true,Ac ha3,Ac hb2,and_self,if_true,tNC];unfold coB;show Oo _ _ (!decide (f.2.2.1.getD a 0=f.2.1.getD b 0)||_) _;cases hm:decide (f.2.2.1.getD a 0=f.2.1.getD b 0)with
    |false=>
     refine Cn ?_;rw[Bool.not_false,cond_true,Ah (by omega) (by omega)];rfl
    |true=>
     have hm:mt (shS f) a b=true:=hm;rw[Bool.not_true,cond_false,Bool.false_or];obtain⟨f1,f2⟩:=h.sh.fr a U;obtain⟨z1,z2⟩:=h.szi (x:=fT (shS f) a) ⟨f1,f2⟩;have hal:=h.al a U;obtain⟨n,B⟩:∃n:Nat,sz f (fT (shS f) a)=(n:Int):=⟨(sz f (fT (shS f) a)).toNat,by omega⟩
     rw[B,tNC];have hg:(0:Int)<=f.2.1.getD a 0/\f.2.1.getD a 0<((f.2.2.2.2.2.1.length:Nat):Int):=⟨f1,by rw[l1];exact f2⟩
     have u:f.2.2.2.2.2.1.getD (f.2.1.getD a 0).toNat 0=(n:Int):=B;refine YI (n:=n) (p:=V9 f a b) (bad:=lift WG) (id:=8) (s:=((b+1:Nat):Int)) (λe he=>?_) ?_ ?_
     .have Z:e<(act f a).length:=by omega
      obtain⟨t,ht,et,E,d,ed,hd⟩:=h.el U hb hm Z;have r1:a<f.2.2.2.2.1.length:=by
       have:f.2.2.2.2.1.length=f.2.1.length:=a6;omega
      have r2:b<(f.2.2.2.2.1.getD a []).length:=by
       have:(f.2.2.2.2.1.getD a []).length=f.2.1.length:=h.sh.row a U;omega
      have et':(f.2.2.2.2.1.getD a []).getD b 0=(t:Int):=et;have ed':(f.2.2.2.2.2.2.getD a []).getD e 0=(d:Int):=ed;have q1:t<f.2.2.2.2.2.2.length:=by omega
      have q2:e<(f.2.2.2.2.2.2.getD t []).length:=E;have q3:b<f.2.2.2.2.2.2.length:=by omega
      have q4:a<f.2.2.2.2.2.2.length:=by omega
      have q5:e<(f.2.2.2.2.2.2.getD a []).length:=Z;have q6:d<(f.2.2.2.2.2.2.getD b []).length:=hd;simp only[Ac J,hg,u,Am,he,decide_true,cond_true,Ac r1,Ac r2,et',Ac q1,Ac q2,Ac q3,Ac q4,Ac q5,ed',Ac q6,and_self,if_true,tNC];rw[Ah (by omega) (by omega)]
      unfold V9;rw[et,ed,tNC,tNC];show Oo _ _ (decide ((f.2.2.2.2.2.2.getD t []).getD e 0=(f.2.2.2.2.2.2.getD b []).getD d 0)) _;cases decide ((f.2.2.2.2.2.2.getD t []).getD e 0=(f.2.2.2.2.2.2.getD b []).getD d 0)with
      |true=>exact Cn rfl
      |false=>exact Co ⟨_,rfl,_,rfl,_,rfl,rfl⟩
     .simp only[Ac J,hg,u,Am,Nat.lt_irrefl,decide_false,cond_false,and_self,if_true,tNC]
     .show(if 8=8 then _ else none)=_
      rw[if_pos rfl,Ah (by omega) (by omega)];rfl
   .have e:decide (((ar (shS f):Nat):Int)<((f.2.1.length:Nat):Int))=false:=by rw[Am];exact dF (Nat.lt_irrefl _)
    simp only[e,cond_false]
   .show(if 6=6 then _ else none)=_
    rw[if_pos rfl,Ah (by omega) (by omega)];rfl
  .have e:decide (((ar (shS f):Nat):Int)<((f.2.1.length:Nat):Int))=false:=by rw[Am];exact dF (Nat.lt_irrefl _)
   simp only[e,cond_false]
end Go.Ve.D

