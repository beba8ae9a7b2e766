/- Tables: squares, associativity. -/
import Derived.Test.YtojjlnbnneemaaaEba
set_option linter.all false
namespace Go.Ve.D
open Go Go.Ve
noncomputable section
variable{t:List (List Int)}{n u:Nat}
def cell(t:List (List Int))(i j:Nat):Int:=(t.getD i []).getD j 0
def rowB(t:List (List Int))(b:Int)(i:Nat):Bool:=decide (((t.getD i []).length:Int)=(t.length:Int))&&wi b (t.getD i [])
def sqB(t:List (List Int))(b:Int):Bool:=(List.range t.length).all (rowB t b)
def tbl(t:List (List Int))(n:Int):Bool:=decide ((t.length:Int)=n)&&sqB t n
theorem p98{b:Int}(B:t.length<=1048576)(e:∀y∈t,y.length<=1048576):G98 (t,b)=some (sqB t b):=by
 unfold G98 sqB;refine AcG (n:=t.length) (p:=rowB t b) (bad:=Ui) (id:=0) (Post:=λb (o:Option Bool)=>o=some b) (λi A=>?_) ?_ rfl (λr e=>by rw[e])
 .unfold rowB
  simp only[A3,A,decide_true,cond_true,An A,and_self,if_true,tNC,p140 (e _ (Dp ([]:List Int) A)),Option.bind_some];rw[AL (by omega) (by omega)]
  cases decide (((t.getD i []).length:Int)=(t.length:Int))with
  |false=>exact DM ⟨_,rfl,rfl⟩
  |true=>
  rw[Bool.true_and];cases wi b (t.getD i [])with
  |false=>exact DM ⟨_,rfl,rfl⟩
  |true=>exact Jc rfl
 .simp only[CV,cond_false]
theorem p101{n:Int}(hn:0<=n/\n<=9223372036854775807)(F:t.length<=1048576)(A:∀y∈t,y.length<=1048576):G101 (t,n)=some (tbl t n):=by
 unfold G101 tbl sqB;cases B:decide ((t.length:Int)=n)with
 |false=>rfl
 |true=>
 have B:=of_decide_eq_true B;simp only[Bool.not_true,cond_false,Bool.true_and];refine AcG (n:=t.length) (p:=rowB t n) (bad:=Ui) (id:=0) (Post:=λb (o:Option Bool)=>o=some b) (λi E=>?_) ?_ rfl (λr A=>by rw[A])
 .have e:decide (((t.getD i []).length:Int)=(t.length:Int))=decide (((t.getD i []).length:Int)=n):=by rw[B]
  unfold rowB;rw[e];simp only[A3,E,decide_true,cond_true,An E,and_self,if_true,tNC,p93 hn (A _ (Dp ([]:List Int) E)),Option.bind_some];rw[AL (by omega) (by omega)]
  cases decide (((t.getD i []).length:Int)=n)with
  |false=>exact DM ⟨_,rfl,rfl⟩
  |true=>
  rw[Bool.true_and];cases wi n (t.getD i [])with
  |false=>exact DM ⟨_,rfl,rfl⟩
  |true=>exact Jc rfl
 .simp only[CV,cond_false]
structure TB(t:List (List Int))(n:Nat):Prop where
 len:t.length=n
 row:∀i,i<n->(t.getD i []).length=n
 val:∀i j,i<n->j<n->∃k:Nat,k<n/\cell t i j=(k:Int)
theorem V2(h:tbl t n=true):TB t n:=by
 unfold tbl sqB at h;rw[bAE,decide_eq_true_eq]at h;obtain⟨L,J⟩:=h;have E:t.length=n:=by omega
 have A:∀i,i<n->rowB t n i=true:=λi e=>aET.1 J i (List.mem_range.2 (by omega))
 have B:∀i,i<n->(t.getD i []).length=n:=λi e=>by
  have:=A i e;unfold rowB at this;rw[bAE,decide_eq_true_eq]at this;omega
 refine⟨E,B,λi j e F=>?_⟩
 have:=A i e;unfold rowB at this;rw[bAE]at this;obtain⟨g1,g2⟩:=IZ this.2 (i:=j) (by rw[B i e];exact F)
 exact⟨(cell t i j).toNat,by unfold cell;omega,by unfold cell;omega⟩
def unC(t:List (List Int))(u i:Nat):Bool:=decide (cell t u i=(i:Int))&&decide (cell t i u=(i:Int))
def asC(t:List (List Int))(i j k:Nat):Bool:=decide (cell t (cell t i j).toNat k=cell t i (cell t j k).toNat)
def whC(t:List (List Int))(u i:Nat):Bool:=unC t u i&&(List.range t.length).all λj=>(List.range t.length).all (asC t i j)
def BU(t:List (List Int))(u:Nat):Bool:=(List.range t.length).all (whC t u)
theorem p99(h:TB t n)(L:u<n)(hn:n<=1048576):G99 (t,(u:Int))=some (BU t u):=by
 have hl:=h.len;unfold G99 BU;refine AcG (n:=t.length) (p:=whC t u) (bad:=Ui) (id:=0) (Post:=λb (o:Option Bool)=>o=some b) (λi E=>?_) ?_ rfl (λr hr=>by rw[hr])
 .have e:i<n:=by omega
  have W:u<t.length:=by omega
  have Z:i<(t.getD u []).length:=by rw[h.row u L];exact e
  have Y:u<(t.getD i []).length:=by rw[h.row i e];exact L
  unfold whC unC;simp only[A3,E,decide_true,cond_true,An E,An W,An Z,An Y,and_self,if_true,tNC];have c1:decide ((t.getD u []).getD i 0=(i:Int))=decide (cell t u i=(i:Int)):=rfl;have c2:decide ((t.getD i []).getD u 0=(i:Int))=decide (cell t i u=(i:Int)):=rfl;simp only[c1,c2];cases decide (cell t u i=(i:Int))with
  |false=>exact DM ⟨_,rfl,rfl⟩
  |true=>
  cases decide (cell t i u=(i:Int))with
  |false=>exact DM ⟨_,rfl,rfl⟩
  |true=>
  simp only[Bool.not_true,cond_false,Option.bind_some,Bool.true_and];refine Aas (n:=t.length) (p:=λj=>(List.range t.length).all (asC t i j)) (bad:=Ui) (id:=2) (s:=((i+1:Nat):Int)) (λj M=>?_) ?_ ?_
  .have A:j<n:=by omega
   simp only[A3,M,decide_true,cond_true];refine Aas (n:=t.length) (p:=asC t i j) (bad:=Z7 Ui) (id:=4) (s:=((j+1:Nat):Int)) (λk hk=>?_) ?_ ?_
   .have B:k<n:=by omega
    obtain⟨x,hx,U⟩:=h.val i j e A;obtain⟨y,hy,O⟩:=h.val j k A B;have J:(t.getD i []).getD j 0=(x:Int):=U;have F:(t.getD j []).getD k 0=(y:Int):=O;have q1:j<(t.getD i []).length:=by rw[h.row i e];exact A
    have q2:x<t.length:=by omega
    have q3:k<(t.getD x []).length:=by rw[h.row x hx];exact B
    have q4:k<(t.getD j []).length:=by rw[h.row j A];exact B
    have q5:y<(t.getD i []).length:=by rw[h.row i e];exact hy
    simp only[A3,hk,decide_true,cond_true,An E,An M,An q1,J,An q2,An q3,An q4,F,An q5,and_self,if_true,tNC];rw[AL (by omega) (by omega)]
    unfold asC;rw[U,O,tNC,tNC];show Xn _ _ (decide ((t.getD x []).getD k 0=(t.getD i []).getD y 0)) _;cases decide ((t.getD x []).getD k 0=(t.getD i []).getD y 0)with
    |true=>exact Jc rfl
    |false=>exact DM ⟨_,rfl,_,rfl,_,rfl,rfl⟩
   .simp only[CV,cond_false]
   .show(if 4=4 then _ else none)=_
    rw[if_pos rfl,AL (by omega) (by omega)];rfl
  .simp only[CV,cond_false]
  .show(if 2=2 then _ else none)=_
   rw[if_pos rfl,AL (by omega) (by omega)];rfl
 .simp only[CV,cond_false]
theorem p103(h:TB t n)(L:u<n)(hn:n<=1048576):G103 (t,(u:Int))=some (BU t u):=by
 have hl:=h.len;unfold G103 BU;refine AcG (n:=t.length) (p:=whC t u) (bad:=Ui) (id:=0) (Post:=λb (o:Option Bool)=>o=some b) (λi E=>?_) ?_ rfl (λr hr=>by rw[hr])
 .have e:i<n:=by omega
  have W:u<t.length:=by omega
  have Z:i<(t.getD u []).length:=by rw[h.row u L];exact e
  have Y:u<(t.getD i []).length:=by rw[h.row i e];exact L
  unfold whC unC;simp only[A3,E,decide_true,cond_true,An E,An W,An Z,An Y,and_self,if_true,tNC];have c1:decide ((t.getD u []).getD i 0=(i:Int))=decide (cell t u i=(i:Int)):=rfl;have c2:decide ((t.getD i []).getD u 0=(i:Int))=decide (cell t i u=(i:Int)):=rfl;simp only[c1,c2];cases decide (cell t i u=(i:Int))with
  |false=>
   rw[Bool.and_false];exact DM ⟨_,rfl,rfl⟩
  |true=>
  cases decide (cell t u i=(i:Int))with
  |false=>exact DM ⟨_,rfl,rfl⟩
  |true=>
  simp only[Bool.not_true,cond_false,Option.bind_some,Bool.true_and];refine Aas (n:=t.length) (p:=λj=>(List.range t.length).all (asC t i j)) (bad:=Ui) (id:=2) (s:=((i+1:Nat):Int)) (λj M=>?_) ?_ ?_
  .have A:j<n:=by omega
   simp only[A3,M,decide_true,cond_true];refine Aas (n:=t.length) (p:=asC t i j) (bad:=Z7 Ui) (id:=4) (s:=((j+1:Nat):Int)) (λk hk=>?_) ?_ ?_
   .have B:k<n:=by omega
    obtain⟨x,hx,U⟩:=h.val i j e A;obtain⟨y,hy,O⟩:=h.val j k A B;have J:(t.getD i []).getD j 0=(x:Int):=U;have F:(t.getD j []).getD k 0=(y:Int):=O;have q1:j<(t.getD i []).length:=by rw[h.row i e];exact A
    have q2:x<t.length:=by omega
    have q3:k<(t.getD x []).length:=by rw[h.row x hx];exact B
    have q4:k<(t.getD j []).length:=by rw[h.row j A];exact B
    have q5:y<(t.getD i []).length:=by rw[h.row i e];exact hy
    simp only[A3,hk,decide_true,cond_true,An E,An M,An q1,J,An q2,An q3,An q4,F,An q5,and_self,if_true,tNC];rw[AL (by omega) (by omega)]
    unfold asC;rw[U,O,tNC,tNC];show Xn _ _ (decide ((t.getD x []).getD k 0=(t.getD i []).getD y 0)) _;cases decide ((t.getD x []).getD k 0=(t.getD i []).getD y 0)with
    |true=>exact Jc rfl
    |false=>exact DM ⟨_,rfl,_,rfl,_,rfl,rfl⟩
   .simp only[CV,cond_false]
   .show(if 4=4 then _ else none)=_
    rw[if_pos rfl,AL (by omega) (by omega)];rfl
  .simp only[CV,cond_false]
  .show(if 2=2 then _ else none)=_
   rw[if_pos rfl,AL (by omega) (by omega)];rfl
 .simp only[CV,cond_false]
end
end Go.Ve.D


namespace Go.Ve.D
open Go Go.Ve
noncomputable section
abbrev MC:=Int×List Int×List Int×List Int×List (List Int)×Int×List (List Int)×List (List Int)
def mkM(c:Cat)(u:Int)(ob am:List (List Int)):MC:=(c.1,(c.2.1,(c.2.2.1,(c.2.2.2.1,(c.2.2.2.2,(u,(ob,am)))))))
def Acx(c:Cat)(ob am:List (List Int)):Prop:=okC c/\(ob.length<=1048576/\∀y∈ob,y.length<=1048576)/\(am.length<=1048576/\∀y∈am,y.length<=1048576)
def enC(c:Cat)(ob am:List (List Int))(f g:Nat):Bool:=decide (fT c (cell am f g).toNat=cell ob (fT c f).toNat (fT c g).toNat)&&decide (tT c (cell am f g).toNat=cell ob (tT c f).toNat (tT c g).toNat)
def P3(c:Cat)(ob am:List (List Int)):Bool:=(List.range (ar c)).all λf=>(List.range (ar c)).all (enC c ob am f)
end
end Go.Ve.D


namespace Go.Ve.D
open Go Go.Ve
noncomputable section
def idM(c:Cat)(ob am:List (List Int))(x y:Nat):Bool:=decide (cell am (idA c x) (idA c y)=c.2.2.2.1.getD (cell ob x y).toNat 0)
def Q3(c:Cat)(ob am:List (List Int)):Bool:=(List.range c.1.toNat).all λx=>(List.range c.1.toNat).all (idM c ob am x)
def exC(c:Cat)(am:List (List Int))(f h g k:Nat):Bool:=!mt c g k||decide (cell am (T c f h).toNat (T c g k).toNat=T c (cell am f g).toNat (cell am h k).toNat)
def exF(c:Cat)(am:List (List Int))(f h:Nat):Bool:=!mt c f h||(List.range (ar c)).all λg=>(List.range (ar c)).all (exC c am f h g)
def Aah(c:Cat)(am:List (List Int)):Bool:=(List.range (ar c)).all λf=>(List.range (ar c)).all (exF c am f)
def KU(c:Cat)(u:Int)(ob am:List (List Int)):Bool:=(H5 c&&inn c.1 u)&&(tbl ob c.1&&tbl am (ar c))
def OG(c:Cat)(u:Int)(ob am:List (List Int)):Bool:=KU c u ob am&&(((P3 c ob am&&BU ob u.toNat)&&BU am (idA c u.toNat))&&(Q3 c ob am&&Aah c am))
structure MH(c:Cat)(u:Int)(ob am:List (List Int))(n:Nat):Prop where
 cat:H5 c=true
 sh:Sh c
 hn:c.1=(n:Int)
 uin:0<=u/\u<c.1
 ho:TB ob n
 ha:TB am (ar c)
def mh_of{c:Cat}{u:Int}{ob am:List (List Int)}(h:KU c u ob am=true):∃n,MH c u ob am n:=by
 unfold KU at h;simp only[bAE]at h;obtain⟨⟨A,B⟩,h3,h4⟩:=h;have e:=Q1 A;obtain⟨a1,_⟩:=e.hd;obtain⟨n,hn⟩:∃n:Nat,c.1=(n:Int):=⟨c.1.toNat,by omega⟩
 rw[hn]at h3;exact⟨n,A,e,hn,DE.1 B,V2 h3,V2 h4⟩
end
end Go.Ve.D


namespace Go.Ve.D
open Go Go.Ve
noncomputable section
theorem p104{c:Cat}{u:Int}{ob am:List (List Int)}{n:Nat}(h:MH c u ob am n):G104 (mkM c u ob am)=some (Aah c am):=by
 obtain⟨a1,a2,a3,a4,a5,a6,a7,a8⟩:=h.sh.hd;have hm:ar c<=40:=a2;have la:=h.ha.len;have B:c.2.1.length<=1048576:=by omega
 have A:∀(a:Nat) (q:Nat->Bool),((List.range (ar c)).all λb=>!mt c a b||q b)=(List.range (J2 c (tT c a)).length).all λi=>q ((J2 c (tT c a)).getD i 0).toNat:=by
  intro a q;rw[Abu (q:=λb=>q b.toNat)]
  refine VA λb _=>?_
  rw[tNC]
  congr 2
  exact decide_eq_decide.2 eq_comm
 unfold G104 mkM Aah;simp only[Prod.eta];refine AcG (n:=ar c) (p:=λf=>(List.range (ar c)).all (exF c am f)) (bad:=Ui) (id:=0) (Post:=λb (o:Option Bool)=>o=some b) (λf O=>?_) ?_ rfl (λr hr=>by rw[hr])
 .have F:f<c.2.1.length:=O
  have hf3:f<c.2.2.1.length:=by omega
  have e0:G121 (c,c.2.2.1.getD f 0)=some (J2 c (tT c f)):=p121 B _;have hlf:(J2 c (tT c f)).length<=ar c:=Aad;simp only[A3,F,decide_true,cond_true,An hf3,e0,Option.bind_some,and_self,if_true,tNC]
  have es:(List.range (ar c)).all (exF c am f)=(List.range (J2 c (tT c f)).length).all λi=>(List.range (ar c)).all λg=>(List.range (ar c)).all (exC c am f ((J2 c (tT c f)).getD i 0).toNat g):=
   A f λk=>(List.range (ar c)).all λg=>(List.range (ar c)).all (exC c am f k g)
  rw[es];refine Aas (n:=(J2 c (tT c f)).length) (p:=λi=>(List.range (ar c)).all λg=>(List.range (ar c)).all (exC c am f ((J2 c (tT c f)).getD i 0).toNat g)) (bad:=Ui) (id:=2) (s:=((f+1:Nat):Int)) (λi hi=>?_) ?_ ?_
  .obtain⟨k,L,hkq,ek⟩:∃k:Nat,k<ar c/\decide (fT c k=tT c f)=true/\(J2 c (tT c f)).getD i 0=(k:Int):=Aae hi
   have W:mt c f k=true:=dT (of_decide_eq_true hkq).symm;have hk2:k<c.2.1.length:=L;simp only[A3,hi,decide_true,cond_true,An hi,and_self,if_true,tNC,ek];refine Aas (n:=ar c) (p:=λg=>(List.range (ar c)).all (exC c am f k g)) (bad:=Z7 Ui) (id:=4) (s:=((i+1:Nat):Int)) (λg M=>?_) ?_ ?_
   .have E:g<c.2.1.length:=M
    have hg3:g<c.2.2.1.length:=by omega
    have e9:G121 (c,c.2.2.1.getD g 0)=some (J2 c (tT c g)):=p121 B _;have hlg:(J2 c (tT c g)).length<=ar c:=Aad;simp only[A3,E,decide_true,cond_true,An hg3,e9,Option.bind_some,and_self,if_true,tNC]
    have es2:(List.range (ar c)).all (exC c am f k g)=(List.range (J2 c (tT c g)).length).all λj=>decide (cell am (T c f k).toNat (T c g ((J2 c (tT c g)).getD j 0).toNat).toNat=T c (cell am f g).toNat (cell am k ((J2 c (tT c g)).getD j 0).toNat).toNat):=
     A g λl=>decide (cell am (T c f k).toNat (T c g l).toNat=T c (cell am f g).toNat (cell am k l).toNat)
    rw[es2];refine Aas (n:=(J2 c (tT c g)).length) (p:=λj=>decide (cell am (T c f k).toNat (T c g ((J2 c (tT c g)).getD j 0).toNat).toNat=T c (cell am f g).toNat (cell am k ((J2 c (tT c g)).getD j 0).toNat).toNat)) (bad:=Z7 (Z7 Ui)) (id:=6) (s:=((g+1:Nat):Int)) (λj hj=>?_) ?_ ?_
    .obtain⟨l,J,Y,el⟩:∃k:Nat,k<ar c/\decide (fT c k=tT c g)=true/\(J2 c (tT c g)).getD j 0=(k:Int):=Aae hj
     have U:mt c g l=true:=dT (of_decide_eq_true Y).symm;have Z:l<c.2.1.length:=J;obtain⟨t1,t2,_⟩:=h.sh.pos f k O L W;obtain⟨t,et⟩:∃t:Nat,T c f k=(t:Int):=⟨(T c f k).toNat,by omega⟩
     have ht:t<ar c:=by show t<c.2.1.length;omega
     obtain⟨v1,v2,_⟩:=h.sh.pos g l M J U;obtain⟨v,ev⟩:∃t:Nat,T c g l=(t:Int):=⟨(T c g l).toNat,by omega⟩
     have hv:v<ar c:=by show v<c.2.1.length;omega
     obtain⟨p,hp,ep⟩:=h.ha.val f g O M;obtain⟨q,hq,eq⟩:=h.ha.val k l L J;have ep':(am.getD f []).getD g 0=(p:Int):=ep;have eq':(am.getD k []).getD l 0=(q:Int):=eq;have w1:t<am.length:=by omega
     have w2:v<(am.getD t []).length:=by rw[h.ha.row t ht];exact hv
     have w3:f<am.length:=by omega
     have w4:g<(am.getD f []).length:=by rw[h.ha.row f O];exact M
     have w5:k<am.length:=by omega
     have w6:l<(am.getD k []).length:=by rw[h.ha.row k L];exact J
     have x1:=p82 h.sh (f:=(f:Int)) (g:=(k:Int)) (An F) (An hk2);have x2:=p82 h.sh (f:=(g:Int)) (g:=(l:Int)) (An E) (An Z);have x3:=p82 h.sh (f:=(p:Int)) (g:=(q:Int)) (An (show p<c.2.1.length from hp)) (An (show q<c.2.1.length from hq))
     simp only[tNC]at x1 x2 x3;simp only[A3,hj,decide_true,cond_true,An hj,el,x1,x2,et,ev,An w1,An w2,An w3,An w4,ep',An w5,An w6,eq',x3,and_self,if_true,tNC,Option.bind_some];rw[AL (by omega) (by omega),ep,eq]
     simp only[tNC];show Xn _ _ (decide ((am.getD t []).getD v 0=T c p q)) _;cases decide ((am.getD t []).getD v 0=T c p q)with
     |true=>exact Jc rfl
     |false=>exact DM ⟨_,rfl,_,rfl,_,rfl,_,rfl,rfl⟩
    .simp only[CV,cond_false]
    .show(if 6=6 then _ else none)=_
     rw[if_pos rfl,AL (by omega) (by omega)];rfl
   .have e:decide (ar c<c.2.1.length)=false:=dF (Nat.lt_irrefl _)
    simp only[A3,e,cond_false]
   .show(if 4=4 then _ else none)=_
    rw[if_pos rfl,AL (by omega) (by omega)];rfl
  .simp only[CV,cond_false]
  .show(if 2=2 then _ else none)=_
   rw[if_pos rfl,AL (by omega) (by omega)];rfl
 .have e:decide (ar c<c.2.1.length)=false:=dF (Nat.lt_irrefl _)
  simp only[A3,e,cond_false]
end
end Go.Ve.D


namespace Go.Ve.D
open Go Go.Ve
noncomputable section
variable{c:Cat}{u:Int}{am ob:List (List Int)}{i n:Nat}
def leN:((0:Int)<=(i:Int))=True:=eq_true (by omega)
def ltN(h:i<n):((i:Int)<(n:Int))=True:=eq_true (by omega)
def wN(h:i<9223372036854775807):IntKind.wrap .i64 ((i:Int)+1)=((i+1:Nat):Int):=by
 rw[AL (by omega) (by omega)];rfl
def ZA{a b c:Bool}(h:a=true↔b=true/\c=true):a=(b&&c):=by
 rw[Bool.eq_iff_iff,bAE];exact h
def I9{a:Int}(h:0<=a/\a<(n:Int)):∃k:Nat,a=(k:Int)/\k<n:=⟨a.toNat,by omega,by omega⟩
theorem p102(h:Sh c){f:Nat}(e:f<ar c):G102 (c,(f:Int))=some (MR c f):=by
 obtain⟨a1,a2,a3,a4,a5,a6,a7,a8⟩:=h.hd;have A:f<c.2.1.length:=e;obtain⟨x,B,E⟩:=I9 (a:=c.2.1.getD f 0) (n:=c.2.2.2.1.length) (by have:=h.fr f e;omega)
 unfold G102 MR fT;simp (disch:=omega) only[tNC,B,leN,ltN,and_self,if_true]
def dbC(c:Cat)(ob am:List (List Int))(f g:Nat):Bool:=enC c ob am f g&& !(MR c f&&(MR c g&& !MR c (cell am f g).toNat))
def dbs(h:MH c u ob am n):((List.range (ar c)).all λf=>(List.range (ar c)).all (dbC c ob am f))=(P3 c ob am&&Q3 c ob am):=by
 have hn:=h.hn;refine ZA ⟨λH=>?_,λH=>?_⟩
 .have K:∀f g,f<ar c->g<ar c->dbC c ob am f g=true:=λf g B A=>aET.1 (aET.1 H f (List.mem_range.2 B)) g (List.mem_range.2 A)
  have E:∀f g,f<ar c->g<ar c->enC c ob am f g=true:=λf g B A=>by
   have:=K f g B A;unfold dbC at this;rw[bAE]at this;exact this.1
  refine⟨aET.2 λf B=>aET.2 λg A=>E f g (List.mem_range.1 B) (List.mem_range.1 A),?_⟩
  refine aET.2 λx hx=>aET.2 λy hy=>?_
  rw[List.mem_range]at hx hy;obtain⟨ix,M,Y,fx,tx⟩:=idX h.sh h.cat (x:=x) (by omega)
  obtain⟨iy,L,W,fy,ty⟩:=idX h.sh h.cat (x:=y) (by omega)
  obtain⟨z,hz,Z⟩:=h.ha.val ix iy M L;have k:=K ix iy M L;unfold dbC at k;have J:MR c ix=true:=by
   unfold MR;rw[fx,tNC];exact dT Y
  have F:MR c iy=true:=by
   unfold MR;rw[fy,tNC];exact dT W
  rw[J,F,Z,tNC,bAE]at k;obtain⟨k1,k2⟩:=k;have i3:MR c z=true:=by simpa using k2
  unfold enC at k1;rw[Z,tNC,fx,fy,tNC,tNC,bAE,decide_eq_true_eq]at k1;unfold MR at i3;rw[k1.1]at i3;unfold idM idA;rw[Y,W,tNC,tNC,Z];exact dT (of_decide_eq_true i3).symm
 .obtain⟨H1,H2⟩:=H
  refine aET.2 λf B=>aET.2 λg A=>?_
  rw[List.mem_range]at B A;have e:=aET.1 (aET.1 H1 f (List.mem_range.2 B)) g (List.mem_range.2 A);unfold dbC;rw[e,Bool.true_and];cases J:MR c f with
  |false=>rfl
  |true=>
  cases F:MR c g with
  |false=>rfl
  |true=>
  obtain⟨x,ex,hx⟩:=I9 (n:=n) (by rw[<-hn];exact h.sh.fr f B)
  obtain⟨y,ey,hy⟩:=I9 (n:=n) (by rw[<-hn];exact h.sh.fr g A)
  have q:=aET.1 (aET.1 H2 x (List.mem_range.2 (by omega))) y (List.mem_range.2 (by omega))
  have U:fT c f=(x:Int):=ex;have O:fT c g=(y:Int):=ey;unfold MR at J F;rw[U,tNC,decide_eq_true_eq]at J;rw[O,tNC,decide_eq_true_eq]at F;unfold enC at e;rw[U,O,tNC,tNC,bAE,decide_eq_true_eq]at e;unfold idM idA at q;rw[J,F,tNC,tNC,decide_eq_true_eq]at q;obtain⟨z,hz,Z⟩:=h.ha.val f g B A
  have:MR c (cell am f g).toNat=true:=by
   unfold MR;rw[e.1,<-q];exact dT (by omega)
  rw[this];rfl
theorem p52(ok:Acx c ob am):G52 (mkM c u ob am)=some (OG c u ob am):=by
 obtain⟨oc,⟨o1,o2⟩,⟨o3,o4⟩⟩:=ok;unfold OG;cases A:H5 c with
 |false=>
  have E:KU c u ob am=false:=by unfold KU;rw[A];rfl
  unfold G52 mkM;simp only[Prod.eta,p65 oc,A,E,Option.bind_some,Bool.not_false,Bool.false_and,cond_true]
 |true=>
 obtain⟨a1,a2,a3,a4,a5,a6,a7,a8⟩:=(Q1 A).hd;have hm:ar c<=40:=a2;have e62:=p76' u c.1 ⟨a1.1,by omega⟩
 have e1:=p101 (n:=c.1) ⟨a1.1,by omega⟩ o1 o2
 have e2:=p101 (n:=((c.2.1.length:Nat):Int)) ⟨by omega,by omega⟩ o3 o4
 cases E:KU c u ob am with
 |false=>
  unfold G52 mkM;simp only[Prod.eta,p65 oc,e62,e1,e2,p89,A,Option.bind_some];unfold KU ar at E;rw[A]at E;cases h2:inn c.1 u with
  |false=>rfl
  |true=>
  cases h3:tbl ob c.1 with
  |false=>rfl
  |true=>
  cases U:tbl am ((c.2.1.length:Nat):Int)with
  |false=>rfl
  |true=>rw[h2,h3,U]at E;cases E
 |true=>
 obtain⟨n,h⟩:=mh_of E;have J:=E;unfold KU at J;simp only[bAE]at J;obtain⟨⟨_,h2⟩,h3,U⟩:=J;have U:tbl am ((c.2.1.length:Nat):Int)=true:=U;have hn:=h.hn;have lo:=h.ho.len;have la:=h.ha.len;obtain⟨un,eu,hun⟩:=I9 (n:=n) (by rw[<-hn];exact h.uin)
 subst eu;have hul:un<c.2.2.2.1.length:=by omega
 obtain⟨O,hiu,W,_,_⟩:=idX h.sh h.cat (x:=un) (by omega)
 have F:=p104 h;unfold mkM at F;have e116:=p103 h.ho hun (by omega)
 have M:=p103 h.ha hiu (by omega)
 have eid:idA c un=O:=by unfold idA;rw[W,tNC]
 rw[tNC,eid,Bool.true_and]
 have sh:((P3 c ob am&&BU ob un)&&BU am O&&(Q3 c ob am&&Aah c am))=((P3 c ob am&&Q3 c ob am)&&((BU ob un&&BU am O)&&Aah c am)):=by
  cases P3 c ob am<;>cases BU ob un<;>cases BU am O<;>cases Q3 c ob am<;>rfl
 rw[sh,<-dbs h];unfold G52 mkM;simp only[Prod.eta,p65 oc,e62,e1,e2,p89,A,h2,h3,U,Option.bind_some,Bool.not_true,cond_false];rw[<-la];refine AcG (n:=am.length) (p:=λf=>(List.range am.length).all (dbC c ob am f)) (bad:=Ui) (id:=0) (Post:=λb (o:Option Bool)=>o=some (b&&((BU ob un&&BU am O)&&Aah c am))) (λf hf=>?_) ?_ ?_ (λr hr=>by rw[hr];rfl)
 .have B:f<ar c:=by omega
  have hfr:=h.ha.row f B;simp only[A3,hf,decide_true,cond_true,An hf,and_self,if_true,tNC];refine Aas (n:=am.length) (p:=dbC c ob am f) (bad:=Ui) (id:=2) (s:=((f+1:Nat):Int)) (λg hg=>?_) ?_ ?_
  .have L:g<ar c:=by omega
   have hac:ar c=c.2.1.length:=rfl;obtain⟨z,hz,ez⟩:=h.ha.val f g B L;have ez':(am.getD f []).getD g 0=(z:Int):=ez;have e114:=p58 (c:=c) (a:=(z:Int)) (by omega) (by omega)
   obtain⟨f1,ef1,hf1⟩:=I9 (n:=n) (by rw[<-hn];exact h.sh.fr f B)
   obtain⟨g1,Z,hg1⟩:=I9 (n:=n) (by rw[<-hn];exact h.sh.fr g L)
   obtain⟨f2,ef2,hf2⟩:=I9 (n:=n) (by rw[<-hn];exact h.sh.to f B)
   obtain⟨g2,Y,hg2⟩:=I9 (n:=n) (by rw[<-hn];exact h.sh.to g L)
   have r1:=h.ho.row f1 hf1;have r2:=h.ho.row f2 hf2;simp (disch:=omega) only[decide_true,cond_true,leN,ltN,and_self,if_true,tNC,ez',e114,ef1,Z,ef2,Y,Option.bind_some,p102 h.sh,wN];unfold dbC enC fT tT;rw[ez,ef1,Z,ef2,Y];simp only[tNC];show Xn _ _ ((decide (c.2.1.getD z 0=(ob.getD f1 []).getD g1 0)&&decide (c.2.2.1.getD z 0=(ob.getD f2 []).getD g2 0))&&_) _;cases decide (c.2.1.getD z 0=(ob.getD f1 []).getD g1 0)with
   |false=>exact MS rfl rfl
   |true=>
   cases decide (c.2.2.1.getD z 0=(ob.getD f2 []).getD g2 0)with
   |false=>exact MS rfl rfl
   |true=>
   cases MR c f with
   |false=>exact Jc rfl
   |true=>
   cases MR c g with
   |false=>exact Jc rfl
   |true=>
   cases MR c z with
   |false=>exact MS rfl rfl
   |true=>exact Jc rfl
  .have e:decide (((am.length:Nat):Int)<(((am.getD f []).length:Nat):Int))=false:=dF (by omega)
   simp only[e,cond_false]
  .show(if 2=2 then _ else none)=_
   rw[if_pos rfl,wN (by omega)]
 .simp only[CV,cond_false]
 .show(if 0=0 then _ else none)=_
  rw[if_pos rfl];simp (disch:=omega) only[e116,W,M,leN,ltN,and_self,if_true,tNC,Option.bind_some];cases BU ob un with
  |false=>rfl
  |true=>
  cases BU am O with
  |false=>rfl
  |true=>
  simp only[cond_true,Option.bind_some,Bool.true_and];rw[F];rfl
end
end Go.Ve.D

