/- Tables: squares, associativity. -/
import Derived.Test.YtpaekmpjbalnfabBba
namespace Go.Ve.D
open Go Go.Ve
noncomputable section
def cell(t:List (List Int))(i j:Nat):Int:=(t.getD i []).getD j 0
def Xk(t:List (List Int))(b:Int)(i:Nat):Bool:=decide (((t.getD i []).length:Int)=(t.length:Int))&&wi b (t.getD i [])
def sqB(t:List (List Int))(b:Int):Bool:=(List.range t.length).all (Xk t b)
def tbl(t:List (List Int))(n:Int):Bool:=decide ((t.length:Int)=n)&&sqB t n
theorem p99{t:List (List Int)}{b:Int}(ht:t.length<=1048576)(hr: ∀y∈t,y.length<=1048576):G99 (t,b)=some (sqB t b):=by
 unfold G99 sqB;refine UH (n:=t.length) (p:=Xk t b) (bad:=Hb) (id:=0) (Post:=fun b (o:Option Bool)=>o=some b) (fun i hi=>?_) ?_ rfl (fun r hr=>by rw [hr])
 ·unfold Xk
  simp only [Aw,hi,decide_true,cond_true,Ad hi,and_self,if_true,tNC,p132 (hr _ (BI ([]:List Int) hi)),Option.bind_some];rw [Az (by omega) (by omega)]
  cases decide (((t.getD i []).length:Int)=(t.length:Int))with
  |false=>exact Cq ⟨_,rfl,rfl⟩
  |true=>
  rw [Bool.true_and];cases wi b (t.getD i [])with
  |false=>exact Cq ⟨_,rfl,rfl⟩
  |true=>exact Cp rfl
 ·simp only [A5,cond_false]
theorem p112{t:List (List Int)}{n:Int}(ht:t.length<=1048576)(hr: ∀y∈t,y.length<=1048576):G112 (t,(n,n))=some (tbl t n):=by
 unfold G112 tbl;simp only [p99 ht hr,Option.bind_some];cases decide ((t.length:Int)=n)<;>rfl
theorem p103{t:List (List Int)}{n:Int}(hn:0<=n/\n<=9223372036854775807)(ht:t.length<=1048576)(hr: ∀y∈t,y.length<=1048576):G103 (t,n)=some (tbl t n):=by
 unfold G103 tbl sqB;cases hl:decide ((t.length:Int)=n)with
 |false=>rfl
 |true=>
 have hl:=of_decide_eq_true hl;simp only [Bool.not_true,cond_false,Bool.true_and];refine UH (n:=t.length) (p:=Xk t n) (bad:=Hb) (id:=0) (Post:=fun b (o:Option Bool)=>o=some b) (fun i hi=>?_) ?_ rfl (fun r hr=>by rw [hr])
 ·have e:decide (((t.getD i []).length:Int)=(t.length:Int))=decide (((t.getD i []).length:Int)=n):=by rw [hl]
  unfold Xk;rw [e];simp only [Aw,hi,decide_true,cond_true,Ad hi,and_self,if_true,tNC,p74 hn (hr _ (BI ([]:List Int) hi)),Option.bind_some];rw [Az (by omega) (by omega)]
  cases decide (((t.getD i []).length:Int)=n)with
  |false=>exact Cq ⟨_,rfl,rfl⟩
  |true=>
  rw [Bool.true_and];cases wi n (t.getD i [])with
  |false=>exact Cq ⟨_,rfl,rfl⟩
  |true=>exact Cp rfl
 ·simp only [A5,cond_false]
structure TB(t:List (List Int))(n:Nat):Prop where
 len:t.length=n
 row: ∀i,i<n->(t.getD i []).length=n
 val: ∀i j,i<n->j<n->∃k:Nat,k<n/\cell t i j=(k:Int)
theorem XB{t:List (List Int)}{n:Nat}(h:tbl t n=true):TB t n:=by
 unfold tbl sqB at h;rw [bAE,decide_eq_true_eq]at h;obtain⟨h1,h2⟩:=h;have hl:t.length=n:=by omega
 have hr: ∀i,i<n->Xk t n i=true:=fun i hi=>aET.1 h2 i (List.mem_range.2 (by omega))
 have h3: ∀i,i<n->(t.getD i []).length=n:=fun i hi=>by
  have:=hr i hi;unfold Xk at this;rw [bAE,decide_eq_true_eq]at this;omega
 refine⟨hl,h3,fun i j hi hj=>?_⟩
 have:=hr i hi;unfold Xk at this;rw [bAE]at this;obtain⟨g1,g2⟩:=Ja this.2 (i:=j) (by rw [h3 i hi];exact hj)
 exact⟨(cell t i j).toNat,by unfold cell;omega,by unfold cell;omega⟩
def unC(t:List (List Int))(u i:Nat):Bool:=decide (cell t u i=(i:Int))&&decide (cell t i u=(i:Int))
def asC(t:List (List Int))(i j k:Nat):Bool:=decide (cell t (cell t i j).toNat k=cell t i (cell t j k).toNat)
def whC(t:List (List Int))(u i:Nat):Bool:=unC t u i&&(List.range t.length).all fun j=>(List.range t.length).all (asC t i j)
def B8(t:List (List Int))(u:Nat):Bool:=(List.range t.length).all (whC t u)
theorem p100{t:List (List Int)}{n u:Nat}(h:TB t n)(hu:u<n)(hn:n<=1048576):G100 (t,(u:Int))=some (B8 t u):=by
 have hl:=h.len;unfold G100 B8;refine UH (n:=t.length) (p:=whC t u) (bad:=Hb) (id:=0) (Post:=fun b (o:Option Bool)=>o=some b) (fun i hi=>?_) ?_ rfl (fun r hr=>by rw [hr])
 ·have hi':i<n:=by omega
  have u1:u<t.length:=by omega
  have r1:i<(t.getD u []).length:=by rw [h.row u hu];exact hi'
  have r2:u<(t.getD i []).length:=by rw [h.row i hi'];exact hu
  unfold whC unC;simp only [Aw,hi,decide_true,cond_true,Ad hi,Ad u1,Ad r1,Ad r2,and_self,if_true,tNC];have c1:decide ((t.getD u []).getD i 0=(i:Int))=decide (cell t u i=(i:Int)):=rfl;have c2:decide ((t.getD i []).getD u 0=(i:Int))=decide (cell t i u=(i:Int)):=rfl;simp only [c1,c2];cases decide (cell t u i=(i:Int))with
  |false=>exact Cq ⟨_,rfl,rfl⟩
  |true=>
  cases decide (cell t i u=(i:Int))with
  |false=>exact Cq ⟨_,rfl,rfl⟩
  |true=>
  simp only [Bool.not_true,cond_false,Option.bind_some,Bool.true_and];refine Mk (n:=t.length) (p:=fun j=>(List.range t.length).all (asC t i j)) (bad:=Hb) (id:=2) (s:=((i+1:Nat):Int)) (fun j hj=>?_) ?_ ?_
  ·have hj':j<n:=by omega
   simp only [Aw,hj,decide_true,cond_true];refine Mk (n:=t.length) (p:=asC t i j) (bad:=Uo Hb) (id:=4) (s:=((j+1:Nat):Int)) (fun k hk=>?_) ?_ ?_
   ·have hk':k<n:=by omega
    obtain⟨x,hx,ex⟩:=h.val i j hi' hj';obtain⟨y,hy,ey⟩:=h.val j k hj' hk';have ex':(t.getD i []).getD j 0=(x:Int):=ex;have ey':(t.getD j []).getD k 0=(y:Int):=ey;have q1:j<(t.getD i []).length:=by rw [h.row i hi'];exact hj'
    have q2:x<t.length:=by omega
    have q3:k<(t.getD x []).length:=by rw [h.row x hx];exact hk'
    have q4:k<(t.getD j []).length:=by rw [h.row j hj'];exact hk'
    have q5:y<(t.getD i []).length:=by rw [h.row i hi'];exact hy
    simp only [Aw,hk,decide_true,cond_true,Ad hi,Ad hj,Ad q1,ex',Ad q2,Ad q3,Ad q4,ey',Ad q5,and_self,if_true,tNC];rw [Az (by omega) (by omega)]
    unfold asC;rw [ex,ey,tNC,tNC];show Oe _ _ (decide ((t.getD x []).getD k 0=(t.getD i []).getD y 0)) _;cases decide ((t.getD x []).getD k 0=(t.getD i []).getD y 0)with
    |true=>exact Cp rfl
    |false=>exact Cq ⟨_,rfl,_,rfl,_,rfl,rfl⟩
   ·simp only [A5,cond_false]
   ·show(if 4=4 then _ else none)=_
    rw [if_pos rfl,Az (by omega) (by omega)];rfl
  ·simp only [A5,cond_false]
  ·show(if 2=2 then _ else none)=_
   rw [if_pos rfl,Az (by omega) (by omega)];rfl
 ·simp only [A5,cond_false]
theorem p105{t:List (List Int)}{n u:Nat}(h:TB t n)(hu:u<n)(hn:n<=1048576):G105 (t,(u:Int))=some (B8 t u):=by
 have hl:=h.len;unfold G105 B8;refine UH (n:=t.length) (p:=whC t u) (bad:=Hb) (id:=0) (Post:=fun b (o:Option Bool)=>o=some b) (fun i hi=>?_) ?_ rfl (fun r hr=>by rw [hr])
 ·have hi':i<n:=by omega
  have u1:u<t.length:=by omega
  have r1:i<(t.getD u []).length:=by rw [h.row u hu];exact hi'
  have r2:u<(t.getD i []).length:=by rw [h.row i hi'];exact hu
  unfold whC unC;simp only [Aw,hi,decide_true,cond_true,Ad hi,Ad u1,Ad r1,Ad r2,and_self,if_true,tNC];have c1:decide ((t.getD u []).getD i 0=(i:Int))=decide (cell t u i=(i:Int)):=rfl;have c2:decide ((t.getD i []).getD u 0=(i:Int))=decide (cell t i u=(i:Int)):=rfl;simp only [c1,c2];cases decide (cell t i u=(i:Int))with
  |false=>
   rw [Bool.and_false];exact Cq ⟨_,rfl,rfl⟩
  |true=>
  cases decide (cell t u i=(i:Int))with
  |false=>exact Cq ⟨_,rfl,rfl⟩
  |true=>
  simp only [Bool.not_true,cond_false,Option.bind_some,Bool.true_and];refine Mk (n:=t.length) (p:=fun j=>(List.range t.length).all (asC t i j)) (bad:=Hb) (id:=2) (s:=((i+1:Nat):Int)) (fun j hj=>?_) ?_ ?_
  ·have hj':j<n:=by omega
   simp only [Aw,hj,decide_true,cond_true];refine Mk (n:=t.length) (p:=asC t i j) (bad:=Uo Hb) (id:=4) (s:=((j+1:Nat):Int)) (fun k hk=>?_) ?_ ?_
   ·have hk':k<n:=by omega
    obtain⟨x,hx,ex⟩:=h.val i j hi' hj';obtain⟨y,hy,ey⟩:=h.val j k hj' hk';have ex':(t.getD i []).getD j 0=(x:Int):=ex;have ey':(t.getD j []).getD k 0=(y:Int):=ey;have q1:j<(t.getD i []).length:=by rw [h.row i hi'];exact hj'
    have q2:x<t.length:=by omega
    have q3:k<(t.getD x []).length:=by rw [h.row x hx];exact hk'
    have q4:k<(t.getD j []).length:=by rw [h.row j hj'];exact hk'
    have q5:y<(t.getD i []).length:=by rw [h.row i hi'];exact hy
    simp only [Aw,hk,decide_true,cond_true,Ad hi,Ad hj,Ad q1,ex',Ad q2,Ad q3,Ad q4,ey',Ad q5,and_self,if_true,tNC];rw [Az (by omega) (by omega)]
    unfold asC;rw [ex,ey,tNC,tNC];show Oe _ _ (decide ((t.getD x []).getD k 0=(t.getD i []).getD y 0)) _;cases decide ((t.getD x []).getD k 0=(t.getD i []).getD y 0)with
    |true=>exact Cp rfl
    |false=>exact Cq ⟨_,rfl,_,rfl,_,rfl,rfl⟩
   ·simp only [A5,cond_false]
   ·show(if 4=4 then _ else none)=_
    rw [if_pos rfl,Az (by omega) (by omega)];rfl
  ·simp only [A5,cond_false]
  ·show(if 2=2 then _ else none)=_
   rw [if_pos rfl,Az (by omega) (by omega)];rfl
 ·simp only [A5,cond_false]
end
end Go.Ve.D


namespace Go.Ve.D
open Go Go.Ve
noncomputable section
abbrev MC:=Int×List Int×List Int×List Int×List (List Int)×Int×List (List Int)×List (List Int)
def mkM(c:Cat)(u:Int)(ob am:List (List Int)):MC:=(c.1,(c.2.1,(c.2.2.1,(c.2.2.2.1,(c.2.2.2.2,(u,(ob,am)))))))
def OR(c:Cat)(ob am:List (List Int)):Prop:=okC c/\(ob.length<=1048576/\∀y∈ob,y.length<=1048576)/\(am.length<=1048576/\∀y∈am,y.length<=1048576)
def enC(c:Cat)(ob am:List (List Int))(f g:Nat):Bool:=decide (fT c (cell am f g).toNat=cell ob (fT c f).toNat (fT c g).toNat)&&decide (tT c (cell am f g).toNat=cell ob (tT c f).toNat (tT c g).toNat)
def NY(c:Cat)(ob am:List (List Int)):Bool:=(List.range (ar c)).all fun f=>(List.range (ar c)).all (enC c ob am f)
theorem p113{c:Cat}{u:Int}{ob am:List (List Int)}{n:Nat}(h:Sh c)(hn:c.1=(n:Int))(ho:TB ob n)(ha:TB am (ar c)):G113 (mkM c u ob am)=some (NY c ob am):=by
 obtain⟨a1,a2,a3,a4,a5,a6,a7,a8⟩:=h.hd;have hm:ar c<=40:=a2;have lo:=ho.len;have la:=ha.len;unfold G113 mkM NY;simp only;refine UH (n:=ar c) (p:=fun f=>(List.range (ar c)).all (enC c ob am f)) (bad:=Hb) (id:=0) (Post:=fun b (o:Option Bool)=>o=some b) (fun f hf=>?_) ?_ rfl (fun r hr=>by rw [hr])
 ·have hf2:f<c.2.1.length:=hf
  have hf3:f<c.2.2.1.length:=by omega
  simp only [Aw,hf2,decide_true,cond_true];refine Mk (n:=ar c) (p:=enC c ob am f) (bad:=Hb) (id:=2) (s:=((f+1:Nat):Int)) (fun g hg=>?_) ?_ ?_
  ·have hg2:g<c.2.1.length:=hg
   have hg3:g<c.2.2.1.length:=by omega
   obtain⟨x,hx,ex⟩:=ha.val f g hf hg;have ex':(am.getD f []).getD g 0=(x:Int):=ex;have hfa:f<am.length:=by omega
   have hga:g<(am.getD f []).length:=by rw [ha.row f hf];exact hg
   have hx2:x<c.2.1.length:=hx;have hx3:x<c.2.2.1.length:=by omega
   obtain⟨f1,f2⟩:=h.fr f hf;obtain⟨g1,g2⟩:=h.fr g hg;obtain⟨t1,t2⟩:=h.to f hf;obtain⟨u1,u2⟩:=h.to g hg;obtain⟨fn,ef⟩: ∃k:Nat,c.2.1.getD f 0=(k:Int):=⟨(c.2.1.getD f 0).toNat,by omega⟩
   obtain⟨gn,eg⟩: ∃k:Nat,c.2.1.getD g 0=(k:Int):=⟨(c.2.1.getD g 0).toNat,by omega⟩
   obtain⟨ft,eft⟩: ∃k:Nat,c.2.2.1.getD f 0=(k:Int):=⟨(c.2.2.1.getD f 0).toNat,by omega⟩
   obtain⟨gt,egt⟩: ∃k:Nat,c.2.2.1.getD g 0=(k:Int):=⟨(c.2.2.1.getD g 0).toNat,by omega⟩
   have o1:fn<ob.length:=by omega
   have o2:gn<(ob.getD fn []).length:=by rw [ho.row fn (by omega)];omega
   have o3:ft<ob.length:=by omega
   have o4:gt<(ob.getD ft []).length:=by rw [ho.row ft (by omega)];omega
   simp only [Aw,hg2,decide_true,cond_true,Ad hfa,Ad hga,ex',Ad hx2,Ad hx3,Ad hf2,Ad hf3,Ad hg2,Ad hg3,ef,eg,eft,egt,Ad o1,Ad o2,Ad o3,Ad o4,and_self,if_true,tNC];rw [Az (by omega) (by omega)]
   unfold enC fT tT;rw [ex,ef,eg,eft,egt];simp only [tNC];show Oe _ _ (decide (c.2.1.getD x 0=(ob.getD fn []).getD gn 0)&&decide (c.2.2.1.getD x 0=(ob.getD ft []).getD gt 0)) _;cases decide (c.2.1.getD x 0=(ob.getD fn []).getD gn 0)with
   |false=>exact C0 rfl rfl
   |true=>
   cases decide (c.2.2.1.getD x 0=(ob.getD ft []).getD gt 0)with
   |false=>exact C0 rfl rfl
   |true=>exact Cp rfl
  ·have e:decide (ar c<c.2.1.length)=false:=dF (Nat.lt_irrefl _)
   simp only [Aw,e,cond_false]
  ·show(if 2=2 then _ else none)=_
   rw [if_pos rfl,Az (by omega) (by omega)];rfl
 ·have e:decide (ar c<c.2.1.length)=false:=dF (Nat.lt_irrefl _)
  simp only [Aw,e,cond_false]
end
end Go.Ve.D


namespace Go.Ve.D
open Go Go.Ve
noncomputable section
def idM(c:Cat)(ob am:List (List Int))(x y:Nat):Bool:=decide (cell am (idA c x) (idA c y)=c.2.2.2.1.getD (cell ob x y).toNat 0)
def AaQ(c:Cat)(ob am:List (List Int)):Bool:=(List.range c.1.toNat).all fun x=>(List.range c.1.toNat).all (idM c ob am x)
def exC(c:Cat)(am:List (List Int))(f h g k:Nat):Bool:=!mt c g k||decide (cell am (T c f h).toNat (T c g k).toNat=T c (cell am f g).toNat (cell am h k).toNat)
def exF(c:Cat)(am:List (List Int))(f h:Nat):Bool:=!mt c f h||(List.range (ar c)).all fun g=>(List.range (ar c)).all (exC c am f h g)
def Y4(c:Cat)(am:List (List Int)):Bool:=(List.range (ar c)).all fun f=>(List.range (ar c)).all (exF c am f)
def HU(c:Cat)(u:Int)(ob am:List (List Int)):Bool:=(HT c&&inn c.1 u)&&(tbl ob c.1&&tbl am (ar c))
def CK(c:Cat)(u:Int)(ob am:List (List Int)):Bool:=HU c u ob am&&(((NY c ob am&&B8 ob u.toNat)&&B8 am (idA c u.toNat))&&(AaQ c ob am&&Y4 c am))
structure MH(c:Cat)(u:Int)(ob am:List (List Int))(n:Nat):Prop where
 cat:HT c=true
 sh:Sh c
 hn:c.1=(n:Int)
 uin:0<=u/\u<c.1
 ho:TB ob n
 ha:TB am (ar c)
theorem V9{c:Cat}{u:Int}{ob am:List (List Int)}(h:HU c u ob am=true): ∃n,MH c u ob am n:=by
 unfold HU at h;simp only [bAE]at h;obtain⟨⟨h1,h2⟩,h3,h4⟩:=h;have hs:=Qe h1;obtain⟨a1,_⟩:=hs.hd;obtain⟨n,hn⟩: ∃n:Nat,c.1=(n:Int):=⟨c.1.toNat,by omega⟩
 rw [hn]at h3;exact⟨n,h1,hs,hn,Hk.1 h2,XB h3,XB h4⟩
theorem p62{c:Cat}{u:Int}{ob am:List (List Int)}(ok:OR c ob am):G62 (mkM c u ob am)=some (CK c u ob am):=by
 obtain⟨oc,⟨o1,o2⟩,⟨o3,o4⟩⟩:=ok;have e58:=p89 c u;have e1:=p112 (n:=c.1) o1 o2;have e2:=p112 (n:=((c.2.1.length:Nat):Int)) o3 o4;unfold CK;cases hh:HU c u ob am with
 |false=>
  unfold G62 mkM;simp only [Prod.eta,p111 oc,e58,e1,e2,Option.bind_some];unfold HU ar at hh;cases h1:HT c with
  |false=>rfl
  |true=>
  cases h2:inn c.1 u with
  |false=>rfl
  |true=>
  cases h3:tbl ob c.1 with
  |false=>rfl
  |true=>
  cases h4:tbl am ((c.2.1.length:Nat):Int)with
  |false=>rfl
  |true=>rw [h1,h2,h3,h4]at hh;cases hh
 |true=>
 obtain⟨n,h⟩:=V9 hh;have hh':=hh;unfold HU at hh';simp only [bAE]at hh';obtain⟨⟨h1,h2⟩,h3,h4⟩:=hh';have h4:tbl am ((c.2.1.length:Nat):Int)=true:=h4;obtain⟨a1,a2,a3,a4,a5,a6,a7,a8⟩:=h.sh.hd;have hm:ar c<=40:=a2;have hn:=h.hn;have lo:=h.ho.len;have la:=h.ha.len;have c5:c.2.2.2.2.length=ar c:=a6;obtain⟨un,eu⟩: ∃k:Nat,u=(k:Int):=⟨u.toNat,by have:=h.uin.1;omega⟩
 have hun:un<n:=by have:=h.uin.2;omega
 subst eu;have hul:un<c.2.2.2.1.length:=by omega
 obtain⟨iu,hiu,eiu,_,_⟩:=idX h.sh h.cat (x:=un) (by omega)
 have e106:=p113 (u:=(un:Int)) h.sh hn h.ho h.ha;unfold mkM at e106;have e107:=p100 h.ho hun (by omega)
 have e107':=p100 h.ha hiu (by omega)
 have eid:idA c un=iu:=by unfold idA;rw [eiu,tNC]
 rw [tNC,eid];unfold G62 mkM;simp only [Prod.eta,p111 oc,e58,e1,e2,h1,h2,h3,h4,e106,e107,Ad hul,eiu,e107',and_self,if_true,tNC,Option.bind_some,Bool.not_true,cond_false,Bool.true_and];cases NY c ob am with
 |false=>rfl
 |true=>
 cases B8 ob un with
 |false=>rfl
 |true=>
 cases B8 am iu with
 |false=>rfl
 |true=>
 simp only [Bool.not_true,cond_false,Option.bind_some,Bool.true_and];unfold AaQ;rw [hn,tNC];refine UH (n:=n) (p:=fun x=>(List.range n).all (idM c ob am x)) (bad:=Hb) (id:=0) (Post:=fun b (o:Option Bool)=>o=some (b&&Y4 c am)) (fun x hx=>?_) ?_ ?_ (fun r hr=>by rw [hr];rfl)
 ·simp only [Aw,hx,decide_true,cond_true]
  refine Mk (n:=n) (p:=idM c ob am x) (bad:=Hb) (id:=2) (s:=((x+1:Nat):Int)) (fun y hy=>?_) ?_ ?_
  ·obtain⟨ix,hix,eix,_,_⟩:=idX h.sh h.cat (x:=x) (by omega)
   obtain⟨iy,hiy,eiy,_,_⟩:=idX h.sh h.cat (x:=y) (by omega)
   obtain⟨z,hz,ez⟩:=h.ho.val x y hx hy;have ez':(ob.getD x []).getD y 0=(z:Int):=ez;have q1:x<c.2.2.2.1.length:=by omega
   have q2:y<c.2.2.2.1.length:=by omega
   have q3:z<c.2.2.2.1.length:=by omega
   have q4:ix<am.length:=by omega
   have q5:iy<(am.getD ix []).length:=by rw [h.ha.row ix hix];exact hiy
   have q6:x<ob.length:=by omega
   have q7:y<(ob.getD x []).length:=by rw [h.ho.row x hx];exact hy
   simp only [Aw,hy,decide_true,cond_true,Ad q1,eix,Ad q4,Ad q2,eiy,Ad q5,Ad q6,Ad q7,ez',Ad q3,and_self,if_true,tNC];rw [Az (by omega) (by omega)]
   unfold idM idA;rw [eix,eiy,ez,tNC,tNC,tNC];show Oe _ _ (decide ((am.getD ix []).getD iy 0=c.2.2.2.1.getD z 0)) _;cases decide ((am.getD ix []).getD iy 0=c.2.2.2.1.getD z 0)with
   |true=>exact Cp rfl
   |false=>exact C0 rfl rfl
  ·simp only [A5,cond_false]
  ·show(if 2=2 then _ else none)=_
   rw [if_pos rfl,Az (by omega) (by omega)];rfl
 ·simp only [A5,cond_false]
 show(if 0=0 then _ else none)=_
 rw [if_pos rfl,Bool.true_and];unfold Y4;refine UH (n:=ar c) (p:=fun f=>(List.range (ar c)).all (exF c am f)) (bad:=Hb) (id:=4) (Post:=fun b (o:Option Bool)=>o=some b) (fun f hf=>?_) ?_ rfl (fun r hr=>by rw [hr])
 ·have hf2:f<c.2.1.length:=hf
  simp only [Aw,hf2,decide_true,cond_true];refine Mk (n:=ar c) (p:=exF c am f) (bad:=Hb) (id:=6) (s:=((f+1:Nat):Int)) (fun k hk=>?_) ?_ ?_
  ·have hk2:k<c.2.1.length:=hk
   have r1:f<c.2.2.2.2.length:=by omega
   have r2:k<(c.2.2.2.2.getD f []).length:=by have:=h.sh.row f hf;omega
   simp only [Aw,hk2,decide_true,cond_true,Ad r1,Ad r2,and_self,if_true,tNC];unfold exF;cases hmt:mt c f k with
   |false=>
    have e:(c.2.2.2.2.getD f []).getD k 0= -1:=h.sh.neg f k hf hk hmt;have e0:decide ((c.2.2.2.2.getD f []).getD k 0<0)=true:=dT (by omega)
    refine Cp ?_;simp only [e0,cond_true];rw [Az (by omega) (by omega)];rfl
   |true=>
    obtain⟨t1,t2,_⟩:=h.sh.pos f k hf hk hmt;obtain⟨t,et⟩: ∃t:Nat,T c f k=(t:Int):=⟨(T c f k).toNat,by omega⟩
    have et':(c.2.2.2.2.getD f []).getD k 0=(t:Int):=et;have ht:t<ar c:=by show t<c.2.1.length;omega
    have e0:decide ((t:Int)<0)=false:=dF (by omega)
    rw [Bool.not_true,Bool.false_or];simp only [et',e0,cond_false];refine Mk (n:=ar c) (p:=fun g=>(List.range (ar c)).all (exC c am f k g)) (bad:=Uo Hb) (id:=8) (s:=((k+1:Nat):Int)) (fun g hg=>?_) ?_ ?_
    ·have hg2:g<c.2.1.length:=hg
     simp only [Aw,hg2,decide_true,cond_true];refine Mk (n:=ar c) (p:=exC c am f k g) (bad:=Uo (Uo Hb)) (id:=10) (s:=((g+1:Nat):Int)) (fun l hl=>?_) ?_ ?_
     ·have hl2:l<c.2.1.length:=hl
      have s1:g<c.2.2.2.2.length:=by omega
      have s2:l<(c.2.2.2.2.getD g []).length:=by have:=h.sh.row g hg;omega
      simp only [Aw,hl2,decide_true,cond_true,Ad s1,Ad s2,and_self,if_true,tNC];rw [Az (by omega) (by omega)]
      unfold exC;cases hgl:mt c g l with
      |false=>
       have e:(c.2.2.2.2.getD g []).getD l 0= -1:=h.sh.neg g l hg hl hgl;have e0:decide (0<=(c.2.2.2.2.getD g []).getD l 0)=false:=dF (by omega)
       refine Cp ?_;simp only [e0,cond_false,Option.bind_some];rfl
      |true=>
       obtain⟨v1,v2,_⟩:=h.sh.pos g l hg hl hgl;obtain⟨v,ev⟩: ∃t:Nat,T c g l=(t:Int):=⟨(T c g l).toNat,by omega⟩
       have ev':(c.2.2.2.2.getD g []).getD l 0=(v:Int):=ev;have hv:v<ar c:=by show v<c.2.1.length;omega
       have e9:decide ((0:Int)<=(v:Int))=true:=dT (by omega)
       obtain⟨p,hp,ep⟩:=h.ha.val f g hf hg;obtain⟨q,hq,eq⟩:=h.ha.val k l hk hl;have ep':(am.getD f []).getD g 0=(p:Int):=ep;have eq':(am.getD k []).getD l 0=(q:Int):=eq;have w1:t<am.length:=by omega
       have w2:v<(am.getD t []).length:=by rw [h.ha.row t ht];exact hv
       have w3:f<am.length:=by omega
       have w4:g<(am.getD f []).length:=by rw [h.ha.row f hf];exact hg
       have w5:k<am.length:=by omega
       have w6:l<(am.getD k []).length:=by rw [h.ha.row k hk];exact hl
       have w7:p<c.2.2.2.2.length:=by omega
       have w8:q<(c.2.2.2.2.getD p []).length:=by have:=h.sh.row p hp;have:ar c=c.2.1.length:=rfl;omega
       simp only [ev',e9,decide_true,cond_true,Ad r1,Ad r2,et',Ad w1,Ad w2,Ad w3,Ad w4,ep',Ad w7,Ad w5,Ad w6,eq',Ad w8,and_self,if_true,tNC,Option.bind_some,Bool.not_true,Bool.false_or];rw [et,ev,ep,eq,tNC,tNC,tNC,tNC];show Oe _ _ (decide ((am.getD t []).getD v 0=(c.2.2.2.2.getD p []).getD q 0)) _;cases decide ((am.getD t []).getD v 0=(c.2.2.2.2.getD p []).getD q 0)with
       |true=>exact Cp rfl
       |false=>exact Cq ⟨_,rfl,_,rfl,_,rfl,_,rfl,rfl⟩
     ·have e:decide (ar c<c.2.1.length)=false:=dF (Nat.lt_irrefl _)
      simp only [Aw,e,cond_false]
     ·show(if 10=10 then _ else none)=_
      rw [if_pos rfl,Az (by omega) (by omega)];rfl
    ·have e:decide (ar c<c.2.1.length)=false:=dF (Nat.lt_irrefl _)
     simp only [Aw,e,cond_false]
    ·show(if 8=8 then _ else none)=_
     rw [if_pos rfl,Az (by omega) (by omega)];rfl
  ·have e:decide (ar c<c.2.1.length)=false:=dF (Nat.lt_irrefl _)
   simp only [Aw,e,cond_false]
  ·show(if 6=6 then _ else none)=_
   rw [if_pos rfl,Az (by omega) (by omega)];rfl
 ·have e:decide (ar c<c.2.1.length)=false:=dF (Nat.lt_irrefl _)
  simp only [Aw,e,cond_false]
end
end Go.Ve.D


namespace Go.Ve.D
open Go Go.Ve
noncomputable section
theorem p106{c:Cat}{u:Int}{ob am:List (List Int)}{n:Nat}(h:MH c u ob am n):G106 (mkM c u ob am)=some (Y4 c am):=by
 obtain⟨a1,a2,a3,a4,a5,a6,a7,a8⟩:=h.sh.hd;have hm:ar c<=40:=a2;have la:=h.ha.len;have hob:c.2.1.length<=1048576:=by omega
 have out_eq: ∀ (a:Nat) (q:Nat->Bool),((List.range (ar c)).all fun b=>!mt c a b||q b)=(List.range (Jz c (tT c a)).length).all fun i=>q ((Jz c (tT c a)).getD i 0).toNat:=by
  intro a q;rw [Z0 (q:=fun b=>q b.toNat)]
  refine UM fun b _=>?_
  rw [tNC]
  congr 2
  exact decide_eq_decide.2 eq_comm
 unfold G106 mkM Y4;simp only [Prod.eta];refine UH (n:=ar c) (p:=fun f=>(List.range (ar c)).all (exF c am f)) (bad:=Hb) (id:=0) (Post:=fun b (o:Option Bool)=>o=some b) (fun f hf=>?_) ?_ rfl (fun r hr=>by rw [hr])
 ·have hf2:f<c.2.1.length:=hf
  have hf3:f<c.2.2.1.length:=by omega
  have e0:G135 (c,c.2.2.1.getD f 0)=some (Jz c (tT c f)):=p135 hob _;have hlf:(Jz c (tT c f)).length<=ar c:=NS;simp only [Aw,hf2,decide_true,cond_true,Ad hf3,e0,Option.bind_some,and_self,if_true,tNC]
  have es:(List.range (ar c)).all (exF c am f)=(List.range (Jz c (tT c f)).length).all fun i=>(List.range (ar c)).all fun g=>(List.range (ar c)).all (exC c am f ((Jz c (tT c f)).getD i 0).toNat g):=
   out_eq f fun k=>(List.range (ar c)).all fun g=>(List.range (ar c)).all (exC c am f k g)
  rw [es];refine Mk (n:=(Jz c (tT c f)).length) (p:=fun i=>(List.range (ar c)).all fun g=>(List.range (ar c)).all (exC c am f ((Jz c (tT c f)).getD i 0).toNat g)) (bad:=Hb) (id:=2) (s:=((f+1:Nat):Int)) (fun i hi=>?_) ?_ ?_
  ·obtain⟨k,hk,hkq,ek⟩: ∃k:Nat,k<ar c/\decide (fT c k=tT c f)=true/\(Jz c (tT c f)).getD i 0=(k:Int):=Qh hi
   have hmf:mt c f k=true:=dT (of_decide_eq_true hkq).symm;have hk2:k<c.2.1.length:=hk;simp only [Aw,hi,decide_true,cond_true,Ad hi,and_self,if_true,tNC,ek];refine Mk (n:=ar c) (p:=fun g=>(List.range (ar c)).all (exC c am f k g)) (bad:=Uo Hb) (id:=4) (s:=((i+1:Nat):Int)) (fun g hg=>?_) ?_ ?_
   ·have hg2:g<c.2.1.length:=hg
    have hg3:g<c.2.2.1.length:=by omega
    have e9:G135 (c,c.2.2.1.getD g 0)=some (Jz c (tT c g)):=p135 hob _;have hlg:(Jz c (tT c g)).length<=ar c:=NS;simp only [Aw,hg2,decide_true,cond_true,Ad hg3,e9,Option.bind_some,and_self,if_true,tNC]
    have es2:(List.range (ar c)).all (exC c am f k g)=(List.range (Jz c (tT c g)).length).all fun j=>decide (cell am (T c f k).toNat (T c g ((Jz c (tT c g)).getD j 0).toNat).toNat=T c (cell am f g).toNat (cell am k ((Jz c (tT c g)).getD j 0).toNat).toNat):=
     out_eq g fun l=>decide (cell am (T c f k).toNat (T c g l).toNat=T c (cell am f g).toNat (cell am k l).toNat)
    rw [es2];refine Mk (n:=(Jz c (tT c g)).length) (p:=fun j=>decide (cell am (T c f k).toNat (T c g ((Jz c (tT c g)).getD j 0).toNat).toNat=T c (cell am f g).toNat (cell am k ((Jz c (tT c g)).getD j 0).toNat).toNat)) (bad:=Uo (Uo Hb)) (id:=6) (s:=((g+1:Nat):Int)) (fun j hj=>?_) ?_ ?_
    ·obtain⟨l,hl,hlq,el⟩: ∃k:Nat,k<ar c/\decide (fT c k=tT c g)=true/\(Jz c (tT c g)).getD j 0=(k:Int):=Qh hj
     have hmg:mt c g l=true:=dT (of_decide_eq_true hlq).symm;have hl2:l<c.2.1.length:=hl;obtain⟨t1,t2,_⟩:=h.sh.pos f k hf hk hmf;obtain⟨t,et⟩: ∃t:Nat,T c f k=(t:Int):=⟨(T c f k).toNat,by omega⟩
     have ht:t<ar c:=by show t<c.2.1.length;omega
     obtain⟨v1,v2,_⟩:=h.sh.pos g l hg hl hmg;obtain⟨v,ev⟩: ∃t:Nat,T c g l=(t:Int):=⟨(T c g l).toNat,by omega⟩
     have hv:v<ar c:=by show v<c.2.1.length;omega
     obtain⟨p,hp,ep⟩:=h.ha.val f g hf hg;obtain⟨q,hq,eq⟩:=h.ha.val k l hk hl;have ep':(am.getD f []).getD g 0=(p:Int):=ep;have eq':(am.getD k []).getD l 0=(q:Int):=eq;have w1:t<am.length:=by omega
     have w2:v<(am.getD t []).length:=by rw [h.ha.row t ht];exact hv
     have w3:f<am.length:=by omega
     have w4:g<(am.getD f []).length:=by rw [h.ha.row f hf];exact hg
     have w5:k<am.length:=by omega
     have w6:l<(am.getD k []).length:=by rw [h.ha.row k hk];exact hl
     have x1:=p67 h.sh (f:=(f:Int)) (g:=(k:Int)) (Ad hf2) (Ad hk2);have x2:=p67 h.sh (f:=(g:Int)) (g:=(l:Int)) (Ad hg2) (Ad hl2);have x3:=p67 h.sh (f:=(p:Int)) (g:=(q:Int)) (Ad (show p<c.2.1.length from hp)) (Ad (show q<c.2.1.length from hq))
     simp only [tNC]at x1 x2 x3;simp only [Aw,hj,decide_true,cond_true,Ad hj,el,x1,x2,et,ev,Ad w1,Ad w2,Ad w3,Ad w4,ep',Ad w5,Ad w6,eq',x3,and_self,if_true,tNC,Option.bind_some];rw [Az (by omega) (by omega),ep,eq]
     simp only [tNC];show Oe _ _ (decide ((am.getD t []).getD v 0=T c p q)) _;cases decide ((am.getD t []).getD v 0=T c p q)with
     |true=>exact Cp rfl
     |false=>exact Cq ⟨_,rfl,_,rfl,_,rfl,_,rfl,rfl⟩
    ·simp only [A5,cond_false]
    ·show(if 6=6 then _ else none)=_
     rw [if_pos rfl,Az (by omega) (by omega)];rfl
   ·have e:decide (ar c<c.2.1.length)=false:=dF (Nat.lt_irrefl _)
    simp only [Aw,e,cond_false]
   ·show(if 4=4 then _ else none)=_
    rw [if_pos rfl,Az (by omega) (by omega)];rfl
  ·simp only [A5,cond_false]
  ·show(if 2=2 then _ else none)=_
   rw [if_pos rfl,Az (by omega) (by omega)];rfl
 ·have e:decide (ar c<c.2.1.length)=false:=dF (Nat.lt_irrefl _)
  simp only [Aw,e,cond_false]
end
end Go.Ve.D


namespace Go.Ve.D
open Go Go.Ve
noncomputable section
theorem leN{i:Nat}:((0:Int)<=(i:Int))=True:=eq_true (by omega)
theorem ltN{i n:Nat}(h:i<n):((i:Int)<(n:Int))=True:=eq_true (by omega)
theorem wN{i:Nat}(h:i<9223372036854775807):IntKind.wrap .i64 ((i:Int)+1)=((i+1:Nat):Int):=by
 rw [Az (by omega) (by omega)];rfl
theorem Yz{a b c:Bool}(h:a=true↔b=true/\c=true):a=(b&&c):=by
 rw [Bool.eq_iff_iff,bAE];exact h
theorem BG{a:Int}{n:Nat}(h:0<=a/\a<(n:Int)): ∃k:Nat,a=(k:Int)/\k<n:=⟨a.toNat,by omega,by omega⟩
theorem p66{c:Cat}(h:Sh c){f:Nat}(hf:f<ar c):G66 (c,(f:Int))=some (Ha c f):=by
 obtain⟨a1,a2,a3,a4,a5,a6,a7,a8⟩:=h.hd;have hf2:f<c.2.1.length:=hf;obtain⟨x,ex,hx⟩:=BG (a:=c.2.1.getD f 0) (n:=c.2.2.2.1.length) (by have:=h.fr f hf;omega)
 unfold G66 Ha fT;simp (disch:=omega) only [tNC,ex,leN,ltN,and_self,if_true]
theorem p69{c:Cat}(h:Sh c){f:Nat}(hf:f<ar c):G69 (c,(f:Int))=some (Ha c f):=p66 h hf
def dbC(c:Cat)(ob am:List (List Int))(f g:Nat):Bool:=enC c ob am f g&& !(Ha c f&&(Ha c g&& !Ha c (cell am f g).toNat))
theorem dbs{c:Cat}{u:Int}{ob am:List (List Int)}{n:Nat}(h:MH c u ob am n):((List.range (ar c)).all fun f=>(List.range (ar c)).all (dbC c ob am f))=(NY c ob am&&AaQ c ob am):=by
 have hn:=h.hn;refine Yz ⟨fun H=>?_,fun H=>?_⟩
 ·have K: ∀f g,f<ar c->g<ar c->dbC c ob am f g=true:=fun f g hf hg=>aET.1 (aET.1 H f (List.mem_range.2 hf)) g (List.mem_range.2 hg)
  have E: ∀f g,f<ar c->g<ar c->enC c ob am f g=true:=fun f g hf hg=>by
   have:=K f g hf hg;unfold dbC at this;rw [bAE]at this;exact this.1
  refine⟨aET.2 fun f hf=>aET.2 fun g hg=>E f g (List.mem_range.1 hf) (List.mem_range.1 hg),?_⟩
  refine aET.2 fun x hx=>aET.2 fun y hy=>?_
  rw [List.mem_range]at hx hy;obtain⟨ix,hix,eix,fx,tx⟩:=idX h.sh h.cat (x:=x) (by omega)
  obtain⟨iy,hiy,eiy,fy,ty⟩:=idX h.sh h.cat (x:=y) (by omega)
  obtain⟨z,hz,ez⟩:=h.ha.val ix iy hix hiy;have k:=K ix iy hix hiy;unfold dbC at k;have i1:Ha c ix=true:=by
   unfold Ha;rw [fx,tNC];exact dT eix
  have i2:Ha c iy=true:=by
   unfold Ha;rw [fy,tNC];exact dT eiy
  rw [i1,i2,ez,tNC,bAE]at k;obtain⟨k1,k2⟩:=k;have i3:Ha c z=true:=by simpa using k2
  unfold enC at k1;rw [ez,tNC,fx,fy,tNC,tNC,bAE,decide_eq_true_eq]at k1;unfold Ha at i3;rw [k1.1]at i3;unfold idM idA;rw [eix,eiy,tNC,tNC,ez];exact dT (of_decide_eq_true i3).symm
 ·obtain⟨H1,H2⟩:=H
  refine aET.2 fun f hf=>aET.2 fun g hg=>?_
  rw [List.mem_range]at hf hg;have e:=aET.1 (aET.1 H1 f (List.mem_range.2 hf)) g (List.mem_range.2 hg);unfold dbC;rw [e,Bool.true_and];cases i1:Ha c f with
  |false=>rfl
  |true=>
  cases i2:Ha c g with
  |false=>rfl
  |true=>
  obtain⟨x,ex,hx⟩:=BG (n:=n) (by rw [<-hn];exact h.sh.fr f hf)
  obtain⟨y,ey,hy⟩:=BG (n:=n) (by rw [<-hn];exact h.sh.fr g hg)
  have q:=aET.1 (aET.1 H2 x (List.mem_range.2 (by omega))) y (List.mem_range.2 (by omega))
  have ex':fT c f=(x:Int):=ex;have ey':fT c g=(y:Int):=ey;unfold Ha at i1 i2;rw [ex',tNC,decide_eq_true_eq]at i1;rw [ey',tNC,decide_eq_true_eq]at i2;unfold enC at e;rw [ex',ey',tNC,tNC,bAE,decide_eq_true_eq]at e;unfold idM idA at q;rw [i1,i2,tNC,tNC,decide_eq_true_eq]at q;obtain⟨z,hz,ez⟩:=h.ha.val f g hf hg
  have:Ha c (cell am f g).toNat=true:=by
   unfold Ha;rw [e.1,<-q];exact dT (by omega)
  rw [this];rfl
theorem p54{c:Cat}{u:Int}{ob am:List (List Int)}(ok:OR c ob am):G54 (mkM c u ob am)=some (CK c u ob am):=by
 obtain⟨oc,⟨o1,o2⟩,⟨o3,o4⟩⟩:=ok;unfold CK;cases hcat:HT c with
 |false=>
  have hh:HU c u ob am=false:=by unfold HU;rw [hcat];rfl
  unfold G54 mkM;simp only [Prod.eta,p102 oc,hcat,hh,Option.bind_some,Bool.not_false,Bool.false_and,cond_true]
 |true=>
 obtain⟨a1,a2,a3,a4,a5,a6,a7,a8⟩:=(Qe hcat).hd;have hm:ar c<=40:=a2;have e62:=p81' u c.1 ⟨a1.1,by omega⟩
 have e1:=p103 (n:=c.1) ⟨a1.1,by omega⟩ o1 o2
 have e2:=p103 (n:=((c.2.1.length:Nat):Int)) ⟨by omega,by omega⟩ o3 o4
 cases hh:HU c u ob am with
 |false=>
  unfold G54 mkM;simp only [Prod.eta,p102 oc,e62,e1,e2,p75,hcat,Option.bind_some];unfold HU ar at hh;rw [hcat]at hh;cases h2:inn c.1 u with
  |false=>rfl
  |true=>
  cases h3:tbl ob c.1 with
  |false=>rfl
  |true=>
  cases h4:tbl am ((c.2.1.length:Nat):Int)with
  |false=>rfl
  |true=>rw [h2,h3,h4]at hh;cases hh
 |true=>
 obtain⟨n,h⟩:=V9 hh;have hh':=hh;unfold HU at hh';simp only [bAE]at hh';obtain⟨⟨_,h2⟩,h3,h4⟩:=hh';have h4:tbl am ((c.2.1.length:Nat):Int)=true:=h4;have hn:=h.hn;have lo:=h.ho.len;have la:=h.ha.len;obtain⟨un,eu,hun⟩:=BG (n:=n) (by rw [<-hn];exact h.uin)
 subst eu;have hul:un<c.2.2.2.1.length:=by omega
 obtain⟨iu,hiu,eiu,_,_⟩:=idX h.sh h.cat (x:=un) (by omega)
 have e117:=p106 h;unfold mkM at e117;have e116:=p105 h.ho hun (by omega)
 have e116':=p105 h.ha hiu (by omega)
 have eid:idA c un=iu:=by unfold idA;rw [eiu,tNC]
 rw [tNC,eid,Bool.true_and]
 have sh:((NY c ob am&&B8 ob un)&&B8 am iu&&(AaQ c ob am&&Y4 c am))=((NY c ob am&&AaQ c ob am)&&((B8 ob un&&B8 am iu)&&Y4 c am)):=by
  cases NY c ob am<;>cases B8 ob un<;>cases B8 am iu<;>cases AaQ c ob am<;>rfl
 rw [sh,<-dbs h];unfold G54 mkM;simp only [Prod.eta,p102 oc,e62,e1,e2,p75,hcat,h2,h3,h4,Option.bind_some,Bool.not_true,cond_false];rw [<-la];refine UH (n:=am.length) (p:=fun f=>(List.range am.length).all (dbC c ob am f)) (bad:=Hb) (id:=0) (Post:=fun b (o:Option Bool)=>o=some (b&&((B8 ob un&&B8 am iu)&&Y4 c am))) (fun f hf=>?_) ?_ ?_ (fun r hr=>by rw [hr];rfl)
 ·have hf':f<ar c:=by omega
  have hfr:=h.ha.row f hf';simp only [Aw,hf,decide_true,cond_true,Ad hf,and_self,if_true,tNC];refine Mk (n:=am.length) (p:=dbC c ob am f) (bad:=Hb) (id:=2) (s:=((f+1:Nat):Int)) (fun g hg=>?_) ?_ ?_
  ·have hg':g<ar c:=by omega
   have hac:ar c=c.2.1.length:=rfl;obtain⟨z,hz,ez⟩:=h.ha.val f g hf' hg';have ez':(am.getD f []).getD g 0=(z:Int):=ez;have e114:=AaM (c:=c) (a:=(z:Int)) (by omega) (by omega)
   obtain⟨f1,ef1,hf1⟩:=BG (n:=n) (by rw [<-hn];exact h.sh.fr f hf')
   obtain⟨g1,eg1,hg1⟩:=BG (n:=n) (by rw [<-hn];exact h.sh.fr g hg')
   obtain⟨f2,ef2,hf2⟩:=BG (n:=n) (by rw [<-hn];exact h.sh.to f hf')
   obtain⟨g2,eg2,hg2⟩:=BG (n:=n) (by rw [<-hn];exact h.sh.to g hg')
   have r1:=h.ho.row f1 hf1;have r2:=h.ho.row f2 hf2;simp (disch:=omega) only [decide_true,cond_true,leN,ltN,and_self,if_true,tNC,ez',e114,ef1,eg1,ef2,eg2,Option.bind_some,p66 h.sh,wN];unfold dbC enC fT tT;rw [ez,ef1,eg1,ef2,eg2];simp only [tNC];show Oe _ _ ((decide (c.2.1.getD z 0=(ob.getD f1 []).getD g1 0)&&decide (c.2.2.1.getD z 0=(ob.getD f2 []).getD g2 0))&&_) _;cases decide (c.2.1.getD z 0=(ob.getD f1 []).getD g1 0)with
   |false=>exact C0 rfl rfl
   |true=>
   cases decide (c.2.2.1.getD z 0=(ob.getD f2 []).getD g2 0)with
   |false=>exact C0 rfl rfl
   |true=>
   cases Ha c f with
   |false=>exact Cp rfl
   |true=>
   cases Ha c g with
   |false=>exact Cp rfl
   |true=>
   cases Ha c z with
   |false=>exact C0 rfl rfl
   |true=>exact Cp rfl
  ·have e:decide (((am.length:Nat):Int)<(((am.getD f []).length:Nat):Int))=false:=dF (by omega)
   simp only [e,cond_false]
  ·show(if 2=2 then _ else none)=_
   rw [if_pos rfl,wN (by omega)]
 ·simp only [A5,cond_false]
 ·show(if 0=0 then _ else none)=_
  rw [if_pos rfl];simp (disch:=omega) only [e116,eiu,e116',leN,ltN,and_self,if_true,tNC,Option.bind_some];cases B8 ob un with
  |false=>rfl
  |true=>
  cases B8 am iu with
  |false=>rfl
  |true=>
  simp only [cond_true,Option.bind_some,Bool.true_and];rw [e117];rfl
end
end Go.Ve.D

