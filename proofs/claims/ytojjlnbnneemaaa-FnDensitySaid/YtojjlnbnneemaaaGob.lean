/- Set functors: what makes them; sieves. -/
import Derived.Test.YtojjlnbnneemaaaGnc
open List(range range_succ append_nil take_length replicate map_cons length_set)
open Nat(lt_irrefl)
open Option(bind_some)
set_option linter.all false
namespace Go.Ve.D
open Go Go.Ve
variable{f:SF}
theorem p129(h:FS f):∃r,G129 f=some r/\decide (r.1=0)=(idS f&&coS f):=by
 obtain⟨a1,a2,a3,a4,a5,a6,a7,a8⟩:=h.sh.hd;have l1:((f.2.2.2.2.2.1.length:Nat):Int)=f.1:=h.l1;have l2:f.2.2.2.2.2.2.length=ar (shS f):=h.l2;have c4:((f.2.2.2.1.length:Nat):Int)=f.1:=a7;have c5:f.2.2.2.2.1.length=ar (shS f):=a6;have hf1:f.1<=8:=a1.2;have hm:ar (shS f)<=40:=a2
 delta G129 idS lw l2 g2 lt gd li l0 q4 sc nx bk
 refine Aap (n:=f.2.2.2.1.length) (p:=λx=>(range (sz f (x:Int)).toNat).all (Pn f x)) (bad:=X6) (id:=0) (Post:=λb (o:Option R4)=>∃r,o=some r/\decide (r.1=0)=(b&&coS f)) (λx Y=>?_) ?_ ?_ (λr Z=>⟨r,rfl,Z⟩)
 .have hz:=h.szi (x:=(x:Int)) ⟨by omega,by omega⟩
  obtain⟨n,W⟩:∃n:Nat,sz f (x:Int)=(n:Int):=⟨(sz f (x:Int)).toNat,by omega⟩
  obtain⟨a,A,ea,ef⟩:=h.ida Y;have ea':f.2.2.2.1.getD x 0=(a:Int):=ea;have U:a<f.2.2.2.2.2.2.length:=by omega
  have E:(act f a).length=n:=by
   have:=h.al a A;rw[ef,W]at this;omega
  have u:(f.2.2.2.2.2.2.getD a []).length=n:=E;simp only[Af,Y,decide_true,cond_true,Ac Y,ea',Ac U,and_self,if_true,tNC,u];rw[W,tNC];refine Acz (n:=n) (p:=Pn f x) (bad:=X6) (id:=2) (s:=((x+1:Nat):Int)) (λe J=>?_) ?_ ?_
  .simp only[J,decide_true,cond_true,Ac J,and_self,if_true,tNC]
   rw[Ah (by omega) (by omega)]
   unfold Pn;rw[ea,tNC];show UO _ _ (decide ((f.2.2.2.2.2.2.getD a []).getD e 0=(e:Int))) _;cases decide ((f.2.2.2.2.2.2.getD a []).getD e 0=(e:Int))with
   |true=>exact D6 rfl
   |false=>exact HN ⟨_,rfl,_,rfl,rfl⟩
  .simp only[Af,lt_irrefl,decide_false,cond_false]
  .show(if 2=2 then _ else none)=_
   rw[if_pos rfl,Ah (by omega) (by omega)];rfl
 .have e:decide (((f.2.2.2.1.length:Nat):Int)<((f.2.2.2.1.length:Nat):Int))=false:=by rw[Af];exact dF (lt_irrefl _)
  simp only[e,cond_false]
 .show ∃r,(if 0=0 then _ else none)=some r/\_
  rw[if_pos rfl,Bool.true_and];unfold coS;refine Aap (n:=ar (shS f)) (p:=λa=>(range (ar (shS f))).all (coB f a)) (bad:=X6) (id:=4) (Post:=λb (o:Option R4)=>∃r,o=some r/\decide (r.1=0)=b) (λa A=>?_) ?_ ⟨_,rfl,rfl⟩ (λr Z=>⟨r,rfl,Z⟩)
  .have r1:a<f.2.2.2.2.1.length:=by omega
   have er:(f.2.2.2.2.1.getD a []).length=ar (shS f):=h.sh.row a A;have q4:a<f.2.2.2.2.2.2.length:=by omega
   simp only[Af,r1,decide_true,cond_true,Ac r1,and_self,if_true,tNC,er];refine Acz (n:=ar (shS f)) (p:=coB f a) (bad:=X6) (id:=6) (s:=((a+1:Nat):Int)) (λb O=>?_) ?_ ?_
   .simp only[O,decide_true,cond_true,Ac O,and_self,if_true,tNC]
    unfold coB;cases B:mt (shS f) a b with
    |false=>
     have e:(f.2.2.2.2.1.getD a []).getD b 0= -1:=h.sh.neg a b A O B;have e0:decide ((f.2.2.2.2.1.getD a []).getD b 0<0)=true:=dT (by omega)
     refine D6 ?_;simp only[e0,cond_true];rw[Ah (by omega) (by omega)];rfl
    |true=>
     obtain⟨t1,t2,_⟩:=h.sh.pos a b A O B;obtain⟨t,et⟩:∃t:Nat,T (shS f) a b=(t:Int):=⟨(T (shS f) a b).toNat,by omega⟩
     have et':(f.2.2.2.2.1.getD a []).getD b 0=(t:Int):=et;have e0:decide ((t:Int)<0)=false:=dF (by omega)
     obtain⟨f1,f2⟩:=h.sh.fr a A;obtain⟨z1,z2⟩:=h.szi (x:=fT (shS f) a) ⟨f1,f2⟩;have U:=h.al a A;obtain⟨n,W⟩:∃n:Nat,sz f (fT (shS f) a)=(n:Int):=⟨(sz f (fT (shS f) a)).toNat,by omega⟩
     have E:(act f a).length=n:=by omega
     have u:(f.2.2.2.2.2.2.getD a []).length=n:=E;rw[Bool.not_true,Bool.false_or,W,tNC];simp only[et',e0,cond_false,Ac q4,and_self,if_true,u,tNC];refine Acz (n:=n) (p:=Xz f a b) (bad:=lift X6) (id:=8) (s:=((b+1:Nat):Int)) (λe J=>?_) ?_ ?_
     .have he':e<(act f a).length:=by omega
      obtain⟨t',ht,et2,hl,d,ed,hd⟩:=h.el A O B he';have e3:t'=t:=by omega
      rw[e3]at ht hl;have ed':(f.2.2.2.2.2.2.getD a []).getD e 0=(d:Int):=ed;have q1:t<f.2.2.2.2.2.2.length:=by omega
      have q2:e<(f.2.2.2.2.2.2.getD t []).length:=hl;have q3:b<f.2.2.2.2.2.2.length:=by omega
      have q6:d<(f.2.2.2.2.2.2.getD b []).length:=hd;simp only[Af,J,decide_true,cond_true,Ac J,Ac q1,Ac q2,Ac q3,ed',Ac q6,and_self,if_true,tNC];rw[Ah (by omega) (by omega)]
      unfold Xz;rw[et,ed,tNC,tNC];show UO _ _ (decide ((f.2.2.2.2.2.2.getD t []).getD e 0=(f.2.2.2.2.2.2.getD b []).getD d 0)) _;cases decide ((f.2.2.2.2.2.2.getD t []).getD e 0=(f.2.2.2.2.2.2.getD b []).getD d 0)with
      |true=>exact D6 rfl
      |false=>exact HN ⟨_,rfl,_,rfl,_,rfl,rfl⟩
     .simp only[Af,lt_irrefl,decide_false,cond_false]
     .show(if 8=8 then _ else none)=_
      rw[if_pos rfl,Ah (by omega) (by omega)];rfl
   .simp only[Af,lt_irrefl,decide_false,cond_false]
   .show(if 6=6 then _ else none)=_
    rw[if_pos rfl,Ah (by omega) (by omega)];rfl
  .have e:decide (((ar (shS f):Nat):Int)<((f.2.2.2.2.1.length:Nat):Int))=false:=by rw[Af];exact dF (by omega)
   simp only[e,cond_false]
def Km(f:SF):Bool:=Hq f&&(idS f&&coS f)
def p84(h:okS f):G84 f=some (Km f):=by
 unfold G84 Km;have e:=p132 h;simp only[Prod.eta,e,bind_some];cases u:Hq f with
 |false=>rfl
 |true=>
  obtain⟨r,B,A⟩:=p133 (AbV u);simp only[Bool.not_true,cond_false,B,bind_some,Bool.true_and,A]
def p75(h:okS f):G75 f=some (Km f):=by
 unfold G75 Km;have e:=p128 h;simp only[Prod.eta,e,bind_some];cases u:Hq f with
 |false=>rfl
 |true=>
  obtain⟨r,B,A⟩:=p129 (AbV u);simp only[Bool.not_true,cond_false,B,bind_some,Bool.true_and,A]
def C8(h:Km f=true):FS f:=by
 unfold Km at h;rw[bAE]at h;exact AbV h.1
end Go.Ve.D


namespace Go.Ve.D
open Go Go.Ve
noncomputable section
theorem MP{α R:Type}{F:Int×List α->Option (LO (Int×List α) R)}{n K L:Nat}{g:Nat->List α}{id:Nat}(U:∀i,i<n->(g i).length<=K)
  (Y:∀i,i<n->∀A:List α,A.length<=L+i*K->F ((i:Int),A)=some (.next (((i+1:Nat):Int),A++g i))) (W:∀A:List α,F ((n:Int),A)=some (.brk id ((n:Int),A))) (u:List α) (Z:u.length<=L):
  A4 F ((0:Int),u)=some (.brk id ((n:Int),u++(range n).flatMap g)):=by
 have O:∀i,i<=n->(u++(range i).flatMap g).length<=L+i*K:=by
  intro i
  induction i with
  |zero=>intro _;simpa using Z
  |succ i J=>
   intro E;have:=J (by omega)
   have:=U i (by omega)
   rw[range_succ,List.flatMap_append,<-List.append_assoc,List.length_append];simp only[List.flatMap_cons,List.flatMap_nil,append_nil];rw[Nat.succ_mul];omega
 have B:=AG (f:=F) (st:=λi:Nat=>((i:Int),u++(range i).flatMap g)) (n:=n) (o:=.brk id ((n:Int),u++(range n).flatMap g)) (λi E=>?_) (W _) (λy=>by simp)
 .simpa using B
 .rw[Y i E _ (O i (by omega)),range_succ,List.flatMap_append,List.append_assoc]
  simp
def DT{α:Type}{g:Nat->List α}{K:Nat}:∀n,(∀i,i<n->(g i).length<=K)->((range n).flatMap g).length<=n*K
 |0,_=>by simp
 |n+1,h=>by
  have:=DT n λi u=>h i (by omega)
  have:=h n (by omega)
  rw[range_succ,List.flatMap_append,List.length_append,Nat.succ_mul];simp only[List.flatMap_cons,List.flatMap_nil,append_nil];omega
end
end Go.Ve.D


namespace Go.Ve.D
open Go Go.Ve
variable{a:Int}{l s x:List Int}{i:Nat}
def csS(s:List Int×List Int)(a:Int):List Int×List Int:=(s.1++[((s.2.findIdx (· ==a):Nat):Int)],bif s.2.contains a then s.2 else s.2++[a])
def cs(l:List Int):List Int×List Int:=l.foldl csS ([],[])
def Aca:cs (l++[a])=csS (cs l) a:=by simp[cs]
def JY(u:i<l.length):cs (l.take (i+1))=csS (cs (l.take i)) (l.getD i 0):=by
 rw[<-CI 0 u,Aca]
def QJ:∀(i:Nat) (l:List Int),i<=l.length->(cs (l.take i)).1.length=i/\(cs (l.take i)).2.length<=i
 |0,l,_=>by simp[cs]
 |i+1,l,h=>by
  obtain⟨u,A⟩:=QJ i l (by omega)
  rw[JY (by omega)]
  unfold csS;cases (cs (l.take i)).2.contains (l.getD i 0)<;>simp[u]<;>omega
theorem Z9(h:s.contains a=false):s.findIdx (· ==a)=s.length:=by
 rw[List.findIdx_eq_length];intro x u;have h:a∉s:=by simpa using h
 simp only[beq_eq_false_iff_ne,ne_eq]
 rintro rfl
 exact h u
def AbM(h:s.contains a=true):s.findIdx (· ==a)<s.length:=by
 rw[List.findIdx_lt_length];exact⟨a,by simpa using h,by simp⟩
theorem u157(h:s.length<=1048576)(a:Int):G157 (s,a)=some (bif s.contains a then((s.findIdx (· ==a):Nat):Int)else-1):=by
 delta G157 lw lt gd l0 sc nx bk
 cases O:s.contains a with
 |false=>
  refine Ao (v:=.brk 0 (s.length:Int)) (AG (st:=λi:Nat=>(i:Int)) (n:=s.length) (λi E=>?_) ?_ (λy=>by simp)) rfl
  .have u:¬s.getD i 0=a:=by
    intro e;have U:a∉s:=by simpa using O
    apply U;rw[<-e,gDE,gEE E];exact List.getElem_mem E
   simp only[Af,E,decide_true,cond_true,Ac E,and_self,if_true,tNC,u,decide_false,cond_false];rw[Ah (by omega) (by omega)];rfl
  .simp only[Af,lt_irrefl,decide_false,cond_false]
 |true=>
  have J:=AbM O;generalize A:s.findIdx (· ==a)=j at J
  have W:s.getD j 0=a:=by
   have:=List.findIdx_getElem (xs:=s) (p:=(· ==a)) (w:=by rw[A];exact J)
   simp only[beq_iff_eq]at this;rw[gDE,gEE J];simp only[A]at this;exact this
  refine Ao (v:=.ret (j:Int)) (AG (st:=λi:Nat=>(i:Int)) (n:=j) (λi E=>?_) ?_ (λy=>by simp)) rfl
  .have B:i<s.length:=by omega
   have u:¬s.getD i 0=a:=by
    intro e;have:=List.not_of_lt_findIdx (xs:=s) (p:=(· ==a)) (i:=i) (by rw[A];exact E)
    rw[gDE,gEE B]at e;simp only[Option.getD_some]at e;simp[e]at this
   simp only[Af,B,decide_true,cond_true,Ac B,and_self,if_true,tNC,u,decide_false,cond_false];rw[Ah (by omega) (by omega)];rfl
  .simp only[Af,J,decide_true,cond_true,Ac J,and_self,if_true,tNC,W]
   rfl
theorem u135(h:x.length<=1048576):G135 x=some (cs x).1:=by
 delta G135 mA ln lw lt gd l0 sc nx bk cp
 refine Ao (v:=.brk 0 ((x.length:Int),cs (x.take x.length))) (AG (st:=λi:Nat=>((i:Int),cs (x.take i))) (n:=x.length) (λi u=>?_) ?_ (λy=>by simp)) ?_
 .obtain⟨l1,l2⟩:=QJ i x (by omega)
  simp only[Af,u,decide_true,cond_true,Ac u,and_self,if_true,tNC,u157 (s:=(cs (x.take i)).2) (by omega),bind_some,JY u]
  rw[Ah (by omega) (by omega)]
  unfold csS;cases B:(cs (x.take i)).2.contains (x.getD i 0)with
  |false=>
   rw[Z9 B];simp only[cond_false,decide_true,cond_true,show((-1:Int)<0)=True by simp,List.length_cons,List.length_nil]
   rw[if_pos (by omega),if_pos (by omega)];rfl
  |true=>
   have A:¬ (((cs (x.take i)).2.findIdx (· ==x.getD i 0):Nat):Int)<0:=by omega
   simp only[cond_true,A,decide_false,cond_false,List.length_cons,List.length_nil];rw[if_pos (by omega)];rfl
 .simp only[Af,lt_irrefl,decide_false,cond_false]
 .rw[take_length];rfl
def mpF(s:List Int):List (Int×Int):=s.zipIdx.map λp=>(p.1,(p.2:Int))
def Mt(a:Int):∀(s:List Int) (k:Nat),BA (.int .i64) (.int .i64) a ((s.zipIdx k).map λp=>(p.1,(p.2:Int)))=bif s.contains a then some (((k+s.findIdx (· ==a):Nat):Int))else none
 |[],k=>rfl
 |b::s,k=>by
  show(bif decide (a=b)then some (k:Int)else BA (.int .i64) (.int .i64) a ((s.zipIdx (k+1)).map λp=>(p.1,(p.2:Int))))=_
  rw[Mt a s (k+1),List.contains_cons,List.findIdx_cons];by_cases h:a=b
  .subst h;simp
  .have A:(a==b)=false:=by simpa using h
   have u:(b==a)=false:=by simpa using Ne.symm h
   simp only[h,decide_false,cond_false,A,u,Bool.false_or];cases s.contains a with
   |false=>rfl
   |true=>simp only[cond_true];congr 2;omega
def has_mp:YR (.int .i64) (.int .i64) a (mpF s)=s.contains a:=by
 unfold YR mpF;rw[Mt a s 0];cases s.contains a<;>rfl
def get_mp(h:s.contains a=true):Ov (.int .i64) (.int .i64) a (mpF s)=((s.findIdx (· ==a):Nat):Int):=by
 unfold Ov mpF;rw[Mt a s 0,h];simp
def Zx(a b:Int):∀(s:List (Int×Int)),BA (.int .i64) (.int .i64) a s=none->MT (.int .i64) (.int .i64) a b s=s++[(a,b)]
 |[],_=>rfl
 |e::s,h=>by
  have h:(bif decide (a=e.1)then some e.2 else BA (.int .i64) (.int .i64) a s)=none:=h;show(bif decide (a=e.1)then(a,b)::s else e::MT (.int .i64) (.int .i64) a b s)=_;cases hd:decide (a=e.1)with
  |true=>rw[hd]at h;cases h
  |false=>
   rw[hd]at h;rw[cond_false,Zx a b s h];rfl
def put_mp(h:s.contains a=false):MT (.int .i64) (.int .i64) a (s.length:Int) (mpF s)=mpF (s++[a]):=by
 rw[Zx]
 .simp[mpF,List.zipIdx_append]
 .have:=Mt a s 0
  rw[h]at this;exact this
def Abp:(mpF s).length=s.length:=by simp[mpF]
def LM{o:List Int}{n:Nat}{v:Int}(u:o.length=i)(A:i<n):(o++replicate (n-i) (0:Int)).set i v=(o++[v])++replicate (n-(i+1)) 0:=by
 have e:n-i=(n-(i+1))+1:=by omega
 rw[e,List.replicate_succ,List.set_append_right _ _ (by omega),u,Nat.sub_self]
 simp
theorem p91(h:x.length<=1048576):G91 x=some (cs x).1:=by
 delta G91 ln lw lt gd l0 sc nx bk
 rw[if_pos ⟨by omega,by omega,by omega,by omega⟩]
 refine Ao (v:=.brk 0 ((x.length:Int),mpF (cs (x.take x.length)).2,(cs (x.take x.length)).1++replicate (x.length-x.length) 0)) (AG (st:=λi:Nat=>((i:Int),mpF (cs (x.take i)).2,(cs (x.take i)).1++replicate (x.length-i) 0)) (n:=x.length) (λi u=>?_) ?_ (λy=>by simp)) ?_
 .obtain⟨l1,l2⟩:=QJ i x (by omega)
  have B:((cs (x.take i)).1++replicate (x.length-i) (0:Int)).length=x.length:=by simp[l1];omega
  simp only[Af,u,decide_true,cond_true,Ac u,and_self,if_true,tNC,B,has_mp,Abp,JY u];rw[Ah (by omega) (by omega)]
  unfold csS;cases A:(cs (x.take i)).2.contains (x.getD i 0)with
  |false=>
   rw[Z9 A,put_mp A,LM l1 u];rfl
  |true=>
   simp only[Bool.not_true,cond_false];rw[get_mp A,LM l1 u];rfl
 .simp only[Af,lt_irrefl,decide_false,cond_false]
 .rw[take_length,Nat.sub_self]
  show some ((cs x).1++[])=_;rw[append_nil]
theorem Aam{m:List Int}(hl:l.length=m.length)(h:∀i j,i<l.length->j<l.length->(l.getD i 0=l.getD j 0↔m.getD i 0=m.getD j 0)):
  (cs l).1=(cs m).1:=by
 have key:∀i,i<=l.length->∃P:List Nat,(∀p∈P,p<l.length)/\(cs (l.take i)).2=P.map (λp=>l.getD p 0)/\(cs (m.take i)).2=P.map (λp=>m.getD p 0)/\(cs (l.take i)).1=(cs (m.take i)).1:=by
  intro i
  induction i with
  |zero=>intro _;exact⟨[],by simp,rfl,rfl,rfl⟩
  |succ i Z=>
   intro hi;obtain⟨P,O,E,B,J⟩:=Z (by omega)
   have U:∀p∈P,((l.getD p 0==l.getD i 0)=(m.getD p 0==m.getD i 0)):=by
    intro p A;rw[Bool.eq_iff_iff,beq_iff_eq,beq_iff_eq];exact h p i (O p A) (by omega)
   have Y:(cs (l.take i)).2.findIdx (· ==l.getD i 0)=(cs (m.take i)).2.findIdx (· ==m.getD i 0):=by
    rw[E,B];clear E B O
    induction P with
    |nil=>rfl
    |cons p P u=>
     simp only[map_cons,List.findIdx_cons];rw[U p (List.mem_cons_self ..),u λq W=>U q (mCM _ W)]
   have e2:(cs (l.take i)).2.contains (l.getD i 0)=(cs (m.take i)).2.contains (m.getD i 0):=by
    rw[E,B];clear E B O Y
    induction P with
    |nil=>rfl
    |cons p P u=>
     simp only[map_cons,List.contains_cons];rw[u λq W=>U q (mCM _ W),Bool.beq_comm (a:=l.getD i 0),Bool.beq_comm (a:=m.getD i 0)]
     congr 1
     have:=U p (List.mem_cons_self ..);rw[Bool.eq_iff_iff]at this⊢;simp only[beq_iff_eq]at this⊢;exact this
   rw[JY (by omega),JY (l:=m) (by omega)]
   unfold csS;rw[<-e2];cases hc:(cs (l.take i)).2.contains (l.getD i 0)with
   |true=>exact⟨P,O,E,B,by rw[J,Y]⟩
   |false=>
    refine⟨P++[i],?_,by simp[E],by simp[B],by rw[J,Y]⟩
    intro p A;rcases List.mem_append.1 A with A|A
    .exact O p A
    .rw[List.mem_singleton.1 A];omega
 obtain⟨P,_,_,_,J⟩:=key l.length (Nat.le_refl _);rw[take_length]at J;rw[J,hl,take_length]
end Go.Ve.D


namespace Go.Ve.D
open Go Go.Ve
variable{v:Int}{j:List Int}{x:Nat}
def okJ(j:List Int):Prop:=∀x,x<j.length->0<=j.getD x 0/\j.getD x 0<=(x:Int)
def jn(j:List Int)(x:Nat):Nat:=(j.getD x 0).toNat
def rt(j:List Int):Nat->Nat->Nat
 |0,x=>x
 |f+1,x=>if jn j x=x then x else rt j f (jn j x)
def root(j:List Int)(x:Nat):Nat:=rt j x x
def Kl(h:okJ j)(u:x<j.length):jn j x<=x:=by
 obtain⟨B,A⟩:=h x u;unfold jn;omega
def OW{j:List Int}(h:okJ j):∀(f x:Nat),x<j.length->x<=f->rt j f x=rt j x x
 |0,x,_,hf=>by
  obtain rfl:x=0:=by omega
  rfl
 |f+1,0,hx,_=>by
  have:=Kl h hx;show(if jn j 0=0 then 0 else _)=0
  rw[if_pos (by omega)]
 |f+1,x+1,hx,hf=>by
  have u:=Kl h hx;show(if jn j (x+1)=x+1 then x+1 else rt j f (jn j (x+1)))=(if jn j (x+1)=x+1 then x+1 else rt j x (jn j (x+1)))
  by_cases e:jn j (x+1)=x+1
  .rw[if_pos e,if_pos e]
  .rw[if_neg e,if_neg e,OW h f (jn j (x+1)) (by omega) (by omega),OW h x (jn j (x+1)) (by omega) (by omega)]
def BV(h:okJ j)(u:x<j.length):root j x=if jn j x=x then x else root j (jn j x):=by
 have A:=Kl h u;unfold root;cases x with
 |zero=>
  have:jn j 0=0:=by omega
  rw[if_pos this];rfl
 |succ x=>
  show(if jn j (x+1)=x+1 then x+1 else rt j x (jn j (x+1)))=_
  by_cases e:jn j (x+1)=x+1
  .rw[if_pos e,if_pos e]
  .rw[if_neg e,if_neg e,OW h x (jn j (x+1)) (by omega) (by omega)]
def Hy(h:okJ j):∀x,x<j.length->root j x<=x/\jn j (root j x)=root j x:=by
 intro x
 induction x using Nat.strongRecOn with
 |_ x A=>
  intro u;have E:=Kl h u;rw[BV h u];by_cases e:jn j x=x
  .rw[if_pos e];exact⟨Nat.le_refl _,e⟩
  .rw[if_neg e]
   obtain⟨J,B⟩:=A (jn j x) (by omega) (by omega)
   exact⟨by omega,B⟩
def Z5{y:Nat}(u:x<j.length):jn (j.set x v) y=if y=x then v.toNat else jn j y:=by
 unfold jn;by_cases e:y=x
 .subst e;simp[u]
 .rw[if_neg e]
  simp[List.getElem?_set_ne (Ne.symm e)]
def ZS(h:okJ j)(B:0<=v)(A:v<=x):okJ (j.set x v):=by
 intro y u;rw[length_set]at u;by_cases e:y=x
 .subst e;simp[u];omega
 .have:=h y u
  simpa [List.getElem?_set_ne (Ne.symm e)]using this
def halve(h:okJ j)(J:x<j.length)(O:jn j x≠x):okJ (j.set x (j.getD (jn j x) 0))/\∀y,y<j.length->root (j.set x (j.getD (jn j x) 0)) y=root j y:=by
 have Z:=Kl h J;obtain⟨g1,g2⟩:=h (jn j x) (by omega)
 have A:okJ (j.set x (j.getD (jn j x) 0)):=ZS h g1 (by omega)
 refine⟨A,λy=>?_⟩
 induction y using Nat.strongRecOn with
 |_ y E=>
  intro B;have U:=Kl h B;rw[BV A (by rw[length_set];exact B),BV h B,Z5 J]
  by_cases e:y=x
  .subst e
   rw[if_pos rfl];have Y:(j.getD (jn j y) 0).toNat=jn j (jn j y):=rfl;have W:=Kl h (x:=jn j y) (by omega)
   rw[Y,if_neg (by omega),if_neg O,E (jn j (jn j y)) (by omega) (by omega),BV h (x:=jn j y) (by omega)]
   by_cases u:jn j (jn j y)=jn j y
   .rw[if_pos u,u,BV h (x:=jn j y) (by omega),if_pos u]
   .rw[if_neg u]
  .rw[if_neg e]
   by_cases u:jn j y=y
   .rw[if_pos u,if_pos u]
   .rw[if_neg u,if_neg u,E (jn j y) (by omega) (by omega)]
theorem link(h:okJ j){a b:Nat}(U:a<j.length)(Z:b<=a)(Y:jn j a=a)(W:jn j b=b):okJ (j.set a (b:Int))/\∀y,y<j.length->root (j.set a (b:Int)) y=if root j y=a then b else root j y:=by
 have u:okJ (j.set a (b:Int)):=ZS h (by omega) (by omega)
 refine⟨u,λy=>?_⟩
 induction y using Nat.strongRecOn with
 |_ y J=>
  intro B;have O:=Kl h B;rw[BV u (by rw[length_set];exact B),BV h B,Z5 U]
  by_cases e:y=a
  .subst e
   rw[if_pos rfl,tNC,if_pos Y,if_pos rfl];by_cases E:b=y
   .rw[if_pos E,E]
   .rw[if_neg E,J b (by omega) (by omega),BV h (x:=b) (by omega),if_pos W,if_neg (by omega)]
  .rw[if_neg e]
   by_cases A:jn j y=y
   .rw[if_pos A,if_pos A,if_neg e]
   .rw[if_neg A,if_neg A,J (jn j y) (by omega) (by omega)]
end Go.Ve.D

