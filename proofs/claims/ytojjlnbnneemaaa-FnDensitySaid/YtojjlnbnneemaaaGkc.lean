/- The program's joiner computes the roots. -/
import Derived.Test.YtojjlnbnneemaaaGob
open List(replicate length_set range map getElem?_append)
open Option(bind_some)
set_option linter.all false
namespace Go.Ve.D
open Go Go.Ve
variable{j:List Int}{n x:Nat}
theorem p105(h:n<=1048576):G105 (n:Int)=some (IS n):=by
 delta G105 lw lt gd sc nx bk
 rw[if_pos ⟨by omega,by omega,by omega,by omega⟩]
 rw[tNC];refine Ao (v:=.brk 0 ((n:Int),IS n++replicate (n-n) 0)) (AG (st:=λi:Nat=>((i:Int),IS i++replicate (n-i) (0:Int))) (n:=n) (λi u=>?_) ?_ (λy=>by simp)) ?_
 .have A:(IS i++replicate (n-i) (0:Int)).length=n:=by simp[Cm];omega
  simp only[List.length_replicate,Af,u,decide_true,cond_true,A,Ac u,and_self,if_true,tNC];rw[Ah (by omega) (by omega),LM Cm u,NN];rfl
 .simp only[List.length_replicate,Af,Nat.lt_irrefl,decide_false,cond_false]
 .rw[Nat.sub_self,List.replicate_zero,List.append_nil];rfl
def p79(h:n<=1048576):G79 (n:Int)=some (IS n):=by
 unfold G79;rw[p105 h];rfl
def AbC(u:x<n):jn (IS n) x=x:=by
 unfold jn;rw[IW u];rfl
theorem WG:okJ (IS n):=λx u=>by
 rw[Cm]at u;rw[IW u];omega
def Ni(u:x<n):root (IS n) x=x:=by
 rw[BV WG (by rw[Cm];exact u),if_pos (AbC u)]
noncomputable def AcD:Int×List Int->Option (LO (Int×List Int) (Int×List Int)):=λv0=>if 0<=v0.1/\v0.1<v0.2.length then bif !decide ((v0.2.getD v0.1.toNat 0)=v0.1)then if 0<=v0.1/\v0.1<v0.2.length then if 0<=(v0.2.getD v0.1.toNat 0)/\(v0.2.getD v0.1.toNat 0)<(v0.2.length:Int)then if 0<=v0.1/\v0.1<v0.2.length then if 0<=v0.1/\v0.1<(v0.2.set v0.1.toNat (v0.2.getD (v0.2.getD v0.1.toNat 0).toNat 0)).length then some (LO.next ((v0.2.set v0.1.toNat (v0.2.getD (v0.2.getD v0.1.toNat 0).toNat 0)).getD v0.1.toNat 0,v0.2.set v0.1.toNat (v0.2.getD (v0.2.getD v0.1.toNat 0).toNat 0)))else none else none else none else none else some (LO.brk 0 v0)else none
def Aci(z:Int)(x:List Int):G131 z x=(A4 AcD (z,x)).bind (LO.fin λu v0=>if u=0 then some v0 else none):=rfl
def Zt(u:x<j.length)(A:0<=j.getD x 0)(e:jn j x=x):AcD ((x:Int),j)=some (.brk 0 ((x:Int),j)):=by
 have:j.getD x 0=(x:Int):=by unfold jn at e;omega
 unfold AcD;simp only[Ac u,and_self,if_true,tNC,this,decide_true,Bool.not_true,cond_false]
def XV(u:x<j.length)(J:0<=j.getD x 0/\j.getD x 0<=x)(e:jn j x≠x):AcD ((x:Int),j)=some (.next (j.getD (jn j x) 0,j.set x (j.getD (jn j x) 0))):=by
 have E:¬j.getD x 0=(x:Int):=by unfold jn at e;omega
 have B:0<=j.getD x 0/\j.getD x 0<(j.length:Int):=by omega
 unfold AcD;simp only[Ac u,and_self,if_true,tNC,E,B,decide_false,Bool.not_false,cond_true,length_set];have A:(j.set x (j.getD (j.getD x 0).toNat 0)).getD x 0=j.getD (j.getD x 0).toNat 0:=by simp[u]
 rw[A];rfl
def p131l:∀(x:Nat) (j:List Int),okJ j->x<j.length->∃A,A4 AcD ((x:Int),j)=some (.brk 0 ((root j x:Int),A))/\okJ A/\A.length=j.length/\∀y,y<j.length->root A y=root j y:=by
 intro x
 induction x using Nat.strongRecOn with
 |_ x Y=>
  intro j h u;have B:=h x u;have hl:=Kl h u;by_cases e:jn j x=x
  .refine⟨j,?_,h,rfl,λ_ _=>rfl⟩
   rw[Bi,Zt u B.1 e,BV h u,if_pos e];rfl
  .obtain⟨g1,g2⟩:=halve h u e
   obtain⟨k1,k2⟩:=h (jn j x) (by omega)
   have e2:j.getD (jn j x) 0=((jn j (jn j x):Nat):Int):=by unfold jn at k1⊢;omega
   have Z:=Kl h (x:=jn j x) (by omega)
   obtain⟨A,W,U,J,q4⟩:=Y (jn j (jn j x)) (by omega) (j.set x (j.getD (jn j x) 0)) g1 (by rw[length_set];omega)
   rw[length_set]at J q4;refine⟨A,?_,U,J,λy O=>by rw[q4 y O,g2 y O]⟩
   rw[Bi,XV u B e];simp only[bind_some];rw[show(j.getD (jn j x) 0,j.set x (j.getD (jn j x) 0))=(((jn j (jn j x):Nat):Int),j.set x (j.getD (jn j x) 0)) by rw[<-e2],W,g2 _ (by omega)]
   have e3:root j (jn j (jn j x))=root j x:=by
    rw[BV h u,if_neg e,BV h (x:=jn j x) (by omega)]
    by_cases E:jn j (jn j x)=jn j x
    .rw[if_pos E,E,BV h (x:=jn j x) (by omega),if_pos E]
    .rw[if_neg E]
   rw[e3]
def p131(h:okJ j)(E:x<j.length):∃u,G131 (x:Int) j=some ((root j x:Int),u)/\okJ u/\u.length=j.length/\∀y,y<j.length->root u y=root j y:=by
 obtain⟨u,B,A⟩:=p131l x j h E;refine⟨u,?_,A⟩;rw[Aci,B];rfl
theorem p80(h:okJ j){a b:Nat}(U:a<j.length)(O:b<j.length):∃c E,G80 ((a:Int),(b:Int)) j=some (c,E)/\okJ E/\E.length=j.length/\
  ∀y,y<j.length->root E y=if root j y=max (root j a) (root j b)then min (root j a) (root j b)else root j y:=by
 obtain⟨Y,q1,q2,q3,q4⟩:=p131 h U;obtain⟨B,r1,W,r3,r4⟩:=p131 q2 (x:=b) (by omega)
 have ra:=Hy h a U;have rb:=Hy h b O;have e2:root Y b=root j b:=q4 b O;have u:∀y,y<j.length->root B y=root j y:=λy A=>by rw[r4 y (by omega),q4 y A]
 have Z:∀y,y<j.length->root j y=y->jn B y=y:=λy A e=>by
  have:=(Hy W y (by omega)).2
  rw[u y A,e]at this;exact this
 have fr:∀y,y<j.length->root j (root j y)=root j y:=λy A=>by
  have:=Hy h y A;rw[BV h (x:=root j y) (by omega),if_pos this.2]
 have fa:=Z (root j a) (by omega) (fr a U)
 have fb:=Z (root j b) (by omega) (fr b O)
 have hm:((max (root j a) (root j b):Nat):Int)=Z1 (root j a:Int) (root j b:Int):=by unfold Z1;split<;>omega
 have J:((min (root j a) (root j b):Nat):Int)=WO (root j a:Int) (root j b:Int):=by unfold WO;split<;>omega
 have f1:jn B (max (root j a) (root j b))=max (root j a) (root j b):=by
  rcases Nat.le_total (root j a) (root j b)with e|e
  .rw[Nat.max_eq_right e];exact fb
  .rw[Nat.max_eq_left e];exact fa
 have f2:jn B (min (root j a) (root j b))=min (root j a) (root j b):=by
  rcases Nat.le_total (root j a) (root j b)with e|e
  .rw[Nat.min_eq_left e];exact fa
  .rw[Nat.min_eq_right e];exact fb
 obtain⟨l1,l2⟩:=link W (a:=max (root j a) (root j b)) (b:=min (root j a) (root j b)) (by omega) (by omega) f1 f2
 refine⟨!decide ((root j a:Int)=(root j b:Int)),_,?_,l1,by rw[length_set];omega,λy A=>by rw[l2 y (by omega),u y A]⟩
 delta G80 ln lt gd
 have n0:(0:Int)<(j.length:Int):=by omega
 have n1:(0:Int)<(Y.length:Int):=by omega
 have n2:0<=((max (root j a) (root j b):Nat):Int)/\((max (root j a) (root j b):Nat):Int)<(B.length:Int):=by omega
 simp only[n0,decide_true,cond_true,q1,bind_some,n1,r1,e2,<-hm,<-J,n2,and_self,if_true,tNC]
def Mn{X R S:Type}{f:X->Option (LO X R)}{I:Nat->X->Prop}{n:Nat}{x:X}{Q:LO X R->Prop}{k:LO X R->Option S}{Post:Option S->Prop}(O:I 0 x)
  (J:∀i,i<n->∀x,I i x->(∃y,f x=some (.next y)/\I (i+1) y)\/∃o,f x=some o/\(∀y,o≠.next y)/\Q o)
  (E:∀x,I n x->∃o,f x=some o/\(∀y,o≠.next y)/\Q o) (B:∀o,Q o->Post (k o)):Post (Option.bind (A4 f x) k):=by
 obtain⟨o,A,u⟩:=Jb O J E;rw[A];exact B o u
def X4(j:List Int):List Int:=(range j.length).map λi=>(root j i:Int)
theorem p83(h:okJ j)(hp:0<j.length)(hb:j.length<=1048576):∃A,G83 () j=some ((cs (X4 j)).1,A):=by
 delta G83 ln lw lt gd sc nx bk
 rw[if_pos ⟨by omega,by omega,by omega,by omega⟩]
 rw[tNC];refine Mn (Post:=λo=>∃A,o=some ((cs (X4 j)).1,A)) (Q:=λo=>∃A,o=LO.brk 0 ((j.length:Int),A,X4 j)) (I:=λi (v:Int×List Int×List Int)=>v.1=(i:Int)/\okJ v.2.1/\v.2.1.length=j.length/\(∀y,y<j.length->root v.2.1 y=root j y)/\v.2.2=(range i).map (λi=>(root j i:Int))++replicate (j.length-i) 0) (n:=j.length) ⟨rfl,h,rfl,λ_ _=>rfl,by simp⟩ (λi O v U=>?_) (λv U=>?_) λo ho=>?_
 rotate_left 2
 .obtain⟨A,rfl⟩:=ho
  refine⟨A,?_⟩;show(G91 (X4 j)).bind _=_;rw[p91 (by simp[X4];omega)];rfl
 .obtain⟨Z,u,Y⟩:=v
  obtain⟨rfl,E,B,W,rfl⟩:=U;have B:u.length=j.length:=B;have J:((range i).map (λi=>(root j i:Int))++replicate (j.length-i) (0:Int)).length=j.length:=by simp;omega
  obtain⟨j2,q1,q2,q3,q4⟩:=p131 E (x:=i) (by rw[B];exact O)
  have n0:(0:Int)<(u.length:Int):=by omega
  refine .inl ⟨(((i+1:Nat):Int),j2,((range i).map (λi=>(root j i:Int))++[(root u i:Int)])++replicate (j.length-(i+1)) 0),?_,?_⟩
  .simp only[Af,O,decide_true,cond_true,n0,q1,bind_some,J,Ac O,and_self,if_true,tNC]
   rw[Ah (by omega) (by omega),LM (by simp) O]
   rfl
  .refine⟨rfl,q2,q3.trans B,λy hy=>by rw[q4 y (by omega),W y hy],?_⟩
   show(map _ (range i)++[(root u i:Int)])++_=(range (i+1)).map _++_;rw[List.range_succ,List.map_append,show root u i=root j i from W i O];rfl
 .obtain⟨Z,u,Y⟩:=v
  obtain⟨rfl,E,B,W,rfl⟩:=U;have B:u.length=j.length:=B;refine⟨_,?_,?_,u,rfl⟩
  .simp only[Af,Nat.lt_irrefl,decide_false,cond_false]
   rw[Nat.sub_self,List.replicate_zero,List.append_nil];rfl
  .simp
end Go.Ve.D


namespace Go.Ve.D
open Go Go.Ve
variable{f:Int->Int}{ps:List (Nat×Nat)}{l:List Int}{i:Nat}{p:Nat×Nat}
abbrev Spn:=Int×Int×Int
def hitR(c:Cat)(w:List Int)(s t:Spn)(a b:Int):Bool:=(decide (T c a.toNat s.2.1.toNat=T c b.toNat t.2.1.toNat)&&w.contains (T c a.toNat s.2.1.toNat))&&decide (T c a.toNat s.2.2.toNat=T c b.toNat t.2.2.toNat)
def relS(c:Cat)(w:List Int)(s t:Spn)(z:Nat):Bool:=(JM c (z:Int) s.1).any λa=>(JM c (z:Int) t.1).any λb=>hitR c w s t a b
def rel(c:Cat)(w:List Int)(s t:Spn):Bool:=(range c.1.toNat).any (relS c w s t)
def k03:((0:Int)<=(0:Int)/\(0:Int)<((3:Nat):Int))=True:=by simp
def k13:((0:Int)<=(1:Int)/\(1:Int)<((3:Nat):Int))=True:=by simp
def k23:((0:Int)<=(2:Int)/\(2:Int)<((3:Nat):Int))=True:=by simp
def mgS(l:List Int)(p:Nat×Nat):List Int:=l.map λz=>if z=l.getD p.2 0 then l.getD p.1 0 else z
def IN(p:Nat×Nat):List Int:=[(p.1:Int),(p.2:Int)]
def LS:(IN p).length=2:=rfl
def Wa:(IN p).getD (0:Int).toNat 0=(p.1:Int):=rfl
def V9:(IN p).getD (1:Int).toNat 0=(p.2:Int):=rfl
def k02:((0:Int)<=(0:Int)/\(0:Int)<((2:Nat):Int))=True:=by simp
def k12:((0:Int)<=(1:Int)/\(1:Int)<((2:Nat):Int))=True:=by simp
def ZZ:(mgS l p).length=l.length:=by simp[mgS]
def mgL(ps:List (Nat×Nat))(n:Nat):List Int:=ps.foldl mgS (IS n)
def Ma{n:Nat}:∀(ps:List (Nat×Nat)) (l:List Int),(ps.foldl mgS l).length=l.length
 |[],_=>rfl
 |p::ps,l=>by rw[List.foldl_cons,Ma (n:=n) ps,ZZ]
def Bz(u:i<ps.length):(ps.map IN).getD i []=IN (ps.getD i (0,0)):=by simp[u]
theorem YL(u:i<l.length):((l.take i).map f++l.drop i).set i (f (l.getD i 0))=(l.take (i+1)).map f++l.drop (i+1):=by
 apply List.ext_getElem?;intro j;rcases Nat.lt_trichotomy j i with h|h|h
 .rw[List.getElem?_set_ne (by omega)]
  simp[getElem?_append,h,show j<i+1 by omega,show j<l.length by omega,u,show i<=l.length by omega,show i+1<=l.length by omega]
 .subst h
  rw[List.getElem?_set_self (by simp;omega)]
  simp[getElem?_append,u,show j<=l.length by omega,show j+1<=l.length by omega]
 .rw[List.getElem?_set_ne (by omega)]
  simp[getElem?_append,List.getElem?_drop,show ¬j<i by omega,show ¬j<i+1 by omega,show i<=l.length by omega,show i+1<=l.length by omega,show i+(j-i)=j by omega,show i+1+(j-(i+1))=j by omega]
def Qh(u:i<l.length):((l.take i).map f++l.drop i).getD i 0=l.getD i 0:=by
 simp[getElem?_append,show i<=l.length by omega]
theorem u88{n:Nat}(hn:n<=1048576)(hp:ps.length<=1048576)(Y:∀p∈ps,p.1<n/\p.2<n):G88 ((n:Int),ps.map IN)=some (cs (mgL ps n)).1:=by
 delta G88 mA lw an l2 lt gd li l0 sc nx bk cp
 refine Ao (v:=.brk 0 ((n:Int),IS n)) (AG (st:=λi:Nat=>((i:Int),IS i)) (n:=n) (λi A=>?_) ?_ (λy=>by simp)) ?_
 .simp only[Af,A,decide_true,cond_true,Cm,List.length_cons,List.length_nil]
  rw[if_pos (by omega),Ah (by omega) (by omega),NN];rfl
 .simp only[Af,Nat.lt_irrefl,decide_false,cond_false]
 show Option.bind _ _=_;refine Ao (v:=.brk 2 ((ps.length:Int),(ps.take ps.length).foldl mgS (IS n))) (AG (st:=λi:Nat=>((i:Int),(ps.take i).foldl mgS (IS n))) (n:=ps.length) (λi A=>?_) ?_ (λy=>by simp)) ?_
 rotate_left
 .simp only[List.length_map,Af,Nat.lt_irrefl,decide_false,cond_false]
 .rw[List.take_length]
  show(G135 (mgL ps n)).bind _=_;rw[u135 (by unfold mgL;rw[Ma (n:=n),Cm];exact hn)];rfl
 have u:((ps.take i).foldl mgS (IS n)).length=n:=by rw[Ma (n:=n),Cm]
 rw[<-CI (0,0) A,List.foldl_append];generalize (ps.take i).foldl mgS (IS n)=l at u;have U:=Y (ps.getD i (0,0)) (by rw[gDE,gEE A];exact List.getElem_mem A)
 have e:=Bz A;generalize ps.getD i (0,0)=p at U e;obtain⟨p1,p2⟩:=U;subst u;simp only[List.length_map,Af,A,decide_true,cond_true,Ac A,and_self,if_true,tNC,e,LS,Wa,V9,k02,k12,Ac p1,Ac p2];show Option.bind _ _=some (LO.next (((i+1:Nat):Int),mgS l p))
 by_cases J:l.getD p.1 0=l.getD p.2 0
 .have em:mgS l p=l:=by
   unfold mgS;rw[J]
   have:(λz=>if z=l.getD p.2 0 then l.getD p.2 0 else z)=id:=by
    funext z;split
    .rename_i h;exact h.symm
    .rfl
   rw[this,List.map_id]
  refine Ao (v:=.brk 4 ((0:Int),l)) ?_ ?_
  .rw[Bi]
   simp only[J,decide_true,Bool.not_true];cases decide ((0:Int)<((l.length:Nat):Int))<;>rfl
  .rw[em]
   show(if 4=4 then _ else none)=_
   rw[if_pos rfl,Ah (by omega) (by omega)];rfl
 .refine Ao (v:=.brk 4 ((l.length:Int),mgS l p)) ?_ ?_
  .have es:(λi:Nat=>((i:Int),(l.take i).map (λz=>if z=l.getD p.2 0 then l.getD p.1 0 else z)++l.drop i)) 0=((0:Int),l):=by simp
   have en:mgS l p=(l.take l.length).map (λz=>if z=l.getD p.2 0 then l.getD p.1 0 else z)++l.drop l.length:=by simp[mgS]
   rw[en];rw[<-es];refine AG (st:=λi:Nat=>((i:Int),(l.take i).map (λz=>if z=l.getD p.2 0 then l.getD p.1 0 else z)++l.drop i)) (n:=l.length) (λk E=>?_) ?_ (λy=>by simp)
   .have B:((l.take k).map (λz=>if z=l.getD p.2 0 then l.getD p.1 0 else z)++l.drop k).length=l.length:=by simp;omega
    have ps:=YL (f:=λz=>if z=l.getD p.2 0 then l.getD p.1 0 else z) E
    simp only[B,Af,E,decide_true,cond_true,J,decide_false,Bool.not_false,bind_some,Ac E,and_self,if_true,tNC,Qh E];rw[Ah (by omega) (by omega)]
    by_cases W:l.getD k 0=l.getD p.2 0
    .simp only[W,if_true]at ps
     simp only[W,decide_true,cond_true];rw[ps];rfl
    .simp only[W,if_false]at ps
     simp only[W,decide_false,cond_false]
     have O:((l.take k).map (λz=>if z=l.getD p.2 0 then l.getD p.1 0 else z)++l.drop k).set k (l.getD k 0)=(l.take k).map (λz=>if z=l.getD p.2 0 then l.getD p.1 0 else z)++l.drop k:=by
      apply List.ext_getElem?;intro j;by_cases Z:j=k
      .subst Z
       rw[List.getElem?_set_self (by rw[B];exact E)]
       have:=Qh (f:=λz=>if z=l.getD p.2 0 then l.getD p.1 0 else z) E
       rw[<-this,gDE,gEE (by rw[B];exact E)];rfl
      .rw[List.getElem?_set_ne (Ne.symm Z)]
     rw[<-ps,O];rfl
   .have hl:((l.take l.length).map (λz=>if z=l.getD p.2 0 then l.getD p.1 0 else z)++l.drop l.length).length=l.length:=by simp
    simp only[hl,Af,Nat.lt_irrefl,decide_false,cond_false,bind_some]
  .show(if 4=4 then _ else none)=_
   rw[if_pos rfl,Ah (by omega) (by omega)];rfl
end Go.Ve.D


namespace Go.Ve.D
open Go Go.Ve
variable{M:List (Spn×Int)}{j l:List Int}{n:Nat}{R:Nat->Nat->Prop}{done rf:Nat->Spn->Prop}
inductive Gen(R:Nat->Nat->Prop):Nat->Nat->Prop where
 |rel {x y:Nat}:R x y->Gen R x y
 |refl (x:Nat):Gen R x x
 |symm {x y:Nat}:Gen R x y->Gen R y x
 |trans {x y z:Nat}:Gen R x y->Gen R y z->Gen R x z
def KX{p:Nat×Nat}{x:Nat}(u:x<l.length):(mgS l p).getD x 0=if l.getD x 0=l.getD p.2 0 then l.getD p.1 0 else l.getD x 0:=by
 simp[mgS,u]
def Z0{R:Nat->Nat->Prop}{n:Nat}:∀(ps:List (Nat×Nat)) (l:List Int),l.length=n->(∀p∈ps,p.1<n/\p.2<n/\R p.1 p.2)->(∀x y,x<n->y<n->l.getD x 0=l.getD y 0->Gen R x y)->
  (∀x y,x<n->y<n->(ps.foldl mgS l).getD x 0=(ps.foldl mgS l).getD y 0->Gen R x y)/\(∀x y,x<n->y<n->l.getD x 0=l.getD y 0->(ps.foldl mgS l).getD x 0=(ps.foldl mgS l).getD y 0)/\∀p∈ps,(ps.foldl mgS l).getD p.1 0=(ps.foldl mgS l).getD p.2 0
 |[],l,_,_,h=>⟨h,λ_ _ _ _ h=>h,λp J=>by cases J⟩
 |p::ps,l,hl,J,h=>by
  obtain⟨p1,p2,pr⟩:=J p (List.mem_cons_self ..)
  have mono:∀x y,x<n->y<n->l.getD x 0=l.getD y 0->(mgS l p).getD x 0=(mgS l p).getD y 0:=λx y E B e=>by
   rw[KX (by omega),KX (by omega),e]
  have join:(mgS l p).getD p.1 0=(mgS l p).getD p.2 0:=by
   rw[KX (by omega),KX (by omega),if_pos rfl]
   split<;>rfl
  have back:∀x y,x<n->y<n->(mgS l p).getD x 0=(mgS l p).getD y 0->Gen R x y:=λx y E B e=>by
   rw[KX (by omega),KX (by omega)]at e
   have g:Gen R p.1 p.2:=.rel pr;by_cases A:l.getD x 0=l.getD p.2 0
   .by_cases u:l.getD y 0=l.getD p.2 0
    .exact h x y E B (by rw[A,u])
    .rw[if_pos A,if_neg u]at e
     exact(h x p.2 E p2 A).trans (g.symm.trans (h p.1 y p1 B e))
   .by_cases u:l.getD y 0=l.getD p.2 0
    .rw[if_neg A,if_pos u]at e
     exact(h x p.1 E p1 e).trans (g.trans (h p.2 y p2 B u.symm))
    .rw[if_neg A,if_neg u]at e
     exact h x y E B e
  obtain⟨Z,W,Y⟩:=Z0 ps (mgS l p) (by rw[ZZ,hl]) (λp U=>J p (mCM _ U)) back
  refine⟨Z,λx y E B e=>W x y E B (mono x y E B e),λq O=>?_⟩
  rcases List.mem_cons.1 O with rfl|O
  .exact W _ _ p1 p2 join
  .exact Y q O
abbrev KT:Ty:=.pair (.int .i64) (.pair (.int .i64) (.int .i64))
def eqK{a b:Spn}:eqT KT a b=true↔a=b:=by
 obtain⟨a1,a2,a3⟩:=a;obtain⟨B,A,u⟩:=b;show((decide (a1=B)&&(decide (a2=A)&&decide (a3=u)))=true)↔_;simp
def HS{r:Spn}{v:Int}:∀{M:List (Spn×Int)},BA KT (.int .i64) r M=none->∀q,BA KT (.int .i64) q (MT KT (.int .i64) r v M)=if q=r then some v else BA KT (.int .i64) q M
 |[],_,q=>by
  show(bif eqT KT q r then some v else none)=if q=r then some v else none
  cases h:eqT KT q r with
  |true=>rw[if_pos (eqK.1 h)];rfl
  |false=>rw[if_neg λe=>by rw[eqK.2 e]at h;cases h];rfl
 |e::M,h,q=>by
  have h:(bif eqT KT r e.1 then some e.2 else BA KT (.int .i64) r M)=none:=h;cases u:eqT KT r e.1 with
  |true=>rw[u]at h;cases h
  |false=>
   rw[u]at h;have h:BA KT (.int .i64) r M=none:=h;have B:=HS (v:=v) h q;show BA KT (.int .i64) q (bif eqT KT r e.1 then(r,v)::M else e::MT KT (.int .i64) r v M)=if q=r then some v else(bif eqT KT q e.1 then some e.2 else BA KT (.int .i64) q M)
   rw[u];show(bif eqT KT q e.1 then some e.2 else BA KT (.int .i64) q (MT KT (.int .i64) r v M))=_;rw[B];by_cases A:q=r
   .subst A
    rw[if_pos rfl,u,if_pos rfl];rfl
   .rw[if_neg A,if_neg A]
structure AcC(n:Nat)(rf:Nat->Spn->Prop)(R:Nat->Nat->Prop)(j:List Int)(M:List (Spn×Int))(done:Nat->Spn->Prop):Prop where
 ok:okJ j
 len:j.length=n
 key:∀r v,BA KT (.int .i64) r M=some v->∃k:Nat,v=(k:Int)/\k<n/\rf k r
 hit:∀i r,done i r->∃k:Nat,BA KT (.int .i64) r M=some (k:Int)/\k<n/\root j k=root j i
 gen:∀x y,x<n->y<n->root j x=root j y->Gen R x y
theorem AcC.old(h:AcC n rf R j M done)(hR:∀a b r,a<n->b<n->rf a r->rf b r->R a b)(hdn:∀i r,done i r->i<n)
  {i:Nat}{r:Spn} (W:i<n) (hr:rf i r) (hm:YR KT (.int .i64) r M=true):
  ∃k:Nat,Ov KT (.int .i64) r M=(k:Int)/\∃c A,G80 ((k:Int),(i:Int)) j=some (c,A)/\AcC n rf R A M (λa q=>done a q\/(a=i/\q=r)):=by
 obtain⟨v,Y⟩:∃v,BA KT (.int .i64) r M=some v:=Option.isSome_iff_exists.1 hm;obtain⟨k,rfl,O,Z⟩:=h.key r v Y;obtain⟨c,A,q1,q2,q3,q4⟩:=p80 h.ok (a:=k) (b:=i) (by rw[h.len];exact O) (by rw[h.len];exact W)
 have u:∀y,y<n->root A y=if root j y=max (root j k) (root j i)then min (root j k) (root j i)else root j y:=λy B=>q4 y (by rw[h.len];exact B)
 have mono:∀x y,x<n->y<n->root j x=root j y->root A x=root A y:=λx y E B e=>by rw[u x E,u y B,e]
 have join:root A k=root A i:=by
  rw[u k O,u i W];split<;>split<;>omega
 refine⟨k,by unfold Ov;rw[Y];rfl,c,A,q1,q2,by rw[q3,h.len],h.key,?_,?_⟩
 .rintro a q (hd|⟨rfl,rfl⟩)
  .obtain⟨k2,g1,g2,g3⟩:=h.hit a q hd
   exact⟨k2,g1,g2,mono _ _ g2 (hdn a q hd) g3⟩
  .exact⟨k,Y,O,join⟩
 .intro x y E B e
  rw[u x E,u y B]at e;have gk:Gen R k i:=.rel (hR k i r O W Z hr)
  have g:∀z,z<n->root j z=max (root j k) (root j i)\/root j z=min (root j k) (root j i)->Gen R z k:=λz hz hc=>by
   have:root j z=root j k\/root j z=root j i:=by omega
   rcases this with e|e
   .exact h.gen z k hz O e
   .exact(h.gen z i hz W e).trans gk.symm
  by_cases U:root j x=max (root j k) (root j i)
  .by_cases J:root j y=max (root j k) (root j i)
   .exact h.gen x y E B (by rw[U,J])
   .rw[if_pos U,if_neg J]at e
    exact(g x E (.inl U)).trans (g y B (.inr e.symm)).symm
  .by_cases J:root j y=max (root j k) (root j i)
   .rw[if_neg U,if_pos J]at e
    exact(g x E (.inr e)).trans (g y B (.inl J)).symm
   .rw[if_neg U,if_neg J]at e
    exact h.gen x y E B e
def AcC.new(h:AcC n rf R j M done)
  {i:Nat}{r:Spn} (E:i<n) (J:rf i r) (B:YR KT (.int .i64) r M=false):AcC n rf R j (MT KT (.int .i64) r (i:Int) M) (λa q=>done a q\/(a=i/\q=r)):=by
 have u:BA KT (.int .i64) r M=none:=by
  unfold YR at B;cases O:BA KT (.int .i64) r M with
  |none=>rfl
  |some v=>rw[O]at B;cases B
 refine⟨h.ok,h.len,λq v A=>?_,?_,h.gen⟩
 .rw[HS u]at A
  split at A
  .rename_i e;cases A;subst e;exact⟨i,rfl,E,J⟩
  .exact h.key q v A
 .rintro a q (hd|⟨rfl,rfl⟩)
  .obtain⟨k2,g1,g2,U⟩:=h.hit a q hd
   refine⟨k2,?_,g2,U⟩;rw[HS u,if_neg λe=>by rw[e,u]at g1;cases g1]
   exact g1
  .exact⟨a,by rw[HS u,if_pos rfl],E,rfl⟩
theorem Yx{m:List Int}(O:l.length=n)(J:m.length=n)(W:∀x y,x<n->y<n->l.getD x 0=l.getD y 0->Gen R x y)(U:∀x y,x<n->y<n->m.getD x 0=m.getD y 0->Gen R x y)
  (Z:∀x y,R x y->x<n/\y<n) (g1:∀x y,R x y->l.getD x 0=l.getD y 0) (g2:∀x y,R x y->m.getD x 0=m.getD y 0):(cs l).1=(cs m).1:=by
 have key:∀(k:List Int),(∀x y,R x y->k.getD x 0=k.getD y 0)->∀x y,Gen R x y->k.getD x 0=k.getD y 0:=by
  intro k B x y h
  induction h with
  |rel h=>exact B _ _ h
  |refl x=>rfl
  |symm _ E=>exact E.symm
  |trans _ _ A u=>exact A.trans u
 refine Aam (by rw[O,J]) λi k Y B=>⟨λe=>key m g2 _ _ (W i k (by omega) (by omega) e),λe=>key l g1 _ _ (U i k (by omega) (by omega) e)⟩
end Go.Ve.D

