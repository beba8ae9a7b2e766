/- The search, step by step. -/
import Derived.Test.YteakdlfnmhlifaaAdf
open Nat(le_refl)
open List(mem_append mem_singleton mem_map mem_range length_map)
set_option linter.all false
namespace Go.Ve.D
open Go Go.Ve
variable{L:LLL}{k:Nat}{S:Nat->Nat->Bool}{q:Nat×Nat}{f:SF}
def mem(p:List (List Int))(x e:Nat):Bool:=(p.getD x []).contains (e:Int)
def UD{T:Nat->Nat->Bool}(h:∀x,x<f.2.2.2.2.2.1.length->∀e,e<nx f x->S x e=T x e):pL f S=pL f T:=by
 rw[<-Vf,<-Vf,BN h]
def Fm(f:SF)(p:List (List Int)):Prop:=p=pL f (mem p)
theorem Zm:Fm f (pL f S):=UD λx u e A=>(OR u A).symm
def jn(f:SF)(p:List (List Int))(q:Nat×Nat):List (List Int):=pL f (λy d=>mem p y d||gen f q.1 q.2 y d)
def stp(f:SF)(k:Nat)(L:LLL)(q:Nat×Nat):LLL:=if jn f (L.getD k []) q∈L then L else L++[jn f (L.getD k []) q]
def row(f:SF)(k:Nat)(L:LLL)(j:Nat):LLL:=((prs f).take j).foldl (stp f k) L
def MN{j:Nat}(hj:j<(prs f).length):row f k L (j+1)=stp f k (row f k L j) ((prs f).getD j (0,0)):=by
 unfold row;rw[List.take_add_one,List.foldl_append,gEE hj,gDE,gEE hj];rfl
def Xq:L.length<=(stp f k L q).length:=by
 unfold stp;split
 .exact le_refl _
 .simp
theorem P6{i:Nat}:∀j,i<=j->j<=(prs f).length->(row f k L i).length<=(row f k L j).length:=by
 intro j
 induction j with
 |zero=>intro h _;rw[Nat.le_zero.1 h];exact le_refl _
 |succ j u=>
  intro h hj;by_cases e:i=j+1
  .rw[e];exact le_refl _
  .refine Nat.le_trans (u (by omega) (by omega)) ?_
   rw[MN (by omega)]
   exact Xq
def All(f:SF)(L:LLL):Prop:=∀p∈L,Fm f p
theorem All.stp{f:SF}{k:Nat}{L:LLL}{q:Nat×Nat}(h:All f L):All f (stp f k L q):=by
 unfold Go.Ve.D.stp;split
 .exact h
 .intro p u
  rcases mem_append.1 u with h1|h1
  .exact h p h1
  .rw[mem_singleton.1 h1];exact Zm
def All.row{f:SF}{k:Nat}{L:LLL}(h:All f L):∀j,j<=(prs f).length->All f (row f k L j):=by
 intro j
 induction j with
 |zero=>intro _;exact h
 |succ j u=>
  intro hj;rw[MN (by omega)]
  exact(u (by omega)).stp
def run(f:SF):Nat->Nat->LLL->LLL
 |0,_,L=>L
 |n+1,k,L=>if k<L.length/\L.length<=200 then run f n (k+1) (row f k L (prs f).length)else L
def By(f:SF):LLL:=run f 201 0 [pL f (λ_ _=>false)]
theorem Fm.okI{f:SF}(E:FS f)(B:f.2.2.2.2.2.1.length<=1048576){p:List (List Int)}(h:Fm f p):Qp p:=by
 have u:=VY E B (S:=mem p);rw[<-h]at u;refine⟨by have:=u.1;omega,λy A=>?_⟩
 have:=u.2 y A;unfold Go.Ve.D.okI;omega
theorem prs_in(h:q∈prs f):q.1<f.2.2.2.2.2.1.length/\q.2<nx f q.1:=by
 unfold prs prR at h;rcases mem_append.1 h with h|h
 .obtain⟨x,A,h⟩:=List.mem_flatMap.1 h
  obtain⟨e,u,rfl⟩:=mem_map.1 h;exact⟨mem_range.1 A,mem_range.1 u⟩
 .obtain⟨e,u,_⟩:=mem_map.1 h
  exact absurd (mem_range.1 u) (Nat.not_lt_zero _)
end Go.Ve.D


namespace Go.Ve.D
open Go Go.Ve
variable{L:LLL}{f:SF}
def DK{X R:Type}{f:X->Option (LO X R)}{x:X}{g:Nat->X->Option R}{Q:R->Prop}{I:X->Prop}(u:X->Nat)(O:I x)(F:∀x,I x->Tot (LoT (λy=>I y/\u y<u x) g Q) (f x)):Tot Q (Option.bind (Ap f x) (LO.fin g)):=by
 have key:∀m x,u x<=m->I x->Tot Q (Option.bind (Ap f x) (LO.fin g)):=by
  intro m
  induction m with
  |zero=>
   intro x J B;obtain⟨o,E,A⟩:=F x B;rw[Bn,E];cases o with
   |next y=>have:=A.2;omega
   |brk id y=>exact A
   |ret r=>exact⟨_,rfl,A⟩
  |succ m H=>
   intro x J B;obtain⟨o,E,A⟩:=F x B;rw[Bn,E];cases o with
   |next y=>exact H y (by have:=A.2;omega) A.1
   |brk id y=>exact A
   |ret r=>exact⟨_,rfl,A⟩
 exact key _ x (le_refl _) O
def Uh(h:¬L.length<=200):∀n k,run f n k L=L
 |0,_=>rfl
 |n+1,k=>by
  show(if k<L.length/\L.length<=200 then _ else L)=L
  rw[if_neg (λu=>h u.2)]
def XC{k:Nat}(h:¬k<L.length):∀n,run f n k L=L
 |0=>rfl
 |n+1=>by
  show(if k<L.length/\L.length<=200 then _ else L)=L
  rw[if_neg (λu=>h u.1)]
theorem p39s(A:FS f)(H:f.2.2.2.2.2.1.length<=1048576)(hm:f.2.1.length<=1048576):Tot (λr=>r=if(By f).length<=200 then(Ci AV (By f),true)else([],false)) (G39 (f,(200:Int))):=by
 unfold G39;refine AT (p72 A H) λv0 h0=>Ah trivial ?_
 subst h0;have W:=Qj A f.2.2.2.2.2.1.length 0 (le_refl _) (by omega)
 have W:(prs f).length<=f.2.2.2.2.2.1.length*16+0:=W;refine DK (I:=λv=>∃k:Nat,v.1=(k:Int)/\k<=200/\v.2.length<=200/\0<v.2.length/\All f v.2/\run f (201-k) k v.2=By f) (λv=>201-v.1.toNat) ⟨0,rfl,by omega,by show 1<=200;omega,by show 0<1;omega,λp F=>by rw[mem_singleton.1 F];exact Zm,rfl⟩ (λv O=>?_)
 obtain⟨k0,L⟩:=v;obtain⟨k,(e1:k0=_),hk,(hL:L.length<=200),(F:0<L.length),(hA:All f L),(hr:run f (201-k) k L=By f)⟩:=O;subst e1;refine AX (λe=>?_) λe=>?_
 .have e:(k:Int)<((L.length:Nat):Int):=Jp e
  have Y:k<L.length:=by omega
  have E:run f (200-k) (k+1) (row f k L (prs f).length)=By f:=by
   rw[<-hr,show 201-k=(200-k)+1 by omega]
   show _=(if k<L.length/\L.length<=200 then _ else L)
   rw[if_pos ⟨Y,hL⟩]
  refine AT (p73 A H) λv2 h2=>?_
  subst h2;refine AE (n:=(prs f).length) (λj v=>v.1=(j:Int)/\v.2=row f k L j/\v.2.length<=200) ⟨rfl,rfl,hL⟩ (λj hj v O=>?_) λv O=>?_
  .obtain⟨j0,M⟩:=v
   obtain⟨(e1:j0=_),(e2:M=row f k L j),(hM:M.length<=200)⟩:=O;subst e1;have hAM:All f M:=by rw[e2];exact hA.row j (by omega)
   have hkM:k<M.length:=by
    have:=P6 (f:=f) (k:=k) (L:=L) (i:=0) j (Nat.zero_le _) (by omega)
    rw[e2];exact Nat.lt_of_lt_of_le Y this
   obtain⟨q,hq⟩:∃q,q=(prs f).getD j (0,0):=⟨_,rfl⟩;have hqm:q∈prs f:=by
    rw[hq,gDE,gEE hj];exact List.getElem_mem _
   obtain⟨q1,q2⟩:=prs_in hqm
   have eP:((prs f).map pr2).getD ((j:Int)).toNat []=[(q.1:Int),(q.2:Int)]:=by
    rw[tNC,gDE,List.getElem?_map,gEE hj,hq,gDE,gEE hj];rfl
   have hsz:(q.2:Int)<sz f (q.1:Int):=by
    have:nx f q.1=(sz f (q.1:Int)).toNat:=rfl;omega
   obtain⟨P0,u⟩:∃P0,P0=M.getD k []:=⟨_,rfl⟩;have hF:P0=pL f (mem P0):=hAM P0 (by rw[u];exact Jn hkM)
   have Z:Tot (λr=>r=jn f P0 q) (G74 (f,(P0,pL f (gen f q.1 q.2)))):=by
    have:=p74 A H (S:=mem P0) (T:=gen f q.1 q.2);rw[<-hF]at this;exact this
   have hs:row f k L (j+1)=stp f k M q:=by rw[MN hj,<-e2,<-hq]
   refine BC (by show decide ((j:Int)<((((prs f).map pr2).length:Nat):Int))=true;rw[length_map];exact ltt hj) (Ah (by show(0:Int)<=(j:Int)/\(j:Int)<((((prs f).map pr2).length:Nat):Int);rw[length_map];omega) (Ah (by show(0:Int)<=(k:Int)/\(k:Int)<((M.length:Nat):Int);omega) (AT (P:=λr=>r=pL f (gen f q.1 q.2)) (by show Tot _ (G75 (f,[((prs f).map pr2).getD ((j:Int)).toNat []]));rw[eP];exact p75 A H hm hsz) λv4 h4=>?_)))
   subst h4;refine AT (P:=λr=>r=jn f P0 q) (by show Tot _ (G74 (f,(M.getD ((k:Int)).toNat [],pL f (gen f q.1 q.2))));rw[tNC,<-u];exact Z) λv5 h5=>?_
   subst h5;have hJ:Fm f (jn f P0 q):=Zm;refine AT (p10076 (L:=M) (q:=jn f P0 q) (by omega) (λp F=>(hAM p F).okI A H) (hJ.okI A H)) λb hb=>AX (λe=>?_) λe=>?_
   .refine Aa ⟨wr1 hj (by omega),?_,hM⟩
    rw[hs];unfold stp;rw[<-u,if_pos (hb.1 e)]
   .have hn:¬jn f P0 q∈M:=λh=>by rw[hb.2 h]at e;cases e
    have U:stp f k M q=M++[jn f P0 q]:=by
     unfold stp;rw[<-u,if_neg hn]
    refine AX (λJ=>DL (DL (Aa ?_))) λJ=>Ah trivial (Ah (by show M.length+1<=_;omega) (Aa ⟨wr1 hj (by omega),by rw[hs,U],?_⟩))
    .have e3:((M.length:Nat):Int)=200:=Jp J
     have h1:(row f k L (j+1)).length=201:=by rw[hs,U,List.length_append];show M.length+1=201;omega
     have h2:=P6 (f:=f) (k:=k) (L:=L) (i:=j+1) (prs f).length (by omega) (le_refl _)
     have h3:¬ (row f k L (prs f).length).length<=200:=by omega
     rw[Uh h3]at E;rw[<-E,if_neg h3]
    .have e3:¬ ((M.length:Nat):Int)=200:=KG J
     show(M++[jn f P0 q]).length<=200;rw[List.length_append];show M.length+1<=200;omega
  .obtain⟨j0,M⟩:=v
   obtain⟨(e1:j0=_),(e2:M=_),(hM:M.length<=200)⟩:=O;subst e1 e2;have h2:=P6 (f:=f) (k:=k) (L:=L) (i:=0) (prs f).length (Nat.zero_le _) (le_refl _);have h2:L.length<=(row f k L (prs f).length).length:=h2;refine Bt (by show decide (((prs f).length:Int)<((((prs f).map pr2).length:Nat):Int))=false;rw[length_map];exact ltf) (Aa (Ah rfl (Aa ⟨⟨k+1,wr1 (n:=201) (by omega) (by omega),by omega,hM,by show 0<(row f k L (prs f).length).length;omega,hA.row _ (le_refl _),by rw[show 201-(k+1)=200-k by omega];exact E⟩,?_⟩)))
   show 201-(IntKind.wrap .i64 ((k:Int)+1)).toNat<201-((k:Int)).toNat;rw[wr1 (n:=201) (by omega) (by omega),tNC,tNC];omega
 .have e:¬ (k:Int)<((L.length:Nat):Int):=KG e
  rw[XC (by omega)]at hr
  subst hr
  have B:G79 () (By f)=some ((),Ci AV (By f)):=by
   unfold G79 Xt;rw[if_pos ⟨F,by omega,λp F=>(hA p F).okI A H⟩]
  refine Aa (Ah rfl (Bu (v:=((),Ci AV (By f))) ?_ (Aa ?_)))
  .show(bif decide ((0:Int)<(((By f).length:Nat):Int))then G79 () (By f)else none)=_
   rw[dT (by omega),cond_true,B]
  .rw[if_pos hL]
end Go.Ve.D


namespace Go.Ve.D
open Go Go.Ve
variable{p:List (List Int)}{q:Nat×Nat}{f:SF}
def GT(f:SF):Prop:=∀x e y d z c,x<f.2.2.2.2.2.1.length->e<nx f x->y<f.2.2.2.2.2.1.length->d<nx f y->z<f.2.2.2.2.2.1.length->c<nx f z->gen f x e y d=true->gen f y d z c=true->gen f x e z c=true
def Cl(f:SF)(p:List (List Int)):Prop:=∀x e y d,x<f.2.2.2.2.2.1.length->e<nx f x->y<f.2.2.2.2.2.1.length->d<nx f y->mem p x e=true->gen f x e y d=true->mem p y d=true
theorem Ac6(A:Fm f p)(F:Cl f p)(J:q.1<f.2.2.2.2.2.1.length)(H:q.2<nx f q.1)(B:mem p q.1 q.2=true):jn f p q=p:=by
 refine Eq.trans (UD λy u d hd=>?_) A.symm
 show(mem p y d||gen f q.1 q.2 y d)=mem p y d;cases E:gen f q.1 q.2 y d with
 |false=>simp
 |true=>rw[F q.1 q.2 y d J H u hd B E];rfl
def Ym{S:Nat->Nat->Bool}{x e:Nat}(u:x<f.2.2.2.2.2.1.length)(A:e<nx f x):mem (pL f S) x e=S x e:=OR u A
theorem AdH:Cl f (pL f (λ_ _=>false)):=λx e y d A B _ _ u _=>by
 rw[Ym A B]at u;cases u
theorem Cl_jn(H:GT f)(J:Cl f p)(U:q.1<f.2.2.2.2.2.1.length)(O:q.2<nx f q.1):Cl f (jn f p q):=λx e y d E F B hd u A=>by
 unfold jn at u⊢;rw[Ym E F]at u;rw[Ym B hd];show(mem p y d||gen f q.1 q.2 y d)=true;rw[Bool.or_eq_true]at u⊢;rcases u with u|u
 .exact .inl (J x e y d E F B hd u A)
 .exact .inr (H q.1 q.2 x e y d U O E F B hd u A)
def AllC(f:SF)(L:LLL):Prop:=∀p∈L,Cl f p
theorem AllC.stp{f:SF}(B:GT f){k:Nat}{L:LLL}{q:Nat×Nat}(h:AllC f L)(A:k<L.length)(F:q.1<f.2.2.2.2.2.1.length)(E:q.2<nx f q.1):AllC f (stp f k L q):=by
 unfold Go.Ve.D.stp;split
 .exact h
 .intro p u
  rcases mem_append.1 u with u|u
  .exact h p u
  .rw[mem_singleton.1 u]
   exact Cl_jn B (h _ (Jn A)) F E
end Go.Ve.D


namespace Go.Ve.D
open Go Go.Ve
variable{d e x y:Nat}{f:SF}
theorem g2_iff{k:Nat}:g2 f x e k y d=true↔ ∃a,a<k/\fT (shS f) a=(x:Int)/\tT (shS f) a=(y:Int)/\(act f a).getD e 0=(d:Int):=by
 unfold g2;rw[List.any_eq_true];constructor
 .rintro ⟨a,u,h⟩
  unfold gQ at h;rw[tNC,bAE,bAE,decide_eq_true_iff,decide_eq_true_iff,decide_eq_true_iff]at h;exact⟨a,mem_range.1 u,h.1,h.2.1,h.2.2⟩
 .rintro ⟨a,u,E,B,A⟩
  refine⟨a,mem_range.2 u,?_⟩;unfold gQ;rw[tNC,bAE,bAE,decide_eq_true_iff,decide_eq_true_iff,decide_eq_true_iff];exact⟨E,B,A⟩
def QD:gen f x e y d=true↔ ∃a,a<ar (shS f)/\fT (shS f) a=(x:Int)/\tT (shS f) a=(y:Int)/\(act f a).getD e 0=(d:Int):=by
 rw[AbD];exact g2_iff
theorem gt_of(h:UV f=true):GT f:=by
 intro x e y d z c hx O hy hd hz hc W U;obtain⟨a,H,a1,a2,a3⟩:=QD.1 W;obtain⟨b,F,b1,Z,Y⟩:=QD.1 U;have J:=Ko h;unfold UV at h;rw[bAE,bAE]at h;have E:=h.2.2;have B:mt (shS f) a b=true:=dT (a2.trans b1.symm);obtain⟨t0,t1,t2,t3⟩:=J.sh.pos a b H F B;have A:=aET.1 (aET.1 E a (mem_range.2 H)) b (mem_range.2 F);unfold coB at A;rw[B,Bool.not_true,Bool.false_or,a1]at A;have u:=aET.1 A e (mem_range.2 O);unfold Wt at u;have u:=of_decide_eq_true u;rw[a3,tNC,Y]at u;exact QD.2 ⟨(T (shS f) a b).toNat,by show _<(shS f).2.1.length;omega,t2.trans a1,t3.trans Z,u⟩
end Go.Ve.D

