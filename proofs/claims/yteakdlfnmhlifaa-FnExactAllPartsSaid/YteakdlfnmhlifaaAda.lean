/- Parts as predicates: what partOf yields. -/
import Derived.Test.YteakdlfnmhlifaaAca
import Derived.Test.YteakdlfnmhlifaaLt
open List(range mem_map mem_filter mem_range)
set_option linter.all false
namespace Go.Ve.D
open Go Go.Ve
variable{i j x:Nat}{S:Nat->Nat->Bool}{f:SF}
def fl(S:Nat->Nat->Bool)(x j:Nat):List Int:=((range j).filter (S x)).map fun(e:Nat)=>(e:Int)
def IN:fl S x (j+1)=if S x j=true then fl S x j++[(j:Int)]else fl S x j:=by
 unfold fl;rw[List.range_succ,List.filter_append,List.map_append];by_cases h:S x j=true
 .rw[if_pos h];simp[h]
 .rw[if_neg h];simp[h]
def Pd:(fl S x j).length<=j:=by
 unfold fl;rw[List.length_map];exact Nat.le_trans (List.length_filter_le ..) (by simp)
def Oc{α:Type}{g:Nat->α}:(range i).map g++[g i]=(range (i+1)).map g:=by
 rw[List.range_succ,List.map_append];rfl
def plR(f:SF)(S:Nat->Nat->Bool)(i:Nat):List (List Int):=(range i).map λx=>fl S x (nx f x)
def pL(f:SF)(S:Nat->Nat->Bool):List (List Int):=plR f S f.2.2.2.2.2.1.length
def J9:(plR f S i).length=i:=by simp[plR]
theorem p30114(Z:FS f)(hl:f.2.2.2.2.2.1.length<=1048576){M:List ((Int×Int)×Bool)}(hM:∀x e:Nat,Qt (.pair (.int .i64) (.int .i64)) .bool ((x:Int),(e:Int)) M=S x e):Tot (λr=>r=(pL f S,(M,()))) (G30114 (f,((),())) (M,())):=by
 unfold G30114;refine AE (n:=f.2.2.2.2.2.1.length) (λi v=>v.1=(i:Int)/\v.2.1=M/\v.2.2.2=plR f S i) ⟨rfl,rfl,rfl⟩ (λi hi v A=>?_) λv A=>?_
 .obtain⟨k,m,o,u⟩:=v
  obtain⟨(E:k=_),(B:m=_),(J:u=_)⟩:=A;subst E B J;obtain⟨n,W,O,H⟩:=Z.size hi;have U:f.2.2.2.2.2.1.getD ((i:Int)).toNat 0=(n:Int):=by rw[tNC];exact W
  have F:nx f i=n:=H;refine BC (ltt hi) (Ah (by show(0:Int)<=(i:Int)/\(i:Int)<((f.2.2.2.2.2.1.length:Nat):Int);omega) (AE (n:=n) (λj v=>v.1=(j:Int)/\v.2=fl S i j) ⟨rfl,rfl⟩ (λj hj v A=>?_) λv A=>?_))
  .obtain⟨k,y⟩:=v
   obtain⟨(E:k=_),(B:y=_)⟩:=A;subst E B;have Y:=Pd (S:=S) (x:=i) (j:=j);refine BC (by show decide ((j:Int)<f.2.2.2.2.2.1.getD ((i:Int)).toNat 0)=true;rw[U];exact ltt hj) (Bu (v:=S i j) (congrArg some (hM i j)) (AX (λe=>?_) λe=>?_))
   .refine Ah (by show(fl S i j).length+1<=_;omega) (Aa ⟨wr1 hj (by omega),?_⟩)
    show fl S i j++[(j:Int)]=fl S i (j+1);rw[IN,if_pos e]
   .refine Aa ⟨wr1 hj (by omega),?_⟩
    show fl S i j=fl S i (j+1);rw[IN,if_neg (by rw[e];decide)]
  .obtain⟨k,y⟩:=v
   obtain⟨(E:k=_),(B:y=_)⟩:=A;subst E B;refine Bt (by show decide ((n:Int)<f.2.2.2.2.2.1.getD ((i:Int)).toNat 0)=false;rw[U];exact ltf) (Aa (Ah rfl (Ah trivial (Ah (by show(plR f S i).length+1<=_;rw[J9];omega) (Aa ⟨wr1 hi (by omega),rfl,?_⟩)))))
   show plR f S i++[fl S i n]=plR f S (i+1);rw[<-F];exact Oc
 .obtain⟨k,m,o,u⟩:=v
  obtain⟨(E:k=_),(B:m=_),(J:u=_)⟩:=A;subst E B J;exact Bt ltf (Aa (Ah rfl (Aa rfl)))
end Go.Ve.D


namespace Go.Ve.D
open Go Go.Ve
variable{x:Nat}{S:Nat->Nat->Bool}{f:SF}
theorem p10114(Z:FS f)(hl:f.2.2.2.2.2.1.length<=1048576)(hS:∀x e,S x e=false):Tot (λr=>r=pL f S) (G10114 (f,())):=by
 unfold G10114;refine AE (n:=f.2.2.2.2.2.1.length) (λi v=>v.1=(i:Int)/\v.2.2=plR f S i) ⟨rfl,rfl⟩ (λi hi v A=>?_) λv A=>?_
 .obtain⟨k,o,u⟩:=v
  obtain⟨(B:k=_),(H:u=_)⟩:=A;subst B H;obtain⟨n,W,O,F⟩:=Z.size hi;have U:f.2.2.2.2.2.1.getD ((i:Int)).toNat 0=(n:Int):=by rw[tNC];exact W
  have E:nx f i=n:=F;refine BC (ltt hi) (Ah (by show(0:Int)<=(i:Int)/\(i:Int)<((f.2.2.2.2.2.1.length:Nat):Int);omega) (AE (n:=n) (λj v=>v.1=(j:Int)/\v.2=fl S i j) ⟨rfl,rfl⟩ (λj hj v A=>?_) λv A=>?_))
  .obtain⟨k,y⟩:=v
   obtain⟨(B:k=_),(J:y=_)⟩:=A;subst B J;have Y:=Pd (S:=S) (x:=i) (j:=j);refine BC (by show decide ((j:Int)<f.2.2.2.2.2.1.getD ((i:Int)).toNat 0)=true;rw[U];exact ltt hj) (Bu (v:=S i j) (show G115 ((i:Int),(j:Int))=some (S i j) by rw[hS];rfl) (AX (λe=>?_) λe=>?_))
   .refine Ah (by show(fl S i j).length+1<=_;omega) (Aa ⟨wr1 hj (by omega),?_⟩)
    show fl S i j++[(j:Int)]=fl S i (j+1);rw[IN,if_pos e]
   .refine Aa ⟨wr1 hj (by omega),?_⟩
    show fl S i j=fl S i (j+1);rw[IN,if_neg (by rw[e];decide)]
  .obtain⟨k,y⟩:=v
   obtain⟨(B:k=_),(J:y=_)⟩:=A;subst B J;refine Bt (by show decide ((n:Int)<f.2.2.2.2.2.1.getD ((i:Int)).toNat 0)=false;rw[U];exact ltf) (Aa (Ah rfl (Ah trivial (Ah (by show(plR f S i).length+1<=_;rw[J9];omega) (Aa ⟨wr1 hi (by omega),?_⟩)))))
   show plR f S i++[fl S i n]=plR f S (i+1);rw[<-E];exact Oc
 .obtain⟨k,o,u⟩:=v
  obtain⟨(B:k=_),(H:u=_)⟩:=A;subst B H;exact Bt ltf (Aa (Ah rfl (Aa rfl)))
theorem p20114(Z:FS f)(hl:f.2.2.2.2.2.1.length<=1048576){P Q:List (List Int)}(hS:∀x e n:Nat,x<f.2.2.2.2.2.1.length->nx f x=n->e<n->G116 ((x:Int),((e:Int),(P,Q)))=some (S x e)):Tot (λr=>r=pL f S) (G20114 (f,(P,Q))):=by
 unfold G20114;refine AE (n:=f.2.2.2.2.2.1.length) (λi v=>v.1=(i:Int)/\v.2.2=plR f S i) ⟨rfl,rfl⟩ (λi hi v A=>?_) λv A=>?_
 .obtain⟨k,o,u⟩:=v
  obtain⟨(B:k=_),(H:u=_)⟩:=A;subst B H;obtain⟨n,W,O,F⟩:=Z.size hi;have U:f.2.2.2.2.2.1.getD ((i:Int)).toNat 0=(n:Int):=by rw[tNC];exact W
  have E:nx f i=n:=F;refine BC (ltt hi) (Ah (by show(0:Int)<=(i:Int)/\(i:Int)<((f.2.2.2.2.2.1.length:Nat):Int);omega) (AE (n:=n) (λj v=>v.1=(j:Int)/\v.2=fl S i j) ⟨rfl,rfl⟩ (λj hj v A=>?_) λv A=>?_))
  .obtain⟨k,y⟩:=v
   obtain⟨(B:k=_),(J:y=_)⟩:=A;subst B J;have Y:=Pd (S:=S) (x:=i) (j:=j);refine BC (by show decide ((j:Int)<f.2.2.2.2.2.1.getD ((i:Int)).toNat 0)=true;rw[U];exact ltt hj) (Bu (v:=S i j) (hS i j n hi E hj) (AX (λe=>?_) λe=>?_))
   .refine Ah (by show(fl S i j).length+1<=_;omega) (Aa ⟨wr1 hj (by omega),?_⟩)
    show fl S i j++[(j:Int)]=fl S i (j+1);rw[IN,if_pos e]
   .refine Aa ⟨wr1 hj (by omega),?_⟩
    show fl S i j=fl S i (j+1);rw[IN,if_neg (by rw[e];decide)]
  .obtain⟨k,y⟩:=v
   obtain⟨(B:k=_),(J:y=_)⟩:=A;subst B J;refine Bt (by show decide ((n:Int)<f.2.2.2.2.2.1.getD ((i:Int)).toNat 0)=false;rw[U];exact ltf) (Aa (Ah rfl (Ah trivial (Ah (by show(plR f S i).length+1<=_;rw[J9];omega) (Aa ⟨wr1 hi (by omega),?_⟩)))))
   show plR f S i++[fl S i n]=plR f S (i+1);rw[<-E];exact Oc
 .obtain⟨k,o,u⟩:=v
  obtain⟨(B:k=_),(H:u=_)⟩:=A;subst B H;exact Bt ltf (Aa (Ah rfl (Aa rfl)))
def Kd:(pL f S).length=f.2.2.2.2.2.1.length:=J9
def Ya(e:x<f.2.2.2.2.2.1.length):(pL f S).getD x []=fl S x (nx f x):=by
 unfold pL plR;simp[e]
def fl_con{n e:Nat}(A:e<n):(fl S x n).contains (e:Int)=S x e:=by
 unfold fl;cases h:S x e with
 |true=>
  rw[List.contains_iff_mem];exact mem_map.2 ⟨e,mem_filter.2 ⟨mem_range.2 A,h⟩,rfl⟩
 |false=>
  rw[Bool.eq_false_iff];intro u;rw[List.contains_iff_mem]at u;obtain⟨a,E,B⟩:=mem_map.1 u;have:a=e:=by omega
  subst this;rw[(mem_filter.1 E).2]at h;cases h
end Go.Ve.D


namespace Go.Ve.D
open Go Go.Ve
abbrev KP:Ty:=.pair (.int .i64) (.int .i64)
def eqK(q r:Int×Int):eqT KP q r=decide (q=r):=by
 show(decide (q.1=r.1)&&decide (q.2=r.2))=_;obtain⟨a,b⟩:=q;obtain⟨c,d⟩:=r;by_cases u:a=c<;>by_cases e:b=d<;>simp[u,e]
def D5{q:Int×Int}{e:(Int×Int)×Bool}{l:List ((Int×Int)×Bool)}:Qt KP .bool q (e::l)=bif decide (q=e.1)then e.2 else Qt KP .bool q l:=by
 show((bif eqT KP q e.1 then some e.2 else HB KP .bool q l).getD false)=_;rw[eqK];cases decide (q=e.1)<;>rfl
def UJ(q r:Int×Int):∀M:List ((Int×Int)×Bool),Qt KP .bool q (WV KP .bool r true M)=(decide (q=r)||Qt KP .bool q M)
 |[]=>by
  show Qt KP .bool q [(r,true)]=_;rw[D5];cases decide (q=r)<;>rfl
 |e::l=>by
  show Qt KP .bool q (bif eqT KP r e.1 then(r,true)::l else e::WV KP .bool r true l)=_;rw[eqK];by_cases h:r=e.1
  .rw[dT h,cond_true,D5,D5,h]
   cases decide (q=e.1)<;>rfl
  .rw[dF h,cond_false,D5,D5,UJ q r l]
   by_cases u:q=e.1
   .rw[dT u,dF (λA=>h (A.symm.trans u))];rfl
   .rw[dF u];rfl
def gQ(f:SF)(e y d:Nat)(a:Int):Bool:=decide (f.2.2.1.getD a.toNat 0=(y:Int))&&decide ((f.2.2.2.2.2.2.getD a.toNat []).getD e 0=(d:Int))
def gen(f:SF)(x e y d:Nat):Bool:=(M4 (shS f) (x:Int)).any (gQ f e y d)
theorem p75{f:SF}(O:FS f)(hl:f.2.2.2.2.2.1.length<=1048576)(hm:f.2.1.length<=1048576){x e:Nat}(he:(e:Int)<sz f (x:Int)):Tot (λr=>r=pL f (gen f x e)) (G75 (f,[[(x:Int),(e:Int)]])):=by
 unfold G75;refine AE (n:=1) (λi v=>v.1=(i:Int)/\(i=0->v.2.2=[])/\(i=1->∀y d:Nat,Qt KP .bool ((y:Int),(d:Int)) v.2.2=gen f x e y d)) ⟨rfl,λ_=>rfl,λh=>by omega⟩ (λi hi v u=>?_) λv u=>?_
 .obtain rfl:i=0:=by omega
  obtain⟨k,o,M⟩:=v;obtain⟨(B:k=_),W,_⟩:=u;have U:M=[]:=W rfl;subst B;subst U;have hx0:([[(x:Int),(e:Int)]]:List (List Int)).getD (((0:Nat):Int)).toNat []=[(x:Int),(e:Int)]:=rfl;refine BC (show decide ((0:Int)<1)=true by decide) (Ah (show(0:Int)<=0/\(0:Int)<1 by decide) (Ah (show(0:Int)<=0/\(0:Int)<2 by decide) (Bu (v:=M4 (shS f) (x:Int)) (p118 hm _) ?_)))
  refine AE (n:=(M4 (shS f) (x:Int)).length) (λk v=>v.1=(k:Int)/\v.2.2.2=M4 (shS f) (x:Int)/\∀y d:Nat,Qt KP .bool ((y:Int),(d:Int)) v.2.2.1=((M4 (shS f) (x:Int)).take k).any (gQ f e y d)) ⟨rfl,rfl,λy d=>rfl⟩ (λj hj v u=>?_) λv u=>?_
  .obtain⟨k,o,M,L⟩:=v
   obtain⟨(B:k=_),(e2:L=_),A⟩:=u;subst B e2;have A:∀y d:Nat,Qt KP .bool ((y:Int),(d:Int)) M=((M4 (shS f) (x:Int)).take j).any (gQ f e y d):=A;obtain⟨a,ha,H,J⟩:=fm_get (q:=λg=>decide (fT (shS f) g=(x:Int))) hj
   have J:(M4 (shS f) (x:Int)).getD j 0=(a:Int):=J;have H:=Jp H;obtain⟨b1,b2,b3,X,Y,_⟩:=O.ends ha;have F:=O.al a ha;rw[H]at F;have hlen:(M4 (shS f) (x:Int)).length<=1048576:=Nat.le_trans fm_len (by exact hm)
   have eg:(M4 (shS f) (x:Int)).getD ((j:Int)).toNat 0=(a:Int):=by rw[tNC];exact J
   have i1:(0:Int)<=(M4 (shS f) (x:Int)).getD ((j:Int)).toNat 0/\(M4 (shS f) (x:Int)).getD ((j:Int)).toNat 0<((f.2.2.1.length:Nat):Int):=by rw[eg];omega
   have i2:(0:Int)<=(M4 (shS f) (x:Int)).getD ((j:Int)).toNat 0/\(M4 (shS f) (x:Int)).getD ((j:Int)).toNat 0<((f.2.2.2.2.2.2.length:Nat):Int):=by rw[eg];omega
   have i3:(0:Int)<=(e:Int)/\(e:Int)<(((f.2.2.2.2.2.2.getD ((M4 (shS f) (x:Int)).getD ((j:Int)).toNat 0).toNat []).length:Nat):Int):=by
    rw[eg,tNC];have:((f.2.2.2.2.2.2.getD a []).length:Int)=sz f (x:Int):=F;omega
   refine BC (ltt hj) (Ah (by show(0:Int)<=(j:Int)/\(j:Int)<(((M4 (shS f) (x:Int)).length:Nat):Int);omega) (Ah i1 (Ah i2 (Ah (show(0:Int)<=1/\(1:Int)<2 by decide) (Ah i3 (Aa ⟨wr1 hj (by omega),rfl,λy d=>?_⟩))))))
   show Qt KP .bool ((y:Int),(d:Int)) (WV KP .bool (f.2.2.1.getD ((M4 (shS f) (x:Int)).getD ((j:Int)).toNat 0).toNat 0,(f.2.2.2.2.2.2.getD ((M4 (shS f) (x:Int)).getD ((j:Int)).toNat 0).toNat []).getD (((e:Nat):Int)).toNat 0) true M)=_;rw[UJ,A,ZM hj,tNC,tNC];unfold gQ;rw[Bool.or_comm]
   congr 1
   rw[<-Bool.decide_and,decide_eq_decide];constructor
   .intro h
    have E:=congrArg Prod.fst h;have Z:=congrArg Prod.snd h;exact⟨E.symm,Z.symm⟩
   .rintro ⟨E,Z⟩
    exact Prod.ext E.symm Z.symm
  .obtain⟨k,o,M,L⟩:=v
   obtain⟨(B:k=_),(e2:L=_),A⟩:=u;subst B e2;refine Bt ltf (Aa (Ah rfl (Aa ⟨by rfl,λh=>by omega,λ_ y d=>?_⟩)))
   have E:=A y d;rw[List.take_length]at E;exact E
 .obtain⟨k,o,M⟩:=v
  obtain⟨(B:k=_),_,A⟩:=u;subst B;exact Bt (show decide ((1:Int)<1)=false by decide) (Aa (Ah rfl (AT (p30114 O hl (S:=gen f x e) (A rfl)) λr hr=>Aa (by rw[hr]))))
end Go.Ve.D


namespace Go.Ve.D
open Go Go.Ve
variable{x:Nat}{S:Nat->Nat->Bool}{f:SF}
def Abp(u:FS f)(e:x<f.2.2.2.2.2.1.length):nx f x<=16:=by
 obtain⟨n,_,h,A⟩:=u.size e;have:nx f x=n:=A;omega
def p117{p:List (List Int)}{a:Int}(e:x<p.length)(h:(p.getD x []).length<=1048576):G117 (p,((x:Int),a))=some ((p.getD x []).contains a):=by
 unfold G117;rw[if_pos (by show(0:Int)<=(x:Int)/\(x:Int)<((p.length:Nat):Int);omega)]
 show Option.bind (G151 (p.getD ((x:Int)).toNat [],a)) _=_;rw[tNC,p151 h];rfl
theorem X9(u:FS f)(e:x<f.2.2.2.2.2.1.length):((pL f S).getD x []).length<=1048576:=by
 rw[Ya e];have:=Pd (S:=S) (x:=x) (j:=nx f x);have:=Abp u e;omega
def OR{e:Nat}(u:x<f.2.2.2.2.2.1.length)(A:e<nx f x):((pL f S).getD x []).contains (e:Int)=S x e:=by
 rw[Ya u,fl_con A]
def p74(A:FS f)(H:f.2.2.2.2.2.1.length<=1048576){T:Nat->Nat->Bool}:Tot (λr=>r=pL f (λx e=>S x e||T x e)) (G74 (f,(pL f S,pL f T))):=by
 unfold G74;refine AT (p20114 A H (S:=λx e=>S x e||T x e) (P:=pL f S) (Q:=pL f T) λx e n u F B=>?_) λv E=>Aa E
 subst F;unfold G116;show Option.bind (G117 (pL f S,((x:Int),(e:Int)))) _=_;rw[p117 (by rw[Kd];exact u) (X9 A u),OR u B,Option.bind_some]
 cases J:S x e with
 |true=>rfl
 |false=>
  show Option.bind (Option.bind (G117 (pL f T,((x:Int),(e:Int)))) _) _=_;rw[p117 (by rw[Kd];exact u) (X9 A u),OR u B]
  rfl
theorem p72(A:FS f)(u:f.2.2.2.2.2.1.length<=1048576):Tot (λr=>r=pL f (λ_ _=>false)) (G72 f):=by
 unfold G72;exact AT (p10114 A u (S:=λ_ _=>false) λ_ _=>rfl) λv e=>Aa e
def Adq{j:Nat}:fl (λ_ _=>false) x j=[]:=by
 unfold fl;simp
theorem p63(E:f.2.2.2.2.2.1.length<=1048576):Tot (λr=>r=pL f (λ_ _=>false)) (G63 f):=by
 unfold G63;refine AE (n:=f.2.2.2.2.2.1.length) (λi v=>v.1=(i:Int)/\v.2=plR f (λ_ _=>false) i) ⟨rfl,rfl⟩ (λi hi v e=>?_) λv e=>?_
 .obtain⟨k,u⟩:=v
  obtain⟨(B:k=_),(A:u=_)⟩:=e;subst B A;refine BC (ltt hi) (Ah trivial (Ah (by show(plR f _ i).length+1<=_;rw[J9];omega) (Aa ⟨wr1 hi (by omega),?_⟩)))
  show plR f (λ_ _=>false) i++[[]]=plR f (λ_ _=>false) (i+1)
  have:([]:List Int)=fl (λ_ _=>false) i (nx f i):=Adq.symm
  rw[this];exact Oc
 .obtain⟨k,u⟩:=v
  obtain⟨(B:k=_),(A:u=_)⟩:=e;subst B A;exact Bt ltf (Aa (Ah rfl (Aa rfl)))
end Go.Ve.D


namespace Go.Ve.D
open Go Go.Ve
variable{x:Nat}{S q:Nat->Nat->Bool}{f:SF}
def bm(f:SF)(q:Nat->Nat->Bool):List (List Bool):=(range f.2.2.2.2.2.1.length).map λx=>(range (nx f x)).map (q x)
def Cy:(bm f q).length=f.2.2.2.2.2.1.length:=by simp[bm]
def C7(e:x<f.2.2.2.2.2.1.length):(bm f q).getD x []=(range (nx f x)).map (q x):=getM e
def Pw{e:Nat}(u:x<f.2.2.2.2.2.1.length)(A:e<nx f x):((bm f q).getD x []).getD e false=q x e:=by
 rw[C7 u];exact getM A
def BN{r:Nat->Nat->Bool}(h:∀x,x<f.2.2.2.2.2.1.length->∀e,e<nx f x->q x e=r x e):bm f q=bm f r:=V9 h
theorem AdB:inL f (pL f S)=bm f S:=by
 unfold inL bm;refine List.map_congr_left λx u=>?_
 have u:=mem_range.1 u;unfold mkN;exact List.map_congr_left λe A=>OR u (mem_range.1 A)
theorem Vf:mkd (bm f S)=pL f S:=by
 unfold mkd pL plR;rw[Cy];refine List.map_congr_left λx u=>?_
 have u:=mem_range.1 u;have A:((bm f S).getD x []).length=nx f x:=by rw[C7 u];simp
 rw[A];unfold fl
 congr 1
 exact List.filter_congr λe B=>Pw u (mem_range.1 B)
theorem AcJ(B:FS f):PT2 f (pL f S):=by
 refine⟨Kd,λi hi=>?_⟩
 rw[Kd]at hi;obtain⟨n,A,_,u⟩:=B.size hi;have u:nx f i=n:=u;rw[Ya hi,A,u];unfold wi;refine aET.2 λa F=>?_
 obtain⟨e,E,rfl⟩:=mem_map.1 F;have:=mem_range.1 (mem_filter.1 E).1;exact Kq.2 (by omega)
theorem VY(B:FS f)(A:f.2.2.2.2.2.1.length<=1048576):okL (pL f S):=by
 refine⟨by rw[Kd];exact A,λy e=>?_⟩
 obtain⟨x,u,rfl⟩:=mem_map.1 (show y∈plR f S _ from e)
 have F:=Pd (S:=S) (x:=x) (j:=nx f x);have E:=Abp B (mem_range.1 u);omega
def mxQ(S T:Nat->Nat->Bool)(x e y d:Nat):Bool:=S y d||((decide (y<x)||(decide (y=x)&&decide (d<e)))&&T y d)
theorem p65(E:FS f)(hl:f.2.2.2.2.2.1.length<=1048576){T:Nat->Nat->Bool}:Tot (λr=>r=pL f (λx e=>S x e||T x e)) (G65 (f,(pL f S,pL f T))):=by
 unfold G65;refine Bu (v:=bm f S) (by rw[<-AdB];exact p108 E (AcJ E) (VY E hl)) (Bu (v:=bm f T) (by rw[<-AdB];exact p108 E (AcJ E) (VY E hl)) ?_)
 refine AE (n:=f.2.2.2.2.2.1.length) (λi v=>v.1=(i:Int)/\v.2.1=bm f (mxQ S T i 0)/\v.2.2=bm f T) ⟨rfl,BN λx u e U=>by simp[mxQ],rfl⟩ (λx u v F=>?_) λv F=>?_
 .obtain⟨k,A,B⟩:=v
  obtain⟨(O:k=_),(J:A=_),(H:B=_)⟩:=F;subst O J H;have hn16:=Abp E u;refine BC (by show decide ((x:Int)<(((bm f (mxQ S T x 0)).length:Nat):Int))=true;rw[Cy];exact ltt u) (AE (n:=nx f x) (λj v=>v.1=(j:Int)/\v.2.1=bm f (mxQ S T x j)/\v.2.2=bm f T) ⟨rfl,rfl,rfl⟩ (λe U v F=>?_) λv F=>?_)
  .obtain⟨k,A,B⟩:=v
   obtain⟨(O:k=_),(J:A=_),(H:B=_)⟩:=F;subst O J H;have Y:((x:Int)).toNat=x:=tNC x;have ee:((e:Int)).toNat=e:=tNC e;have g1:(0:Int)<=(x:Int)/\(x:Int)<(((bm f (mxQ S T x e)).length:Nat):Int):=by rw[Cy];omega
   have g2:(0:Int)<=(x:Int)/\(x:Int)<(((bm f T).length:Nat):Int):=by rw[Cy];omega
   have Z:(((bm f (mxQ S T x e)).getD ((x:Int)).toNat []).length:Nat)=nx f x:=by rw[Y,C7 u];simp
   have r2:(((bm f T).getD ((x:Int)).toNat []).length:Nat)=nx f x:=by rw[Y,C7 u];simp
   have g3:(0:Int)<=(e:Int)/\(e:Int)<((((bm f (mxQ S T x e)).getD ((x:Int)).toNat []).length:Nat):Int):=by rw[Z];omega
   have g4:(0:Int)<=(e:Int)/\(e:Int)<((((bm f T).getD ((x:Int)).toNat []).length:Nat):Int):=by rw[r2];omega
   have v1:((bm f (mxQ S T x e)).getD ((x:Int)).toNat []).getD ((e:Int)).toNat false=S x e:=by
    rw[Y,ee,Pw u U];simp[mxQ]
   have v2:((bm f T).getD ((x:Int)).toNat []).getD ((e:Int)).toNat false=T x e:=by rw[Y,ee,Pw u U]
   refine Ah g1 (BC (by show decide ((e:Int)<((((bm f (mxQ S T x e)).getD ((x:Int)).toNat []).length:Nat):Int))=true;rw[Z];exact ltt U) (Ah g1 (Ah g1 (Ah g3 (AT (P:=λb=>b=(S x e||T x e)) (AX (λh=>Aa ?_) λh=>Ah g2 (Ah g4 (Aa ?_))) λb hb=>Ah g3 (Aa ⟨wr1 U (by omega),?_,rfl⟩))))))
   .have h:((bm f (mxQ S T x e)).getD ((x:Int)).toNat []).getD ((e:Int)).toNat false=true:=h
    rw[v1]at h;rw[h];rfl
   .have h:((bm f (mxQ S T x e)).getD ((x:Int)).toNat []).getD ((e:Int)).toNat false=false:=h
    rw[v1]at h;show((bm f T).getD ((x:Int)).toNat []).getD ((e:Int)).toNat false=_;rw[v2,h];rfl
   .show(bm f (mxQ S T x e)).set ((x:Int)).toNat (((bm f (mxQ S T x e)).getD ((x:Int)).toNat []).set ((e:Int)).toNat b)=bm f (mxQ S T x (e+1))
    rw[Y,ee,C7 u,hb];refine Eq.trans set2 (BN λy hy d hd=>?_)
    by_cases W:y=x
    .subst W
     by_cases h2:d=e
     .subst h2;simp[mxQ]
     .have:decide (d<e+1)=decide (d<e):=by rw[decide_eq_decide];omega
      simp[mxQ,h2,this]
    .simp[mxQ,W]
  .obtain⟨k,A,B⟩:=v
   obtain⟨(O:k=_),(J:A=_),(H:B=_)⟩:=F;subst O J H;have g1:(0:Int)<=(x:Int)/\(x:Int)<(((bm f (mxQ S T x (nx f x))).length:Nat):Int):=by rw[Cy];omega
   have Z:(((bm f (mxQ S T x (nx f x))).getD ((x:Int)).toNat []).length:Nat)=nx f x:=by rw[tNC,C7 u];simp
   refine Ah g1 (Bt (by show decide ((nx f x:Int)<((((bm f (mxQ S T x (nx f x))).getD ((x:Int)).toNat []).length:Nat):Int))=false;rw[Z];exact ltf) (Aa (Ah rfl (Aa ⟨wr1 u (by omega),?_,rfl⟩))))
   refine BN λy hy d hd=>?_
   by_cases W:y=x
   .subst W;simp[mxQ,hd]
   .have:decide (y<x+1)=decide (y<x):=by rw[decide_eq_decide];omega
    simp[mxQ,W,this]
 .obtain⟨k,A,B⟩:=v
  obtain⟨(O:k=_),(J:A=_),(H:B=_)⟩:=F;subst O J H;have e4:bm f (mxQ S T f.2.2.2.2.2.1.length 0)=bm f (λx e=>S x e||T x e):=BN λy hy d hd=>by simp[mxQ,hy]
  refine Bt (by show decide ((f.2.2.2.2.2.1.length:Int)<(((bm f (mxQ S T f.2.2.2.2.2.1.length 0)).length:Nat):Int))=false;rw[Cy];exact ltf) (Aa (Ah rfl (Bu (v:=pL f (λx e=>S x e||T x e)) ?_ (Aa rfl))))
  show G109 (bm f (mxQ S T f.2.2.2.2.2.1.length 0))=_;rw[e4,p109 (by rw[Cy];exact hl) (λi hi=>?_),Vf]
  rw[Cy]at hi;rw[C7 hi];have:=Abp E hi;simp;omega
end Go.Ve.D

