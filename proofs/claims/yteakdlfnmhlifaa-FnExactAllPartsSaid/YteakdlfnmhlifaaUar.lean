/- Comparing lists of lists: what the program's compare computes, an order. -/
import Derived.Test.YteakdlfnmhlifaaUap1
import Derived.Test.YteakdlfnmhlifaaLt
import Derived.Shelf.SlSortCmp.Insertion
import Derived.Test.YteakdlfnmhlifaaTv
import Derived.Shelf.SlSortCmp.WholeK
set_option linter.all false
namespace Go.Ve.D
open Go Go.Ve Go.Proofs
variable{x y:List (List Int)}{i:Nat}
def okI(x:List Int):Prop:=x.length<4611686018427387904
def CC:List Int->List Int->Int
 |[],[]=>0
 |[],_::_=>-1
 |_::_,[]=>1
 |a::x,b::y=>if a=b then CC x y else if a<b then-1 else 1
noncomputable def b105(x y:List Int)(v0:Int):Option (LO Int Int):=(bif(decide (v0<((x.length:Nat):Int)))then(bif(decide (v0=((y.length:Nat):Int)))then(BF (some (1:Int)))else(if(((0:Int)<=v0)/\(v0<((x.length:Nat):Int)))then(if(((0:Int)<=v0)/\(v0<((y.length:Nat):Int)))then(bif(!decide ((x.getD (v0).toNat (0:Int))=(y.getD (v0).toNat (0:Int))))then(if(((0:Int)<=v0)/\(v0<((x.length:Nat):Int)))then(if(((0:Int)<=v0)/\(v0<((y.length:Nat):Int)))then(bif(decide ((x.getD (v0).toNat (0:Int))<(y.getD (v0).toNat (0:Int))))then(BF (some (-(1:Int))))else(BF (some (1:Int))))else none)else none)else(some (LO.next (IntKind.wrap .i64 (v0+(1:Int))))))else none)else none))else(some (LO.brk 0 v0)))
def AdF(x y:List Int):G105 (x,y)=Option.bind (Ap (b105 x y) (0:Int)) (LO.fin λe (v0:Int)=>(if e=0 then(bif(decide (((x.length:Nat):Int)<((y.length:Nat):Int)))then(some (-(1:Int)))else(some (0:Int)))else none)):=rfl
theorem p105{x y:List Int}(hx:okI x)(hy:okI y):G105 (x,y)=some (CC x y):=by
 unfold okI at hx hy
 have H:b105 x y (x.length:Int)=some (.brk 0 (x.length:Int)):=by
  unfold b105;rw[dF (by omega)];rfl
 have F:∀i:Nat,i<x.length->i=y.length->b105 x y (i:Int)=some (.ret 1):=by
  intro i E u;unfold b105;rw[dT (by omega:((i:Nat):Int)<((x.length:Nat):Int)),dT (by omega:((i:Nat):Int)=((y.length:Nat):Int))]
  rfl
 have O:∀i:Nat,i<x.length->i<y.length->x.getD i 0≠y.getD i 0->b105 x y (i:Int)=some (.ret (if x.getD i 0<y.getD i 0 then-1 else 1)):=by
  intro i E u B;unfold b105;rw[dT (by omega:((i:Nat):Int)<((x.length:Nat):Int)),dF (by omega:¬ ((i:Nat):Int)=((y.length:Nat):Int)),cond_true,cond_false]
  have c1:((0:Int)<=(i:Int))/\((i:Int)<((x.length:Nat):Int)):=by omega
  have c2:((0:Int)<=(i:Int))/\((i:Int)<((y.length:Nat):Int)):=by omega
  rw[if_pos c1,if_pos c2,if_pos c1,if_pos c2,tNC,dF B,Bool.not_false,cond_true];by_cases A:x.getD i 0<y.getD i 0
  .rw[dT A,if_pos A];rfl
  .rw[dF A,if_neg A];rfl
 have heq:∀i:Nat,i<x.length->i<y.length->x.getD i 0=y.getD i 0->b105 x y (i:Int)=some (.next ((i+1:Nat):Int)):=by
  intro i E u B;unfold b105;rw[dT (by omega:((i:Nat):Int)<((x.length:Nat):Int)),dF (by omega:¬ ((i:Nat):Int)=((y.length:Nat):Int)),cond_true,cond_false]
  have c1:((0:Int)<=(i:Int))/\((i:Int)<((x.length:Nat):Int)):=by omega
  have c2:((0:Int)<=(i:Int))/\((i:Int)<((y.length:Nat):Int)):=by omega
  rw[if_pos c1,if_pos c2,tNC,dT B,Bool.not_true,cond_false,Is (by omega) (by omega)]
  rfl
 have key:∀k i,i+k=x.length->i<=y.length->(Ap (b105 x y) (i:Int)=some (.ret (CC (x.drop i) (y.drop i))))\/(Ap (b105 x y) (i:Int)=some (.brk 0 (x.length:Int))/\CC (x.drop i) (y.drop i)=if x.length<y.length then-1 else 0):=by
  intro k
  induction k with
  |zero=>
   intro i hi J;obtain rfl:i=x.length:=by omega
   right;refine⟨by rw[Bn,H];rfl,?_⟩
   rw[List.drop_length];cases hd:y.drop x.length with
   |nil=>
    have:=List.drop_eq_nil_iff.1 hd;rw[if_neg (by omega)];rfl
   |cons a l=>
    have:x.length<y.length:=by
     rcases Nat.lt_or_ge x.length y.length with h|h
     .exact h
     .rw[List.drop_eq_nil_iff.2 h]at hd;cases hd
    rw[if_pos this];rfl
  |succ k ih=>
   intro i hi J;have E:i<x.length:=by omega
   have U:x.drop i=x.getD i 0::x.drop (i+1):=by
    rw[List.drop_eq_getElem_cons E,gDE,gEE E];rfl
   by_cases u:i=y.length
   .left
    rw[Bn,F i E u,U,u,List.drop_length];rfl
   .have u:i<y.length:=by omega
    have Z:y.drop i=y.getD i 0::y.drop (i+1):=by
     rw[List.drop_eq_getElem_cons u,gDE,gEE u];rfl
    by_cases B:x.getD i 0=y.getD i 0
    .have e:Ap (b105 x y) (i:Int)=Ap (b105 x y) ((i+1:Nat):Int):=by rw[Bn,heq i E u B];rfl
     have ec:CC (x.drop i) (y.drop i)=CC (x.drop (i+1)) (y.drop (i+1)):=by
      rw[U,Z];show(if x.getD i 0=y.getD i 0 then _ else _)=_
      rw[if_pos B]
     rw[e,ec];exact ih (i+1) (by omega) (by omega)
    .left
     rw[Bn,O i E u B,U,Z];show _=some (LO.ret (if x.getD i 0=y.getD i 0 then _ else if x.getD i 0<y.getD i 0 then-1 else 1))
     rw[if_neg B];rfl
 rw[AdF];have Y:=key x.length 0 (by omega) (Nat.zero_le _)
 rw[List.drop_zero,List.drop_zero]at Y;rcases Y with h|⟨h,hc⟩
 .refine A6 h rfl
 .refine A6 h ?_
  show(bif decide (((x.length:Nat):Int)<((y.length:Nat):Int))then some (-(1:Int))else some (0:Int))=_;rw[hc];by_cases W:x.length<y.length
  .rw[dT (by omega),if_pos W];rfl
  .rw[dF (by omega),if_neg W];rfl
def KK:∀x:List Int,CC x x=0
 |[]=>rfl
 |a::x=>by
  show(if a=a then CC x x else _)=0
  rw[if_pos rfl];exact KK x
def Va:∀x y:List Int,CC y x= -CC x y
 |[],[]=>rfl
 |[],_::_=>rfl
 |_::_,[]=>rfl
 |a::x,b::y=>by
  show(if b=a then CC y x else if b<a then-1 else 1)= -(if a=b then CC x y else if a<b then-1 else 1)
  by_cases h:a=b
  .rw[if_pos h,if_pos h.symm];exact Va x y
  .rw[if_neg h,if_neg (Ne.symm h)]
   by_cases e:a<b
   .rw[if_pos e,if_neg (by omega)];rfl
   .rw[if_neg e,if_pos (by omega)]
def KL:∀x y:List Int,CC x y=0->x=y
 |[],[],_=>rfl
 |[],_::_,h=>by cases h
 |_::_,[],h=>by cases h
 |a::x,b::y,h=>by
  have h:(if a=b then CC x y else if a<b then-1 else 1)=0:=h
  by_cases e:a=b
  .rw[if_pos e]at h
   rw[e,KL x y h]
  .rw[if_neg e]at h
   split at h<;>cases h
def Mb:∀x y z:List Int,CC x y<0->CC y z<0->CC x z<0
 |[],[],_,h,_=>by cases h
 |[],_::_,[],_,h=>by cases h
 |[],_::_,_::_,_,_=>by show(-1:Int)<0;decide
 |_::_,[],_,h,_=>by cases h
 |_::_,_::_,[],_,h=>by cases h
 |a::x,b::y,c::z,B,u=>by
  have B:(if a=b then CC x y else if a<b then-1 else 1)<0:=B
  have u:(if b=c then CC y z else if b<c then-1 else 1)<0:=u
  show(if a=c then CC x z else if a<c then-1 else 1)<0
  by_cases A:a=b
  .rw[if_pos A]at B
   by_cases e:b=c
   .rw[if_pos e]at u
    rw[if_pos (A.trans e)];exact Mb x y z B u
   .rw[if_neg e]at u
    rw[if_neg (by omega)]
    split at u
    .rw[if_pos (by omega)];decide
    .cases u
  .rw[if_neg A]at B
   split at B
   .rename_i E
    by_cases e:b=c
    .rw[if_neg (by omega),if_pos (by omega)];decide
    .rw[if_neg e]at u
     split at u
     .rw[if_neg (by omega),if_pos (by omega)];decide
     .cases u
   .cases B
def AV:List (List Int)->List (List Int)->Int
 |[],[]=>0
 |[],_::_=>-1
 |_::_,[]=>1
 |a::x,b::y=>if CC a b=0 then AV x y else CC a b
def Qp(x:List (List Int)):Prop:=x.length<=1000000000/\∀y∈x,okI y
def Qp.get(h:Qp x)(hi:i<x.length):okI (x.getD i []):=by
 rw[gDE,gEE hi];exact h.2 _ (List.getElem_mem hi)
def Nv{α:Type}{x:List α}{d:α}(h:i<x.length):x.drop i=x.getD i d::x.drop (i+1):=by
 rw[List.drop_eq_getElem_cons h,gDE,gEE h];rfl
theorem p10121(J:Qp x)(H:Qp y):Tot (λv=>v=AV x y) (G10121 (x,(y,()))):=by
 unfold G10121;have l1:=J.1;have l2:=H.1;refine AE (n:=x.length) (λi v=>v=(i:Int)/\i<=y.length/\AV x y=AV (x.drop i) (y.drop i)) ⟨rfl,Nat.zero_le _,rfl⟩ (λi hi v B=>?_) λv B=>?_
 .obtain⟨rfl,E,u⟩:=B
  have F:=Nv (d:=[]) hi;refine BC (ltt hi) (Ah ⟨by omega,by show(i:Int)<((x.length:Nat):Int);omega⟩ (AX (λe=>?_) λe=>?_))
  .have e:((y.length:Nat):Int)<=(i:Int):=Jp e
   have U:i=y.length:=by omega
   refine DL (Aa ?_);rw[u,F,U,List.drop_length];rfl
  .have e:¬ ((y.length:Nat):Int)<=(i:Int):=KG e
   have A:i<y.length:=by omega
   have O:=Nv (d:=[]) A;refine Ah ⟨by omega,by show(i:Int)<((y.length:Nat):Int);omega⟩ (Bu (v:=CC (x.getD i []) (y.getD i [])) ?_ (AX (λe=>?_) λe=>?_))
   .show G105 (x.getD ((i:Int)).toNat [],y.getD ((i:Int)).toNat [])=_
    rw[tNC];exact p105 (J.get hi) (H.get A)
   .have e:¬CC (x.getD i []) (y.getD i [])=0:=by simpa using e
    refine DL (Aa ?_);rw[u,F,O];show _=if _=0 then _ else _
    rw[if_neg e]
   .have e:CC (x.getD i []) (y.getD i [])=0:=by simpa using e
    refine Aa ⟨wr1 hi (by omega),by omega,?_⟩
    rw[u,F,O];show(if _=0 then _ else _)=_
    rw[if_pos e]
 .obtain⟨rfl,E,u⟩:=B
  rw[List.drop_length]at u;refine Bt ltf (Aa (Ah rfl (AX (λe=>Aa ?_) λe=>Aa ?_)))
  .have e:((x.length:Nat):Int)<((y.length:Nat):Int):=Jp e
   rw[u,Nv (d:=[]) (by omega:x.length<y.length)];rfl
  .have e:¬ ((x.length:Nat):Int)<((y.length:Nat):Int):=KG e
   rw[u,List.drop_eq_nil_iff.2 (by omega)];rfl
def p78(A:Qp x)(u:Qp y):G78 (x,y)=some (AV x y):=by
 obtain⟨v,B,e⟩:=p10121 A u;unfold G78;show Option.bind (G10121 (x,(y,()))) _=_;rw[B,e];rfl
def p80(u:Qp x)(e:Qp y):G80 (x,y)=some (AV x y):=by
 unfold G80;show Option.bind (G78 (x,y)) _=_;rw[p78 u e];rfl
def IT:∀x:List (List Int),AV x x=0
 |[]=>rfl
 |a::x=>by
  show(if CC a a=0 then AV x x else _)=0
  rw[if_pos (KK a)];exact IT x
def CV:∀x y:List (List Int),AV y x= -AV x y
 |[],[]=>rfl
 |[],_::_=>rfl
 |_::_,[]=>rfl
 |a::x,b::y=>by
  show(if CC b a=0 then AV y x else CC b a)= -(if CC a b=0 then AV x y else CC a b)
  have n:=Va a b;by_cases h:CC a b=0
  .rw[if_pos h,if_pos (by omega)];exact CV x y
  .rw[if_neg h,if_neg (by omega),n]
def DB:∀x y:List (List Int),AV x y=0->x=y
 |[],[],_=>rfl
 |[],_::_,h=>by cases h
 |_::_,[],h=>by cases h
 |a::x,b::y,h=>by
  have h:(if CC a b=0 then AV x y else CC a b)=0:=h
  by_cases e:CC a b=0
  .rw[if_pos e]at h
   rw[KL a b e,DB x y h]
  .rw[if_neg e]at h
   exact absurd h e
def DA:∀x y z:List (List Int),AV x y<0->AV y z<0->AV x z<0
 |[],[],_,h,_=>by cases h
 |[],_::_,[],_,h=>by cases h
 |[],_::_,_::_,_,_=>by show(-1:Int)<0;decide
 |_::_,[],_,h,_=>by cases h
 |_::_,_::_,[],_,h=>by cases h
 |a::x,b::y,c::z,h1,h2=>by
  have k1:(if CC a b=0 then AV x y else CC a b)<0:=h1
  have k2:(if CC b c=0 then AV y z else CC b c)<0:=h2
  show(if CC a c=0 then AV x z else CC a c)<0
  by_cases A:CC a b=0
  .rw[if_pos A]at k1
   have e:=KL a b A;subst e;by_cases u:CC a c=0
   .rw[if_pos u]at k2⊢
    exact DA x y z k1 k2
   .rw[if_neg u]at k2⊢
    exact k2
  .rw[if_neg A]at k1
   by_cases u:CC b c=0
   .have e:=KL b c u
    subst e;rw[if_neg A];exact k1
   .rw[if_neg u]at k2
    have B:=Mb a b c k1 k2;rw[if_neg (by omega)];exact B
def M9:ltOf AV x y=true↔AV x y<0:=by unfold ltOf;simp
def Dx:ltOf AV x y=false↔0<=AV x y:=by unfold ltOf;simp
theorem swoLL:Go.Sort.SWO (ltOf AV):=by
 refine⟨λx=>Dx.2 (by rw[IT];decide),λx y z u e=>M9.2 (DA x y z (M9.1 u) (M9.1 e)),λx y z u e=>Dx.2 ?_⟩
 have u:=Dx.1 u;have e:=Dx.1 e;by_cases B:AV x y=0
 .rw[DB x y B];exact e
 by_cases A:AV y z=0
 .rw[<-DB y z A];exact u
 have H:=CV x y;have F:=CV y z;have:=DA z y x (by omega) (by omega)
 have E:=CV z x;omega
def AbY(x y:List (List Int))(u:ltOf AV x y=false)(e:ltOf AV y x=false):x=y:=by
 have u:=Dx.1 u;have e:=Dx.1 e;have n:=CV x y;exact DB x y (by omega)
end Go.Ve.D


namespace Go.Ve
open Go.Proofs Go.Shelf
variable{d:Nat}{P:Program}{t:Ty}{α:Type}{w:World}
def DN [Inhabited α]{enc:α->Value}{e off m:Nat}{B:Array α}{os:Array Obj}{c:Nat}(A:c≠e)(u:c<w.heap.size):(sortWorld enc w e off m B os).heap[c]? =w.heap[c]?:=by
 unfold sortWorld;rw[Go.Sort.heap_grow_old _ _ (by simpa [Go.Sort.putRow,Go.Sort.mapBlock,Go.Sort.ahead]using u)]
 simp[Go.Sort.putRow,Go.Sort.mapBlock,Go.Sort.ahead,Array.getElem?_modify,Ne.symm A]
def KQ{g:Nat}(h:AA P g=true):∀args w,(callFunc g args).run P w=.ok (.enter g args) w:=by
 intro args w;unfold AA at h;split at h
 .rename_i fn e
  simp only[bAE,Bool.not_eq_true']at h;obtain⟨E,B⟩:=h;have A:fn.body.isNone=false:=by cases u:fn.body<;>simp[u]at B⊢
  simp at E;simp[callFunc,e,E,A];intro u;simp[u]at B
 .cases h
def Vm{W w':World}(H:Below W.heap.size W w'):∃q A,w'=Go.Sort.grow (W.drewN q) A:=by
 refine⟨w'.drawn-W.drawn,w'.heap.extract W.heap.size w'.heap.size,?_⟩;have J:w'.heap=W.heap++w'.heap.extract W.heap.size w'.heap.size:=by
  apply Array.ext_getElem?;intro k;rw[Array.getElem?_append];split
  .rename_i F
   exact H.block k F
  .rename_i F
   rw[Array.getElem?_extract];have e:W.heap.size+(k-W.heap.size)=k:=by omega
   rw[e];split
   .rfl
   .rename_i h2
    exact Array.getElem?_eq_none (by omega)
 obtain⟨Y,U,O,b4,b5,Z⟩:=H;cases w' with
 |mk heap tape drawn os output=>
  cases W with
  |mk E B u A output'=>
   simp only at Y U O Z J;subst Y U O;have e:u+(drawn-u)=drawn:=by omega
   simp only[Go.Sort.grow,World.drewN,e];rw[<-J]
def leC{α:Type}(e:α->α->Int)(x y:α):Bool:=!ltOf e y x
def Ci{α:Type}(e:α->α->Int)(xs:List α):List α:=xs.mergeSort (leC e)
def I4{e:α->α->Int}(B:Go.Sort.SWO (ltOf e))(H:∀x y,ltOf e x y=false->ltOf e y x=false->x=y){xs ys:List α}(F:ys.Perm xs)(E:ys.Pairwise λx y=>leC e x y=true):ys=Ci e xs:=by
 refine List.Perm.eq_of_pairwise (le:=λx y=>leC e x y=true) (λa b _ _ A u=>H a b ?_ ?_) E (List.pairwise_mergeSort (λa b c A u=>?_) (λa b=>?_) xs) (F.trans (List.mergeSort_perm xs _).symm)
 .have:(!ltOf e a b)=true:=u
  simpa using this
 .have:(!ltOf e b a)=true:=A
  simpa using this
 .have A:(!ltOf e b a)=true:=A
  have u:(!ltOf e c b)=true:=u;show(!ltOf e c a)=true;rw[Bool.not_eq_true']at*;exact B.ntrans _ _ _ u A
 .show(!ltOf e b a|| !ltOf e a b)=true
  cases A:ltOf e b a with
  |false=>rfl
  |true=>
   cases u:ltOf e a b with
   |false=>rfl
   |true=>
    have:=B.trans _ _ _ A u;rw[B.irrefl]at this;cases this
noncomputable def Xt{α:Type}(ok:α->Prop)(e:α->α->Int)(xs:List α):Option (Unit×List α):=by
 classical exact if 0<xs.length/\xs.length<4611686018427387904/\∀x∈xs,ok x then some ((),Ci e xs)else none
def X2 [Inhabited α](enc:α->Value)(off:Nat)(d:Array α):Go.Sort.putCells id off (Go.Sort.flatK (λi=>[enc i]) 1 d)=Go.Sort.putCells enc off d:=by
 funext c
 unfold Go.Sort.putCells;have u:(Go.Sort.flatK (λi=>[enc i]) 1 d).size=d.size:=by simp
 rw[u];apply Array.ext (by simp)
 intro i B A;simp only[Array.getElem_mapIdx];split
 .rename_i h
  have e:=Go.Sort.get_flatK (λi=>[enc i]) 1 d (i-off) (by omega)
  show(Go.Sort.flatK (λi=>[enc i]) 1 d)[i-off]! =_
  rw[e];simp[Nat.mod_one]
 .rfl
def Lr [Inhabited α](enc:α->Value)(w:World)(b o m:Nat)(d:Array α)(os:Array Obj):sortWorldK (λi=>[enc i]) 1 w b o m d os=sortWorld enc w b o m d os:=by
 unfold sortWorldK sortWorld Go.Sort.putRowK Go.Sort.putRow;rw[X2]
def holds1 [Inhabited α]{enc:α->Value}{b o:Nat}{d:Array α}(h:Go.Sort.Holds enc w b o d):Go.Sort.HoldsK (λi=>[enc i]) 1 w b o d:=by
 intro j hj;have u:j<d.size:=by simpa using hj
 have A:=h j u;have e:=Go.Sort.get_flatK (λi=>[enc i]) 1 d j (by omega)
 rw[e];simpa [Nat.mod_one]using A
theorem Xs{ρ:Ren}(L:SlLaysF0.n6 P ρ)(aE:∀w,(isAgg (ρ.t 24)).run P w=.ok true w)(zE:∀w,(Go.sizeOf (ρ.t 24)).run P w=.ok 1 w)(ht:t.one=true){d:Nat}{g:FuncId}(hg:Nat.blt g 1000000=true)(hcg:AA P g=true){G:t.T×t.T->Option Int}(hG:FT P g ⟨[(true,t),(true,t)],[(false,0,.int .i64)]⟩ G)
  (ok:t.T->Prop) (cf:t.T->t.T->Int) (hok:∀x y,ok x->ok y->G (x,y)=some (cf x y)) (hO:Go.Sort.SWO (ltOf cf)) (hA:∀x y,ltOf cf x y=false->ltOf cf y x=false->x=y) (hcell1:∀(D:Nat->Prop) (w:World) (x:t.T) (cv:Value) (fp:Nat->Prop),Rel D w noR (cV t d x) cv fp->cv.oneCell'=true):
  FTU P (ρ.f 6) ⟨0,[(false,.clo g .unit)],.sl t,d+1,false,[]⟩ (λ_ xs=>Xt ok cf xs):=by
 intro z (xs:List t.T) u hu;have hw1:t.w=1:=by cases t<;>first|rfl|cases ht
 have hu:Xt ok cf xs=some u:=hu;unfold Xt at hu;split at hu
 case isFalse=>cases hu
 rename_i hcond;cases hu;obtain⟨hn,hbig,hall⟩:=hcond;intro w D H cvs hk htab hD hHD hsz hrel0 hargs;have hsz:cvs.size=2:=hsz;have h0:Rel D w noR (arr (decide (0<d+1)) t.w (tyV t (d+1-1)) t.dflt xs) (cvs.getD 0 undef) H:=hrel0
 have e0:arr (decide (0<d+1)) t.w (tyV t (d+1-1)) t.dflt xs=V.nd true true 1 xs.length (λi k=>(tyV t d (xs.getD i t.dflt)).getD k .dead):=by
  rw[dT (Nat.succ_pos d),hw1];rfl
 rw[e0]at h0;have O:=hargs 1 (show 1<2 from Nat.lt_succ_self 1) (show(1:Nat)≠0 from Nat.one_ne_zero)
 have O:Rel D w noR (.many (.cl g) 0 λk=>(tyV .unit 0 ()).getD k .dead) (cvs.getD 1 undef) noF:=O
 obtain⟨cs1,_,hpk,hcs1,_⟩:=O;have hc1:cvs.getD 1 undef=.func (.func g) #[] #[]:=by
  have hp:cvs.getD 1 undef=WJ g cs1:=hpk;rw[hp,Pq hg,Array.eq_empty_of_size_eq_zero hcs1]
 rcases h0 with⟨h,_⟩|⟨b,o,cap,F,hcv,hcap,hmax,_,Z,_,hown⟩
 .omega
 obtain⟨⟨bcs,bT,hblk,hroom⟩,hFb,hFd,hHiff⟩:=hown rfl
 have Z:∀i:Fin xs.length,∃x,w.cell? ⟨b,o+i.val,none⟩=some x/\Rel D w noR (cV t d (xs.getD i.val t.dflt)) x (F i.val 0):=by
  intro i;obtain⟨x,hx,hr⟩:=Z i.val 0 i.isLt (by omega)
  refine⟨x,by simpa using hx,?_⟩
  have hr:Rel D w noR ((tyV t d (xs.getD i.val t.dflt)).getD 0 V.dead) x (F i.val 0):=hr;rw[Bh ht]at hr;exact hr
 let enc:Fin xs.length->Value:=λi=>Classical.choose (Z i)
 have henc:∀i:Fin xs.length,w.cell? ⟨b,o+i.val,none⟩=some (enc i)/\Rel D w noR (cV t d (xs.getD i.val t.dflt)) (enc i) (F i.val 0):=λi=>Classical.choose_spec (Z i)
 haveI:Inhabited (Fin xs.length):=⟨⟨0,hn⟩⟩
 let dd:Array (Fin xs.length):=Array.ofFn λi=>i
 have A:dd.size=xs.length:=Array.size_ofFn
 have hddi:∀j (hj:j<xs.length),dd[j]! =⟨j,hj⟩:=by
  intro j hj;have:j<dd.size:=by rw[A];exact hj
  rw[getElem!_pos dd j this];exact Array.getElem_ofFn _
 have hblt:b<w.heap.size:=by
  obtain⟨fz,hb,_⟩:=hblk;exact(Array.getElem?_eq_some_iff.1 hb).1
 have hbH:H b:=(hHiff b).2 (.inl rfl);have hFH:∀i,i<xs.length->∀c,F i 0 c->H c:=λi hi c E=>(hHiff c).2 (.inr ⟨i,0,hi,by omega,E⟩)
 have hFlt:∀i:Fin xs.length,∀c,F i.val 0 c->c<w.heap.size:=λi c E=>Rel.lt _ _ _ (henc i).2 c E
 have hFne:∀i:Fin xs.length,∀c,F i.val 0 c->c≠b:=λi c E e=>hFb i.val 0 i.isLt (by omega) (e▸E)
 have hDne:∀c,D c->c≠b:=λc E e=>hHD b hbH (e▸E)
 have hH:Go.Sort.Holds enc w b o dd:=by
  intro j hj;rw[A]at hj;rw[hddi j hj];have O:=(henc ⟨j,hj⟩).1;exact⟨O,BW.frozen hblk O⟩
 have hone:OneCell enc:=λi=>hcell1 _ _ _ _ _ (henc i).2
 have hmem:∀i:Fin xs.length,xs.getD i.val t.dflt∈xs:=λi=>by
  rw[gDE,gEE i.isLt];exact List.getElem_mem _
 have hO':Go.Sort.SWO (ltOf λi j:Fin xs.length=>cf (xs.getD i.val t.dflt) (xs.getD j.val t.dflt)):=⟨λx=>hO.irrefl _,λx y z=>hO.trans _ _ _,λx y z=>hO.ntrans _ _ _⟩
 have hfrz:∀x:t.T,Go.Ve.frz (cV t d x)=cV t 0 x:=λx=>by
  have O:=Be t d x;rw[Bh ht,Bh ht]at O;exact List.singleton_inj.1 O
 have hcmp:CmpLays P g #[] (λi=>[enc i]) 1 (λi j:Fin xs.length=>cf (xs.getD i.val t.dflt) (xs.getD j.val t.dflt)) b o dd.size w:=by
  intro m os dk hdk i j;rw[Lr];rw[Array.append_empty];obtain⟨W,hW⟩:∃W,W=sortWorld enc w b o m dk os:=⟨_,rfl⟩;rw[<-hW];have hWb:∀c,c≠b->c<w.heap.size->W.heap[c]? =w.heap[c]?:=λc O Y=>by rw[hW];exact DN O Y
  have hWs:w.heap.size<=W.heap.size:=by rw[hW];simp[sortWorld,Go.Sort.grow,Go.Sort.putRow,Go.Sort.mapBlock,Go.Sort.ahead]
  have hkW:Wok W:=hk.same λp hp=>hWb _ (λe=>htab p hp (e▸hbH)) (hk.lt hp)
  have hrel:∀k:Fin xs.length,Rel (λc=>D c\/∃k:Fin xs.length,F k.val 0 c) W noR (cV t 0 (xs.getD k.val t.dflt)) (enc k) noF:=by
   intro k;have O:=Rel.frz _ _ _ (henc k).2;rw[hfrz]at O;refine Rel.mono (λc E=>E.imp (λh=>h) λh=>⟨k,h⟩) (λ_ _ h=>h) _ _ _ (λc E=>?_) O
   rcases E with(E|E)|E
   .exact hWb c (hDne c E) (hD c E)
   .exact hWb c (hFne k c E) (hFlt k c E)
   .exact E.elim
  have hag:∀k:Fin xs.length,Rel (λc=>D c\/∃k:Fin xs.length,F k.val 0 c) W noR (Ag (tyV t 0 (xs.getD k.val t.dflt))) (.agg #[enc k]) noF:=by
   intro k;rw[Bh ht];refine⟨#[enc k],λ_=>noF,rfl,rfl,λq hq=>?_,λ_ _ _ _ _ _ h=>h.elim,λb=>⟨λh=>h.elim,fun⟨_,_,h⟩=>h.elim⟩⟩
   have hq:q<1:=hq;obtain rfl:q=0:=by omega
   exact hrel k
  have hfc:=hG (xs.getD i.val t.dflt,xs.getD j.val t.dflt) _ (hok _ _ (hall _ (hmem i)) (hall _ (hmem j))) W (λc=>D c\/∃k:Fin xs.length,F k.val 0 c) #[.agg #[enc i],.agg #[enc j]] hkW (λc E=>Nat.lt_of_lt_of_le (E.elim (hD c) fun⟨k,h⟩=>hFlt k c h) hWs) rfl (λq hq=>by
   have hq:q<2:=hq
   match q,hq with
   |0,_=>exact hag i
   |1,_=>exact hag j)
  refine hfc.mono ?_
  rintro e w' ⟨cv,fp,D',rfl,hB,hr,_⟩
  have hcv2:cv=.int .i64 (cf (xs.getD i.val t.dflt) (xs.getD j.val t.dflt)):=hr.1;exact⟨by rw[hcv2],Vm hB⟩
 have hcvs:cvs= #[.slice (some ⟨b,o,none⟩) dd.size cap,.func (.func g) #[] #[]]:=by
  apply Array.ext
  .simpa using hsz
  .intro q O Y
   have Y:q<2:=Y
   match q,Y with
   |0,_=>
    have e:cvs[0]=cvs.getD 0 undef:=by simp[hsz]
    rw[e,hcv,A];rfl
   |1,_=>
    have e:cvs[1]=cvs.getD 1 undef:=by simp[hsz]
    rw[e,hc1];rfl
 show Calls P (ρ.f 6) cvs w _;have hcv0:=hcv;rw[hcvs];refine(AnyQ.slices_SortFunc L 1 aE zE (λi=>[enc i]) (λ_=>rfl) (λi v hv=>by rw[List.mem_singleton.1 hv];exact hone i) _ hO' g #[] b o cap dd w (KQ hcg) hcmp (holds1 hH) hblt (by rw[A];exact hbig)).mono ?_
 rintro e w' ⟨rfl,J,m,os,hperm,hsort,rfl⟩
 rw[Lr];obtain⟨B,_,hpm⟩:=hperm;rw[A]at B;have hpm:J.toList.Perm dd.toList:=by
  have e1:J.extract 0 dd.size=J:=by
   apply Array.ext_getElem?;intro q;rw[Array.getElem?_extract];simp only[Nat.zero_add,Nat.sub_zero,A,B,Nat.min_self];split
   .rfl
   .exact(Array.getElem?_eq_none (by omega)).symm
  have e2:dd.extract 0 dd.size=dd:=by simp
  rw[e1,e2]at hpm;exact hpm
 have hdn:dd.toList.Nodup:=by
  rw[List.Nodup,List.pairwise_iff_getElem];intro i j hi hj hij he;have hi:i<xs.length:=by simpa [A]using hi
  have hj:j<xs.length:=by simpa [A]using hj
  have e1:∀q (hq:q<xs.length),dd.toList[q]'(by simpa [A]using hq)=⟨q,hq⟩:=λq hq=>by
   rw[<-hddi q hq,getElem!_pos dd q (by rw[A];exact hq)];rfl
  rw[e1 i hi,e1 j hj]at he;have:=congrArg Fin.val he;simp at this;omega
 have hdn':J.toList.Nodup:=hpm.nodup_iff.2 hdn
 have U:∀i (hi:i<xs.length),J.toList[i]'(by simpa [B]using hi)=J[i]!:=λi hi=>by
  rw[getElem!_pos J i (by rw[B];exact hi)];rfl
 have hinj:∀i j,i<xs.length->j<xs.length->J[i]! =J[j]!->i=j:=by
  intro i j hi hj he;rw[<-U i hi,<-U j hj]at he;exact(List.getElem_inj hdn').1 he
 have hsurj:∀k:Fin xs.length,∃i,i<xs.length/\J[i]! =k:=by
  intro k;have O:k∈dd.toList:=by
   have:=hddi k.val k.isLt;rw[getElem!_pos dd k.val (by rw[A];exact k.isLt)]at this
   have Y:dd[k.val]'(by rw[A];exact k.isLt)∈dd.toList:=by simp
   rw[this]at Y;exact Y
  have Y:=hpm.mem_iff.2 O;obtain⟨i,hi,he⟩:=List.getElem_of_mem Y;have hi:i<xs.length:=by simpa [B]using hi
  exact⟨i,hi,by rw[<-U i hi];exact he⟩
 have hxs:dd.toList.map (λk:Fin xs.length=>xs.getD k.val t.dflt)=xs:=by
  apply List.ext_getElem
  .simp[A]
  .intro i O Y
   have e:dd.toList[i]'(by simpa [A]using Y)=⟨i,Y⟩:=by
    rw[<-hddi i Y,getElem!_pos dd i (by rw[A];exact Y)];rfl
   rw[List.getElem_map,e];simp[gDE,Y]
 have hys:J.toList.map (λk:Fin xs.length=>xs.getD k.val t.dflt)=Ci cf xs:=by
  refine I4 hO hA ?_ ?_
  .have:=hpm.map λk:Fin xs.length=>xs.getD k.val t.dflt
   rw[hxs]at this;exact this
  .rw[List.pairwise_map,List.pairwise_iff_getElem]
   intro i j hi hj hij;have hi:i<xs.length:=by simpa [B]using hi
   have hj:j<xs.length:=by simpa [B]using hj
   have:=hsort i j (Nat.zero_le _) hij (by rw[A];exact hj)
   rw[U i hi,U j hj];show(!ltOf cf _ _)=true;rw[Bool.not_eq_true'];exact this
 have hysi:∀i (hi:i<xs.length),(Ci cf xs).getD i t.dflt=xs.getD (J[i]!).val t.dflt:=by
  intro i hi;rw[<-hys,gDE,List.getElem?_map,gEE (by simpa [B]using hi),U i hi]
  rfl
 have hlen:(Ci cf xs).length=xs.length:=by rw[<-hys];simp[B]
 have hSW:SW enc w b o J (sortWorld enc w b o m J os):=⟨m,os,rfl⟩;have hHo:=hSW.holds hblt hH (by rw[B,A])
 have hWb:∀c,c≠b->c<w.heap.size->(sortWorld enc w b o m J os).heap[c]? =w.heap[c]?:=λc O Y=>DN O Y
 have hWs:w.heap.size<=(sortWorld enc w b o m J os).heap.size:=by simp[sortWorld,Go.Sort.grow,Go.Sort.putRow,Go.Sort.mapBlock,Go.Sort.ahead]
 refine⟨.tuple #[],noF,D,H,rfl,⟨rfl,rfl,rfl,hWs,λc E hn=>hWb c (λe=>hn (e▸hbH)) E,by simp[sortWorld,Go.Sort.grow,Go.Sort.putRow,Go.Sort.mapBlock,Go.Sort.ahead]⟩,?_,?_,λ_ h=>h.elim,λ_ h=>.inl h,λ_ h=>h.elim,λ_ h=>h,λ_ h=>.inl h,λc E=>⟨Nat.lt_of_lt_of_le (hD c E) hWs,λh=>h,λh=>hHD c h E⟩⟩
 .exact⟨#[],λ_=>noF,rfl,rfl,λk hk=>absurd hk (Nat.not_lt_zero _),λk _ _ hk=>absurd hk (Nat.not_lt_zero _),λc=>⟨λh=>h.elim,fun⟨k,hk,_⟩=>absurd hk (Nat.not_lt_zero _)⟩⟩
 .have e1:(#[Value.slice (some ⟨b,o,none⟩) dd.size cap,.func (.func g) #[] #[]]:Array Value).getD 0 undef=.slice (some ⟨b,o,none⟩) dd.size cap:=rfl
  show Rel D _ noR (arr (decide (0<d+1)) t.w (tyV t (d+1-1)) t.dflt (Ci cf xs)) _ H
  have e2:arr (decide (0<d+1)) t.w (tyV t (d+1-1)) t.dflt (Ci cf xs)=V.nd true true 1 xs.length (λi k=>(tyV t d ((Ci cf xs).getD i t.dflt)).getD k .dead):=by
   rw[<-hlen,dT (Nat.succ_pos d),hw1];rfl
  rw[e2];refine .inr ⟨b,o,cap,λi _=>F (J[i]!).val 0,by rw[A];rfl,hcap,hmax,(λh=>by cases h),λi k hi hk=>?_,(λh=>by cases h),λ_=>⟨?_,λi k hi hk=>hFb _ 0 (J[i]!).isLt (by omega),λi k i' k' c hi hk hi' hk' hne O Y=>?_,λc=>?_⟩⟩
  .obtain rfl:k=0:=by omega
   have O:=(hHo i (by rw[B];exact hi)).1
   refine⟨enc J[i]!,by simpa using O,?_⟩
   show Rel D _ noR ((tyV t d ((Ci cf xs).getD i t.dflt)).getD 0 V.dead) (enc J[i]!) (F (J[i]!).val 0);rw[Bh ht];show Rel D _ noR (cV t d ((Ci cf xs).getD i t.dflt)) _ _;rw[hysi i hi];refine Rel.mono (λ_ h=>h) (λ_ _ h=>h) _ _ _ (λc E=>?_) (henc J[i]!).2
   rcases E with E|E
   .exact hWb c (hDne c E) (hD c E)
   .exact hWb c (hFne _ c E) (hFlt _ c E)
  .obtain⟨fz,hb1,hb2⟩:=hblk
   refine⟨Go.Sort.putCells enc o J bcs,bT,⟨fz,?_,?_⟩,?_⟩
   .unfold sortWorld
    rw[Go.Sort.heap_grow_old _ _ (by simpa [Go.Sort.putRow,Go.Sort.mapBlock,Go.Sort.ahead]using hblt)]
    simp[Go.Sort.putRow,Go.Sort.mapBlock,Go.Sort.ahead,Array.getElem?_modify,hb1,Go.Sort.onCells]
   .simpa [Go.Sort.putCells]using hb2
   .simpa [Go.Sort.putCells]using hroom
  .obtain rfl:k=0:=by omega
   obtain rfl:k'=0:=by omega
   have hii:i≠i':=by rcases hne with h|h<;>omega
   refine hFd (J[i]!).val 0 (J[i']!).val 0 c (J[i]!).isLt (by omega) (J[i']!).isLt (by omega) (.inl λe=>hii (hinj i i' hi hi' (Fin.ext e))) O Y
  .rw[hHiff]
   constructor
   .rintro (h|⟨i,k,hi,hk,h⟩)
    .exact .inl h
    .obtain rfl:k=0:=by omega
     obtain⟨j,hj,he⟩:=hsurj ⟨i,hi⟩;exact .inr ⟨j,0,hj,by omega,by show F (J[j]!).val 0 c;rw[he];exact h⟩
   .rintro (h|⟨i,k,hi,hk,h⟩)
    .exact .inl h
    .exact .inr ⟨(J[i]!).val,0,(J[i]!).isLt,by omega,h⟩
def oneSl(D:Nat->Prop)(w:World)(x:(Ty.sl t).T)(cv:Value)(fp:Nat->Prop)(h:Rel D w noR (cV (.sl t) d x) cv fp):cv.oneCell'=true:=by
 rcases h with⟨_,_,A,_⟩|⟨b,o,cap,F,e,_⟩
 .obtain⟨a,u⟩:=CF A
  rw[u];rfl
 .rw[e];rfl
end Go.Ve


namespace Go.Proofs
open Go.Shelf
def Try.sortL79_ren:Go.Shelf.Ren:=⟨fun|6=>79|15=>123|14=>122|28=>160|29=>161|20=>152|21=>153|22=>154|23=>155|24=>156|25=>157|26=>158|27=>159|46=>188|47=>189|48=>190|49=>191|50=>192|57=>200|n=>n,fun|22=>29|24=>63|25=>118|3=>3|39=>88|0=>0|53=>193|55=>195|4=>4|46=>186|45=>185|50=>190|5=>5|9=>9|66=>212|70=>216|76=>222|77=>223|n=>n,fun|n=>n⟩
def Try.sortL79:Go.Proofs.SlLaysF0.n6 Try.prog Try.sortL79_ren:={
 mixed:=by kernel_rfl
 f6:=⟨Try.f79.name,by decide,Try.func79.trans (congrArg some (by kernel_rfl))⟩
 f14:=⟨Try.f122.name,by decide,Try.func122.trans (congrArg some (by kernel_rfl))⟩
 f15:=Try.func123.trans (congrArg some (by kernel_rfl))
 f20:=⟨Try.f152.name,by decide,Try.func152.trans (congrArg some (by kernel_rfl))⟩
 f21:=⟨Try.f153.name,by decide,Try.func153.trans (congrArg some (by kernel_rfl))⟩
 f22:=⟨Try.f154.name,by decide,Try.func154.trans (congrArg some (by kernel_rfl))⟩
 f23:=⟨Try.f155.name,by decide,Try.func155.trans (congrArg some (by kernel_rfl))⟩
 f24:=⟨Try.f156.name,by decide,Try.func156.trans (congrArg some (by kernel_rfl))⟩
 f25:=⟨Try.f157.name,by decide,Try.func157.trans (congrArg some (by kernel_rfl))⟩
 f26:=⟨Try.f158.name,by decide,Try.func158.trans (congrArg some (by kernel_rfl))⟩
 f27:=⟨Try.f159.name,by decide,Try.func159.trans (congrArg some (by kernel_rfl))⟩
 f28:=Try.func160.trans (congrArg some (by kernel_rfl))
 f29:=Try.func161.trans (congrArg some (by kernel_rfl))
 f46:=⟨Try.f188.name,by decide,Try.func188.trans (congrArg some (by kernel_rfl))⟩
 f47:=Try.func189.trans (congrArg some (by kernel_rfl))
 f48:=Try.func190.trans (congrArg some (by kernel_rfl))
 f49:=⟨Try.f191.name,by decide,Try.func191.trans (congrArg some (by kernel_rfl))⟩
 f50:=⟨Try.f192.name,by decide,Try.func192.trans (congrArg some (by kernel_rfl))⟩
 f57:=⟨Try.f200.name,by decide,Try.func200.trans (congrArg some (by kernel_rfl))⟩
 t0:=Try.underlying0
 a0:=Try.isAgg0
 z0:=Try.sizeOf0
 v0:=Try.zeroValue0
 t3:=Try.underlying3
 a3:=Try.isAgg3
 z3:=Try.sizeOf3
 v3:=Try.zeroValue3
 t4:=Try.underlying4
 a4:=Try.isAgg4
 z4:=Try.sizeOf4
 v4:=Try.zeroValue4
 t5:=Try.underlying5
 a5:=Try.isAgg5
 z5:=Try.sizeOf5
 v5:=Try.zeroValue5
 t9:=Try.underlying9
 a9:=Try.isAgg9
 z9:=Try.sizeOf9
 v9:=Try.zeroValue9
 t22:=Try.underlying29
 a22:=Try.isAgg29
 z22:=Try.sizeOf29
 v22:=Try.zeroValue29
 t25:=Try.underlying118
 a25:=Try.isAgg118
 z25:=Try.sizeOf118
 v25:=Try.zeroValue118
 t39:=Try.underlying88
 a39:=Try.isAgg88
 z39:=Try.sizeOf88
 v39:=Try.zeroValue88
 t45:=Try.underlying185
 a45:=Try.isAgg185
 z45:=Try.sizeOf185
 v45:=Try.zeroValue185
 t46:=Try.underlying186
 a46:=Try.isAgg186
 z46:=Try.sizeOf186
 v46:=Try.zeroValue186
 t50:=Try.underlying190
 a50:=Try.isAgg190
 z50:=Try.sizeOf190
 v50:=Try.zeroValue190
 t53:=Try.underlying193
 a53:=Try.isAgg193
 z53:=Try.sizeOf193
 v53:=Try.zeroValue193
 t55:=Try.underlying195
 a55:=Try.isAgg195
 z55:=Try.sizeOf195
 v55:=Try.zeroValue195
 t66:=Try.underlying212
 a66:=Try.isAgg212
 z66:=Try.sizeOf212
 v66:=Try.zeroValue212
 t70:=Try.underlying216
 a70:=Try.isAgg216
 z70:=Try.sizeOf216
 v70:=Try.zeroValue216
 t76:=Try.underlying222
 a76:=Try.isAgg222
 z76:=Try.sizeOf222
 v76:=Try.zeroValue222
 t77:=Try.underlying223
 a77:=Try.isAgg223
 z77:=Try.sizeOf223
 v77:=Try.zeroValue223}
end Go.Proofs
namespace Go.Ve.D
open Go Go.Ve Go.Proofs
def S79:AdD:=⟨0,[(false,.clo 80 .unit)],(.sl (.sl (.sl (.int .i64)))),3,false,[]⟩
noncomputable def G79(_:Unit)(x:List (List (List Int))):Option (Unit×List (List (List Int))):=Xt Qp AV x
def a79:AA Try.prog 79=true:=by kernel_rfl
theorem c79:FTU Try.prog 79 S79 G79:=Xs (ρ:=Try.sortL79_ren) Try.sortL79 (λw=>by kernel_rfl) (λw=>by kernel_rfl) (t:=.sl (.sl (.int .i64))) rfl (d:=2) (g:=80) rfl c80.1 c80.2 Qp AV (λ_ _ u e=>p80 u e) swoLL AbY oneSl
end Go.Ve.D


namespace Go.Ve.D
open Go Go.Ve Go.Proofs Go.Proofs.Try
set_option maxRecDepth 100000
open IntKind
noncomputable section
def S39:Sig:=⟨[(false,(.ptr yS)),(false,yI)],[(false,3,(.sl yM)),(false,0,.bool)]⟩
def E39:I0:=⟨⟨TB,[⟨72,S72,G72⟩,⟨73,S73,G73⟩,⟨75,S75,G75⟩,⟨74,S74,G74⟩,⟨77,S77,G77⟩,⟨76,S10076,G10076⟩,⟨80,S80,G80⟩],[],[],⟨52,[21,3000006],0⟩,[⟨79,S79,G79⟩],[]⟩,[(3,[6,7],[2,1006002]),(3,[1000003,6,7],[]),(6,[6,23],[2,1006002,2000007,2000022]),(6,[1000006,6,7,22,23],[])],[]⟩
def G39(x:(Sf×Int)):Option (LLL×Bool):=((G72 x.1).bind λv0=>if True then(Ap (fun(u:Int×LLL)=>bif decide (u.1<u.2.length)then(G73 x.1).bind λA=>(Ap (fun(e:Int×LLL)=>bif decide (e.1<A.length)then if 0<=e.1/\e.1<A.length then if 0<=u.1/\u.1<e.2.length then(G75 (x.1,((A.getD e.1.toNat [])::[]))).bind λF=>(G74 (x.1,e.2.getD u.1.toNat [],F)).bind λB=>(G10076 (e.2,B)).bind λE=>bif E then some (LO.next (i64.wrap (e.1+1),e.2))else bif decide ((e.2.length:Int)=x.2)then BF (BF (some (([]:LLL),false)))else if True then if(e.2.length+(B::([]:LLL)).length)<=5864062014805 then some (LO.next (i64.wrap (e.1+1),e.2++(B::([]:LLL))))else none else none else none else none else some (LO.brk 2 e)) (0,u.2)).bind (LO.fin λH e=>if H=2 then some (LO.next (i64.wrap (u.1+1),e.2))else none)else some (LO.brk 0 u)) (0,(v0::([]:LLL)))).bind (LO.fin λJ u=>if J=0 then Option.bind (bif decide (0<(u.2.length:Int))then G79 () u.2 else none) (fun(A:Unit×LLL)=>some (A.2,true))else none)else none)
def t39:tfn E39 f39 S39=G39:=by kernel_rfl
def c39:FT prog 39 S39 G39:=WC Jh (fCs c72 (fCs c73 (Ig a75 c75 (Ig a74 c74 (fCs c77 (fCs c10076 (fCs c80 Aj))))))) Cv Cw mixed func39 (by kernel_rfl) t39 (AaP a79 rfl c79 HE)
def a39:AA prog 39=true:=by kernel_rfl
def S9:Sig:=⟨[(true,yS)],[(false,3,(.sl yM)),(false,0,yI)]⟩
def E9:I0:=⟨⟨TB,[⟨37,S37,G37⟩,⟨38,S38,G38⟩,⟨39,S39,G39⟩],[],[],⟨17,[1],0⟩,[],[]⟩,[],[]⟩
def G9(x:Sf):Option (LLL×Int):=((G37 x).bind λv0=>bif !v0 then some (([]:LLL),1)else(G38 x).bind λu=>bif decide (12<u)then some (([]:LLL),3)else(G39 (x,200)).bind λe=>bif !e.2 then some (([]:LLL),3)else some (e.1,0))
def t9:tfn E9 f9 S9=G9:=by kernel_rfl
def c9:FT prog 9 S9 G9:=WC Jh (fCs c37 (fCs c38 (Ig a39 c39 Aj))) Cv Cw mixed func9 (by kernel_rfl) t9
def a9:AA prog 9=true:=by kernel_rfl
def S3:Sig:=⟨[(true,yS)],[(false,0,.bool)]⟩
def E3:I0:=⟨⟨TB,[⟨6,S6,G6⟩,⟨8,S8,G8⟩,⟨7,S7,G7⟩,⟨9,S9,G9⟩,⟨10,S10,G10⟩,⟨11,S11,G11⟩,⟨14,S14,G14⟩],[⟨12,S12,G12⟩,⟨13,S13,G13⟩],[],⟨96,[1,54],0⟩,[],[]⟩,[],[]⟩
def G3(x:Sf):Option Bool:=((G6 (x,1048576)).bind λv0=>bif decide (v0<0)then some true else(G8 x).bind λv1=>(G7 v1).bind λA=>(G8 x).bind λJ=>(G9 J).bind λB=>(G10 (B.1,A.1)).bind λv5=>Option.bind (bif !v5 then some true else some (!decide (B.2=A.2))) (fun(v6:Bool)=>bif v6 then some false else(G8 x).bind λv7=>(G11 (J,v7)).bind λv8=>bif !v8 then some false else(G12 (J,1)).bind λZ=>Option.bind (bif decide (Z.1<0)then some true else(G10 (B.1,A.1)).bind λu=>some (!u)) (fun(u:Bool)=>Option.bind (bif u then some true else some (!decide (B.2=A.2))) (fun(Y:Bool)=>bif Y then some false else(G13 (B.1,1)).bind λe=>(G14 (e.2,1)).bind λH=>bif decide (H<0)then some false else bif !decide (H=e.1)then some false else(G8 x).bind λW=>(G9 W).bind λF=>(G10 (F.1,A.1)).bind λU=>Option.bind (bif !U then some true else some (!decide (F.2=A.2))) (fun(O:Bool)=>bif O then some false else(G14 (e.2,1)).bind λE=>bif decide (E<0)then some false else bif !decide (E=e.1)then some false else some true)))))
def t3:tfn E3 f3 S3=G3:=by kernel_rfl
def c3:FT prog 3 S3 G3:=WC Jh (fCs c6 (fCs c8 (fCs c7 (Ig a9 c9 (fCs c10 (fCs c11 (fCs c14 Aj))))))) (CB a12 c12 (CB a13 c13 Cv)) Cw mixed func3 (by kernel_rfl) t3
def a3:AA prog 3=true:=by kernel_rfl
end
end Go.Ve.D

