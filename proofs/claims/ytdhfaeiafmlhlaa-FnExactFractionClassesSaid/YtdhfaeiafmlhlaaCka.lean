/- The classes of labels, numbered in the order of their least elements: the program's map, the reference's list. -/
import Derived.Test.YtdhfaeiafmlhlaaCfe
set_option linter.all false
namespace Go.Ve.D
open Go Go.Ve
variable{a:Int}{l s x:List Int}{i:Nat}
def csS(s:List Int×List Int)(a:Int):List Int×List Int:=(s.1++[((s.2.findIdx (· ==a):Nat):Int)],bif s.2.contains a then s.2 else s.2++[a])
def cs(l:List Int):List Int×List Int:=l.foldl csS ([],[])
def Ade:cs (l++[a])=csS (cs l) a:=by simp[cs]
def KC(hi:i<l.length):cs (l.take (i+1))=csS (cs (l.take i)) (l.getD i 0):=by
 rw[<-HC 0 hi,Ade]
def UM:∀(i:Nat) (l:List Int),i<=l.length->(cs (l.take i)).1.length=i/\(cs (l.take i)).2.length<=i
 |0,l,_=>by simp[cs]
 |i+1,l,h=>by
  obtain⟨e,A⟩:=UM i l (by omega)
  rw[KC (by omega)]
  unfold csS;cases (cs (l.take i)).2.contains (l.getD i 0)<;>simp[e]<;>omega
theorem Abj(h:s.contains a=false):s.findIdx (· ==a)=s.length:=by
 rw[List.findIdx_eq_length];intro x e;have h:a∉s:=by simpa using h
 simp only[beq_eq_false_iff_ne,ne_eq]
 rintro rfl
 exact h e
def AcW(h:s.contains a=true):s.findIdx (· ==a)<s.length:=by
 rw[List.findIdx_lt_length];exact⟨a,by simpa using h,by simp⟩
theorem p176(h:s.length<=1048576)(a:Int):G176 (s,a)=some (bif s.contains a then((s.findIdx (· ==a):Nat):Int)else-1):=by
 unfold G176;cases F:s.contains a with
 |false=>
  refine AC (v:=.brk 0 (s.length:Int)) (AL (st:=λi:Nat=>(i:Int)) (n:=s.length) (λi hi=>?_) ?_ (λy=>by simp)) rfl
  .have A:¬s.getD i 0=a:=by
    intro e;have J:a∉s:=by simpa using F
    apply J;rw[<-e,gDE,gEE hi];exact List.getElem_mem hi
   simp only[Ad,hi,decide_true,cond_true,Aa hi,and_self,if_true,tNC,A,decide_false,cond_false];rw[Aj (by omega) (by omega)];rfl
  .simp only[Ad,Nat.lt_irrefl,decide_false,cond_false]
 |true=>
  have hj:=AcW F;generalize B:s.findIdx (· ==a)=j at hj
  have O:s.getD j 0=a:=by
   have:=List.findIdx_getElem (xs:=s) (p:=(· ==a)) (w:=by rw[B];exact hj)
   simp only[beq_iff_eq]at this;rw[gDE,gEE hj];simp only[B]at this;exact this
  refine AC (v:=.ret (j:Int)) (AL (st:=λi:Nat=>(i:Int)) (n:=j) (λi hi=>?_) ?_ (λy=>by simp)) rfl
  .have E:i<s.length:=by omega
   have A:¬s.getD i 0=a:=by
    intro e;have:=List.not_of_lt_findIdx (xs:=s) (p:=(· ==a)) (i:=i) (by rw[B];exact hi)
    rw[gDE,gEE E]at e;simp only[Option.getD_some]at e;simp[e]at this
   simp only[Ad,E,decide_true,cond_true,Aa E,and_self,if_true,tNC,A,decide_false,cond_false];rw[Aj (by omega) (by omega)];rfl
  .simp only[Ad,hj,decide_true,cond_true,Aa hj,and_self,if_true,tNC,O]
   rfl
theorem p129(h:x.length<=1048576):G129 x=some (cs x).1:=by
 unfold G129;refine AC (v:=.brk 0 ((x.length:Int),cs (x.take x.length))) (AL (st:=λi:Nat=>((i:Int),cs (x.take i))) (n:=x.length) (λi hi=>?_) ?_ (λy=>by simp)) ?_
 .obtain⟨E,B⟩:=UM i x (by omega)
  simp only[Ad,hi,decide_true,cond_true,Aa hi,and_self,if_true,tNC,p176 (s:=(cs (x.take i)).2) (by omega),Option.bind_some,KC hi]
  rw[Aj (by omega) (by omega)]
  unfold csS;cases A:(cs (x.take i)).2.contains (x.getD i 0)with
  |false=>
   rw[Abj A];simp only[cond_false,decide_true,cond_true,show((-1:Int)<0)=True by simp,List.length_cons,List.length_nil]
   rw[if_pos (by omega),if_pos (by omega)];rfl
  |true=>
   have e:¬ (((cs (x.take i)).2.findIdx (· ==x.getD i 0):Nat):Int)<0:=by omega
   simp only[cond_true,e,decide_false,cond_false,List.length_cons,List.length_nil];rw[if_pos (by omega)];rfl
 .simp only[Ad,Nat.lt_irrefl,decide_false,cond_false]
 .rw[List.take_length];rfl
def mpF(s:List Int):List (Int×Int):=s.zipIdx.map λp=>(p.1,(p.2:Int))
def Ng(a:Int):∀(s:List Int) (k:Nat),BO (.int .i64) (.int .i64) a ((s.zipIdx k).map λp=>(p.1,(p.2:Int)))=bif s.contains a then some (((k+s.findIdx (· ==a):Nat):Int))else none
 |[],k=>rfl
 |b::s,k=>by
  show(bif decide (a=b)then some (k:Int)else BO (.int .i64) (.int .i64) a ((s.zipIdx (k+1)).map λp=>(p.1,(p.2:Int))))=_
  rw[Ng a s (k+1),List.contains_cons,List.findIdx_cons];by_cases h:a=b
  .subst h;simp
  .have A:(a==b)=false:=by simpa using h
   have e:(b==a)=false:=by simpa using Ne.symm h
   simp only[h,decide_false,cond_false,A,e,Bool.false_or];cases s.contains a with
   |false=>rfl
   |true=>simp only[cond_true];congr 2;omega
def has_mp:Wp (.int .i64) (.int .i64) a (mpF s)=s.contains a:=by
 unfold Wp mpF;rw[Ng a s 0];cases s.contains a<;>rfl
def get_mp(h:s.contains a=true):Zb (.int .i64) (.int .i64) a (mpF s)=((s.findIdx (· ==a):Nat):Int):=by
 unfold Zb mpF;rw[Ng a s 0,h];simp
def AaL(a b:Int):∀(s:List (Int×Int)),BO (.int .i64) (.int .i64) a s=none->Pr (.int .i64) (.int .i64) a b s=s++[(a,b)]
 |[],_=>rfl
 |e::s,h=>by
  have h:(bif decide (a=e.1)then some e.2 else BO (.int .i64) (.int .i64) a s)=none:=h;show(bif decide (a=e.1)then(a,b)::s else e::Pr (.int .i64) (.int .i64) a b s)=_;cases hd:decide (a=e.1)with
  |true=>rw[hd]at h;cases h
  |false=>
   rw[hd]at h;rw[cond_false,AaL a b s h];rfl
def put_mp(h:s.contains a=false):Pr (.int .i64) (.int .i64) a (s.length:Int) (mpF s)=mpF (s++[a]):=by
 rw[AaL]
 .simp[mpF,List.zipIdx_append]
 .have:=Ng a s 0
  rw[h]at this;exact this
def AcE:(mpF s).length=s.length:=by simp[mpF]
def MH{o:List Int}{n:Nat}{v:Int}(A:o.length=i)(hi:i<n):(o++List.replicate (n-i) (0:Int)).set i v=(o++[v])++List.replicate (n-(i+1)) 0:=by
 have e:n-i=(n-(i+1))+1:=by omega
 rw[e,List.replicate_succ,List.set_append_right _ _ (by omega),A,Nat.sub_self]
 simp
theorem p139(h:x.length<=1048576):G139 x=some (cs x).1:=by
 unfold G139;rw[if_pos ⟨by omega,by omega,by omega,by omega⟩]
 refine AC (v:=.brk 0 ((x.length:Int),mpF (cs (x.take x.length)).2,(cs (x.take x.length)).1++List.replicate (x.length-x.length) 0)) (AL (st:=λi:Nat=>((i:Int),mpF (cs (x.take i)).2,(cs (x.take i)).1++List.replicate (x.length-i) 0)) (n:=x.length) (λi hi=>?_) ?_ (λy=>by simp)) ?_
 .obtain⟨e,E⟩:=UM i x (by omega)
  have B:((cs (x.take i)).1++List.replicate (x.length-i) (0:Int)).length=x.length:=by simp[e];omega
  simp only[Ad,hi,decide_true,cond_true,Aa hi,and_self,if_true,tNC,B,has_mp,AcE,KC hi];rw[Aj (by omega) (by omega)]
  unfold csS;cases A:(cs (x.take i)).2.contains (x.getD i 0)with
  |false=>
   rw[Abj A,put_mp A,MH e hi];rfl
  |true=>
   simp only[Bool.not_true,cond_false];rw[get_mp A,MH e hi];rfl
 .simp only[Ad,Nat.lt_irrefl,decide_false,cond_false]
 .rw[List.take_length,Nat.sub_self]
  show some ((cs x).1++[])=_;rw[List.append_nil]
theorem cs_ker{m:List Int}(Z:l.length=m.length)(h:∀i j,i<l.length->j<l.length->(l.getD i 0=l.getD j 0↔m.getD i 0=m.getD j 0)):
  (cs l).1=(cs m).1:=by
 have key:∀i,i<=l.length->∃P:List Nat,(∀p∈P,p<l.length)/\(cs (l.take i)).2=P.map (λp=>l.getD p 0)/\(cs (m.take i)).2=P.map (λp=>m.getD p 0)/\(cs (l.take i)).1=(cs (m.take i)).1:=by
  intro i
  induction i with
  |zero=>intro _;exact⟨[],by simp,rfl,rfl,rfl⟩
  |succ i Y=>
   intro hi;obtain⟨P,J,E,B,F⟩:=Y (by omega)
   have O:∀p∈P,((l.getD p 0==l.getD i 0)=(m.getD p 0==m.getD i 0)):=by
    intro p A;rw[Bool.eq_iff_iff,beq_iff_eq,beq_iff_eq];exact h p i (J p A) (by omega)
   have W:(cs (l.take i)).2.findIdx (· ==l.getD i 0)=(cs (m.take i)).2.findIdx (· ==m.getD i 0):=by
    rw[E,B];clear E B J
    induction P with
    |nil=>rfl
    |cons p P e=>
     simp only[List.map_cons,List.findIdx_cons];rw[O p (List.mem_cons_self ..),e λq U=>O q (mCM _ U)]
   have e2:(cs (l.take i)).2.contains (l.getD i 0)=(cs (m.take i)).2.contains (m.getD i 0):=by
    rw[E,B];clear E B J W
    induction P with
    |nil=>rfl
    |cons p P e=>
     simp only[List.map_cons,List.contains_cons];rw[e λq U=>O q (mCM _ U),Bool.beq_comm (a:=l.getD i 0),Bool.beq_comm (a:=m.getD i 0)]
     congr 1
     have:=O p (List.mem_cons_self ..);rw[Bool.eq_iff_iff]at this⊢;simp only[beq_iff_eq]at this⊢;exact this
   rw[KC (by omega),KC (l:=m) (by omega)]
   unfold csS;rw[<-e2];cases hc:(cs (l.take i)).2.contains (l.getD i 0)with
   |true=>exact⟨P,J,E,B,by rw[F,W]⟩
   |false=>
    refine⟨P++[i],?_,by simp[E],by simp[B],by rw[F,W]⟩
    intro p A;rcases List.mem_append.1 A with A|A
    .exact J p A
    .rw[List.mem_singleton.1 A];omega
 obtain⟨P,_,_,_,F⟩:=key l.length (Nat.le_refl _);rw[List.take_length]at F;rw[F,Z,List.take_length]
end Go.Ve.D


namespace Go.Ve.D
open Go Go.Ve
variable{v:Int}{j:List Int}{x:Nat}
def okJ(j:List Int):Prop:=∀x,x<j.length->0<=j.getD x 0/\j.getD x 0<=(x:Int)
def jn(j:List Int)(x:Nat):Nat:=(j.getD x 0).toNat
def rt(j:List Int):Nat->Nat->Nat
 |0,x=>x
 |f+1,x=>if jn j x=x then x else rt j f (jn j x)
def root(j:List Int)(x:Nat):Nat:=rt j x x
def K5(h:okJ j)(e:x<j.length):jn j x<=x:=by
 obtain⟨B,A⟩:=h x e;unfold jn;omega
def PL{j:List Int}(h:okJ j):∀(f x:Nat),x<j.length->x<=f->rt j f x=rt j x x
 |0,x,_,hf=>by
  obtain rfl:x=0:=by omega
  rfl
 |f+1,0,hx,_=>by
  have:=K5 h hx;show(if jn j 0=0 then 0 else _)=0
  rw[if_pos (by omega)]
 |f+1,x+1,hx,hf=>by
  have A:=K5 h hx;show(if jn j (x+1)=x+1 then x+1 else rt j f (jn j (x+1)))=(if jn j (x+1)=x+1 then x+1 else rt j x (jn j (x+1)))
  by_cases e:jn j (x+1)=x+1
  .rw[if_pos e,if_pos e]
  .rw[if_neg e,if_neg e,PL h f (jn j (x+1)) (by omega) (by omega),PL h x (jn j (x+1)) (by omega) (by omega)]
def BT(h:okJ j)(A:x<j.length):root j x=if jn j x=x then x else root j (jn j x):=by
 have B:=K5 h A;unfold root;cases x with
 |zero=>
  have:jn j 0=0:=by omega
  rw[if_pos this];rfl
 |succ x=>
  show(if jn j (x+1)=x+1 then x+1 else rt j x (jn j (x+1)))=_
  by_cases e:jn j (x+1)=x+1
  .rw[if_pos e,if_pos e]
  .rw[if_neg e,if_neg e,PL h x (jn j (x+1)) (by omega) (by omega)]
def HK(h:okJ j):∀x,x<j.length->root j x<=x/\jn j (root j x)=root j x:=by
 intro x
 induction x using Nat.strongRecOn with
 |_ x B=>
  intro A;have F:=K5 h A;rw[BT h A];by_cases e:jn j x=x
  .rw[if_pos e];exact⟨Nat.le_refl _,e⟩
  .rw[if_neg e]
   obtain⟨J,E⟩:=B (jn j x) (by omega) (by omega)
   exact⟨by omega,E⟩
def Abf{y:Nat}(A:x<j.length):jn (j.set x v) y=if y=x then v.toNat else jn j y:=by
 unfold jn;by_cases e:y=x
 .subst e;simp[A]
 .rw[if_neg e]
  simp[List.getElem?_set_ne (Ne.symm e)]
def Aa3(h:okJ j)(E:0<=v)(B:v<=x):okJ (j.set x v):=by
 intro y A;rw[List.length_set]at A;by_cases e:y=x
 .subst e;simp[A];omega
 .have:=h y A
  simpa [List.getElem?_set_ne (Ne.symm e)]using this
def halve(h:okJ j)(J:x<j.length)(O:jn j x≠x):okJ (j.set x (j.getD (jn j x) 0))/\∀y,y<j.length->root (j.set x (j.getD (jn j x) 0)) y=root j y:=by
 have Z:=K5 h J;obtain⟨g1,g2⟩:=h (jn j x) (by omega)
 have B:okJ (j.set x (j.getD (jn j x) 0)):=Aa3 h g1 (by omega)
 refine⟨B,λy=>?_⟩
 induction y using Nat.strongRecOn with
 |_ y F=>
  intro E;have U:=K5 h E;rw[BT B (by rw[List.length_set];exact E),BT h E,Abf J]
  by_cases e:y=x
  .subst e
   rw[if_pos rfl];have Y:(j.getD (jn j y) 0).toNat=jn j (jn j y):=rfl;have W:=K5 h (x:=jn j y) (by omega)
   rw[Y,if_neg (by omega),if_neg O,F (jn j (jn j y)) (by omega) (by omega),BT h (x:=jn j y) (by omega)]
   by_cases A:jn j (jn j y)=jn j y
   .rw[if_pos A,A,BT h (x:=jn j y) (by omega),if_pos A]
   .rw[if_neg A]
  .rw[if_neg e]
   by_cases A:jn j y=y
   .rw[if_pos A,if_pos A]
   .rw[if_neg A,if_neg A,F (jn j y) (by omega) (by omega)]
theorem link(h:okJ j){a b:Nat}(U:a<j.length)(Z:b<=a)(Y:jn j a=a)(W:jn j b=b):okJ (j.set a (b:Int))/\∀y,y<j.length->root (j.set a (b:Int)) y=if root j y=a then b else root j y:=by
 have A:okJ (j.set a (b:Int)):=Aa3 h (by omega) (by omega)
 refine⟨A,λy=>?_⟩
 induction y using Nat.strongRecOn with
 |_ y J=>
  intro E;have O:=K5 h E;rw[BT A (by rw[List.length_set];exact E),BT h E,Abf U]
  by_cases e:y=a
  .subst e
   rw[if_pos rfl,tNC,if_pos Y,if_pos rfl];by_cases F:b=y
   .rw[if_pos F,F]
   .rw[if_neg F,J b (by omega) (by omega),BT h (x:=b) (by omega),if_pos W,if_neg (by omega)]
  .rw[if_neg e]
   by_cases B:jn j y=y
   .rw[if_pos B,if_pos B,if_neg e]
   .rw[if_neg B,if_neg B,J (jn j y) (by omega) (by omega)]
end Go.Ve.D


namespace Go.Ve.D
open Go Go.Ve
variable{j:List Int}{n x:Nat}
theorem p137(h:n<=1048576):G137 (n:Int)=some (Ig n):=by
 unfold G137;rw[if_pos ⟨by omega,by omega,by omega,by omega⟩]
 rw[tNC];refine AC (v:=.brk 0 ((n:Int),Ig n++List.replicate (n-n) 0)) (AL (st:=λi:Nat=>((i:Int),Ig i++List.replicate (n-i) (0:Int))) (n:=n) (λi hi=>?_) ?_ (λy=>by simp)) ?_
 .have e:(Ig i++List.replicate (n-i) (0:Int)).length=n:=by simp[BW];omega
  simp only[List.length_replicate,Ad,hi,decide_true,cond_true,e,Aa hi,and_self,if_true,tNC];rw[Aj (by omega) (by omega),MH BW hi,OC];rfl
 .simp only[List.length_replicate,Ad,Nat.lt_irrefl,decide_false,cond_false]
 .rw[Nat.sub_self,List.replicate_zero,List.append_nil];rfl
def p79(h:n<=1048576):G79 (n:Int)=some (Ig n):=by
 unfold G79;rw[p137 h];rfl
def AcP(e:x<n):jn (Ig n) x=x:=by
 unfold jn;rw[Jo e];rfl
theorem XR:okJ (Ig n):=λx e=>by
 rw[BW]at e;rw[Jo e];omega
def N3(e:x<n):root (Ig n) x=x:=by
 rw[BT XR (by rw[BW];exact e),if_pos (AcP e)]
noncomputable def AdC:Int×List Int->Option (LO (Int×List Int) (Int×List Int)):=λv0=>if 0<=v0.1/\v0.1<v0.2.length then bif !decide ((v0.2.getD v0.1.toNat 0)=v0.1)then if 0<=v0.1/\v0.1<v0.2.length then if 0<=(v0.2.getD v0.1.toNat 0)/\(v0.2.getD v0.1.toNat 0)<(v0.2.length:Int)then if 0<=v0.1/\v0.1<v0.2.length then if 0<=v0.1/\v0.1<(v0.2.set v0.1.toNat (v0.2.getD (v0.2.getD v0.1.toNat 0).toNat 0)).length then some (LO.next ((v0.2.set v0.1.toNat (v0.2.getD (v0.2.getD v0.1.toNat 0).toNat 0)).getD v0.1.toNat 0,v0.2.set v0.1.toNat (v0.2.getD (v0.2.getD v0.1.toNat 0).toNat 0)))else none else none else none else none else some (LO.brk 0 v0)else none
def Adm(z:Int)(x:List Int):G138 z x=(Ar AdC (z,x)).bind (LO.fin λe v0=>if e=0 then some v0 else none):=rfl
def AaJ(A:x<j.length)(B:0<=j.getD x 0)(e:jn j x=x):AdC ((x:Int),j)=some (.brk 0 ((x:Int),j)):=by
 have:j.getD x 0=(x:Int):=by unfold jn at e;omega
 unfold AdC;simp only[Aa A,and_self,if_true,tNC,this,decide_true,Bool.not_true,cond_false]
def Y3(A:x<j.length)(J:0<=j.getD x 0/\j.getD x 0<=x)(e:jn j x≠x):AdC ((x:Int),j)=some (.next (j.getD (jn j x) 0,j.set x (j.getD (jn j x) 0))):=by
 have F:¬j.getD x 0=(x:Int):=by unfold jn at e;omega
 have E:0<=j.getD x 0/\j.getD x 0<(j.length:Int):=by omega
 unfold AdC;simp only[Aa A,and_self,if_true,tNC,F,E,decide_false,Bool.not_false,cond_true,List.length_set];have B:(j.set x (j.getD (j.getD x 0).toNat 0)).getD x 0=j.getD (j.getD x 0).toNat 0:=by simp[A]
 rw[B];rfl
def p138l:∀(x:Nat) (j:List Int),okJ j->x<j.length->∃B,Ar AdC ((x:Int),j)=some (.brk 0 ((root j x:Int),B))/\okJ B/\B.length=j.length/\∀y,y<j.length->root B y=root j y:=by
 intro x
 induction x using Nat.strongRecOn with
 |_ x Z=>
  intro j h A;have E:=h x A;have hl:=K5 h A;by_cases e:jn j x=x
  .refine⟨j,?_,h,rfl,λ_ _=>rfl⟩
   rw[A1,AaJ A E.1 e,BT h A,if_pos e];rfl
  .obtain⟨g1,g2⟩:=halve h A e
   obtain⟨k1,k2⟩:=h (jn j x) (by omega)
   have e2:j.getD (jn j x) 0=((jn j (jn j x):Nat):Int):=by unfold jn at k1⊢;omega
   have hl2:=K5 h (x:=jn j x) (by omega)
   obtain⟨B,Y,W,O,J⟩:=Z (jn j (jn j x)) (by omega) (j.set x (j.getD (jn j x) 0)) g1 (by rw[List.length_set];omega)
   rw[List.length_set]at O J;refine⟨B,?_,W,O,λy U=>by rw[J y U,g2 y U]⟩
   rw[A1,Y3 A E e];simp only[Option.bind_some];rw[show(j.getD (jn j x) 0,j.set x (j.getD (jn j x) 0))=(((jn j (jn j x):Nat):Int),j.set x (j.getD (jn j x) 0)) by rw[<-e2],Y,g2 _ (by omega)]
   have e3:root j (jn j (jn j x))=root j x:=by
    rw[BT h A,if_neg e,BT h (x:=jn j x) (by omega)]
    by_cases F:jn j (jn j x)=jn j x
    .rw[if_pos F,F,BT h (x:=jn j x) (by omega),if_pos F]
    .rw[if_neg F]
   rw[e3]
def p138(h:okJ j)(E:x<j.length):∃e,G138 (x:Int) j=some ((root j x:Int),e)/\okJ e/\e.length=j.length/\∀y,y<j.length->root e y=root j y:=by
 obtain⟨e,B,A⟩:=p138l x j h E;refine⟨e,?_,A⟩;rw[Adm,B];rfl
theorem p82(h:okJ j){a b:Nat}(U:a<j.length)(O:b<j.length):∃c F,G82 ((a:Int),(b:Int)) j=some (c,F)/\okJ F/\F.length=j.length/\
  ∀y,y<j.length->root F y=if root j y=max (root j a) (root j b)then min (root j a) (root j b)else root j y:=by
 obtain⟨Z,q1,q2,q3,Y⟩:=p138 h U;obtain⟨E,r1,W,r3,r4⟩:=p138 q2 (x:=b) (by omega)
 have ra:=HK h a U;have rb:=HK h b O;have e2:root Z b=root j b:=Y b O;have A:∀y,y<j.length->root E y=root j y:=λy B=>by rw[r4 y (by omega),Y y B]
 have fx:∀y,y<j.length->root j y=y->jn E y=y:=λy B e=>by
  have:=(HK W y (by omega)).2
  rw[A y B,e]at this;exact this
 have fr:∀y,y<j.length->root j (root j y)=root j y:=λy B=>by
  have:=HK h y B;rw[BT h (x:=root j y) (by omega),if_pos this.2]
 have fa:=fx (root j a) (by omega) (fr a U)
 have fb:=fx (root j b) (by omega) (fr b O)
 have hm:((max (root j a) (root j b):Nat):Int)=Adv (root j a:Int) (root j b:Int):=by unfold Adv;split<;>omega
 have J:((min (root j a) (root j b):Nat):Int)=minI (root j a:Int) (root j b:Int):=by unfold minI;split<;>omega
 have f1:jn E (max (root j a) (root j b))=max (root j a) (root j b):=by
  rcases Nat.le_total (root j a) (root j b)with e|e
  .rw[Nat.max_eq_right e];exact fb
  .rw[Nat.max_eq_left e];exact fa
 have f2:jn E (min (root j a) (root j b))=min (root j a) (root j b):=by
  rcases Nat.le_total (root j a) (root j b)with e|e
  .rw[Nat.min_eq_left e];exact fa
  .rw[Nat.min_eq_right e];exact fb
 obtain⟨l1,l2⟩:=link W (a:=max (root j a) (root j b)) (b:=min (root j a) (root j b)) (by omega) (by omega) f1 f2
 refine⟨!decide ((root j a:Int)=(root j b:Int)),_,?_,l1,by rw[List.length_set];omega,λy B=>by rw[l2 y (by omega),A y B]⟩
 unfold G82;have n0:(0:Int)<(j.length:Int):=by omega
 have n1:(0:Int)<(Z.length:Int):=by omega
 have n2:0<=((max (root j a) (root j b):Nat):Int)/\((max (root j a) (root j b):Nat):Int)<(E.length:Int):=by omega
 simp only[n0,decide_true,cond_true,q1,Option.bind_some,n1,r1,e2,<-hm,<-J,n2,and_self,if_true,tNC]
def Nb{X R S:Type}{f:X->Option (LO X R)}{I:Nat->X->Prop}{n:Nat}{x:X}{Q:LO X R->Prop}{k:LO X R->Option S}{Post:Option S->Prop}(J:I 0 x)
  (F:∀i,i<n->∀x,I i x->(∃y,f x=some (.next y)/\I (i+1) y)\/∃o,f x=some o/\(∀y,o≠.next y)/\Q o)
  (E:∀x,I n x->∃o,f x=some o/\(∀y,o≠.next y)/\Q o) (B:∀o,Q o->Post (k o)):Post (Option.bind (Ar f x) k):=by
 obtain⟨o,A,e⟩:=JG J F E;rw[A];exact B o e
def Aaa(j:List Int):List Int:=(List.range j.length).map λi=>(root j i:Int)
theorem p83(h:okJ j)(hp:0<j.length)(hb:j.length<=1048576):∃A,G83 () j=some ((cs (Aaa j)).1,A):=by
 unfold G83;rw[if_pos ⟨by omega,by omega,by omega,by omega⟩]
 rw[tNC];refine Nb (Post:=λo=>∃A,o=some ((cs (Aaa j)).1,A)) (Q:=λo=>∃A,o=LO.brk 0 ((j.length:Int),A,Aaa j)) (I:=λi (v:Int×List Int×List Int)=>v.1=(i:Int)/\okJ v.2.1/\v.2.1.length=j.length/\(∀y,y<j.length->root v.2.1 y=root j y)/\v.2.2=(List.range i).map (λi=>(root j i:Int))++List.replicate (j.length-i) 0) (n:=j.length) ⟨rfl,h,rfl,λ_ _=>rfl,by simp⟩ (λi hi v J=>?_) (λv J=>?_) λo ho=>?_
 rotate_left 2
 .obtain⟨A,rfl⟩:=ho
  refine⟨A,?_⟩;show(G139 (Aaa j)).bind _=_;rw[p139 (by simp[Aaa];omega)];rfl
 .obtain⟨W,e,U⟩:=v
  obtain⟨rfl,E,B,O,rfl⟩:=J;have B:e.length=j.length:=B;have F:((List.range i).map (λi=>(root j i:Int))++List.replicate (j.length-i) (0:Int)).length=j.length:=by simp;omega
  obtain⟨j2,q1,q2,Z,Y⟩:=p138 E (x:=i) (by rw[B];exact hi)
  have n0:(0:Int)<(e.length:Int):=by omega
  refine .inl ⟨(((i+1:Nat):Int),j2,((List.range i).map (λi=>(root j i:Int))++[(root e i:Int)])++List.replicate (j.length-(i+1)) 0),?_,?_⟩
  .simp only[Ad,hi,decide_true,cond_true,n0,q1,Option.bind_some,F,Aa hi,and_self,if_true,tNC]
   rw[Aj (by omega) (by omega),MH (by simp) hi]
   rfl
  .refine⟨rfl,q2,Z.trans B,λy hy=>by rw[Y y (by omega),O y hy],?_⟩
   show(List.map _ (List.range i)++[(root e i:Int)])++_=(List.range (i+1)).map _++_;rw[List.range_succ,List.map_append,show root e i=root j i from O i hi];rfl
 .obtain⟨W,e,U⟩:=v
  obtain⟨rfl,E,B,O,rfl⟩:=J;have B:e.length=j.length:=B;refine⟨_,?_,?_,e,rfl⟩
  .simp only[Ad,Nat.lt_irrefl,decide_false,cond_false]
   rw[Nat.sub_self,List.replicate_zero,List.append_nil];rfl
  .simp
end Go.Ve.D

