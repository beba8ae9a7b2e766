/- Monoids, a split idempotent: checked. -/
import Derived.Test.YtojjlnbnneemaaaDre
open List(range mem_range mem_append length_set set_set mem_singleton)
open Nat(zero_le not_lt_zero)
open Go.IntKind(i64 wrap)
set_option linter.all false
namespace Go.Ve.D
open Go Go.Ve
noncomputable section
def spB(c:Ca)(n m:Nat):Bool:=decide (c.1=(n:Int))&&decide (c.2.1.length=m)&&decide (c.2.2.1.length=m)&&decide (c.2.2.2.1.length=n)&&decide (c.2.2.2.2.length=m)&&
 ((range m).all λf=>decide ((c.2.2.2.2.getD f []).length=m)&&inn n (aF c f)&&inn n (aT c f)&&(range m).all λg=>if aT c f=aF c g then inn m (aC c f g)&&decide (aF c (aC c f g).toNat=aF c f)&&decide (aT c (aC c f g).toNat=aT c g)else decide (aC c f g<0))&&
 (range n).all λx=>inn m (aI c x)
theorem sp_of{c:Ca}{n m:Nat}(h:spB c n m=true):Sp c n m:=by
 unfold spB at h;simp only[bAE,decide_eq_true_eq]at h;obtain⟨⟨⟨⟨⟨⟨E,J⟩,Z⟩,Y⟩,W⟩,h6⟩,h7⟩:=h
 have row:=λf (u:f<m)=>by
  have:=aET.1 h6 f (mem_range.2 u);simp only[bAE,decide_eq_true_eq]at this;exact this
 have nat:∀{k:Nat}{a:Int},inn k a=true->∃x:Nat,x<k/\a=x:=λh=>by
  obtain⟨E,J⟩:=Io.1 h;exact⟨_,by omega,(Int.toNat_of_nonneg E).symm⟩
 refine⟨E,J,Z,Y,W,λf u=>(row f u).1.1.1,λf u=>nat (row f u).1.1.2,λf u=>nat (row f u).1.2,λx O=>nat (aET.1 h7 x (mem_range.2 O)),λf g u A B=>?_,λf g u A B=>?_⟩
 .have:=aET.1 (row f u).2 g (mem_range.2 A)
  rw[if_pos B]at this;simp only[bAE,decide_eq_true_eq]at this;obtain⟨k,U,e⟩:=nat this.1.1;rw[e]at this;exact⟨k,U,e,this.1.2,this.2⟩
 .have:=aET.1 (row f u).2 g (mem_range.2 A)
  rw[if_neg B,decide_eq_true_eq]at this;exact this
def mono(t:LL):Ca:=(1,(List.replicate t.length 0,(List.replicate t.length 0,([0],t))))
def p54{t:LL}{m:Nat}(h:Sp (mono t) 1 m)(u:m<=1000):G54 t=some (mono t):=by
 have A:t.length=m:=h.lc
 delta G54 ln
 refine ifD ⟨by omega,by omega,by omega,by omega⟩ (ifD ⟨by omega,by omega,by omega,by omega⟩ (Ao (p50 (by omega) λi B=>?_) rfl))
 have:=h.lr i (by omega)
 show(t.getD i []).length<=_;have e:(t.getD i []).length=m:=this;omega
def p36{s:Src}(h:OkS s):Tot (λr=>(∃m,m<=4/\Sp (mono r.1) 1 m)/\OkS r.2) (G36 () s):=by
 unfold G36;refine Ad (p38 h) λv A=>?_
 have u:=A.2
 refine An (λ_=>Ab trivial (Aa ⟨⟨1,by decide,?_⟩,u⟩)) λ_=>An (λ_=>Ab trivial (Aa ⟨⟨2,by decide,?_⟩,u⟩)) λ_=>An (λ_=>Ab trivial (Aa ⟨⟨2,by decide,?_⟩,u⟩)) λ_=>An (λ_=>Ab trivial (Aa ⟨⟨3,by decide,?_⟩,u⟩)) λ_=>
  An (λ_=>Ab trivial (Aa ⟨⟨3,by decide,?_⟩,u⟩)) λ_=>An (λ_=>Ab trivial (Aa ⟨⟨3,by decide,?_⟩,u⟩)) λ_=>An (λ_=>Ab trivial (Aa ⟨⟨4,by decide,?_⟩,u⟩)) λ_=>Ab trivial (Aa ⟨⟨3,by decide,?_⟩,u⟩)
 all_goals (dsimp only;exact sp_of (by decide))
def p158:Tot (λc=>Sp c 2 5) (G158 ()):=by
 unfold G158;exact Ab trivial (Aa (sp_of (by decide)))
theorem p172{a b:LI}(E:a.length<=1048576):Tot (λ_=>True) (G172 (a,b)):=by
 delta G172 ln lw an lt gd l0 sc nx bk
 refine Au (n:=a.length) (λi v=>v=(i:Int)) rfl (λi u v B=>?_) λv B=>?_
 .subst B
  refine Bh (v:=decide (i<b.length)) (by show(bif decide ((i:Int)<(a.length:Int))then some (decide ((i:Int)<(b.length:Int)))else _)=_;rw[ltD u,Af];rfl) (An (λA=>?_) λ_=>Aa (Aa trivial))
  have A:=B3 A;exact Ab (Ac u) (Ab (Ac A) (An (λ_=>Ab (Ac u) (Ab (Ac A) (H6 (Aa trivial)))) λ_=>Aa (wrD u E)))
 .subst B
  exact Bh (v:=false) (by show(bif decide ((a.length:Int)<(a.length:Int))then _ else _)=_;rw[ltf];rfl) (Aa (Aa trivial))
def p171{x:(Int×Int×LI)×Int×Int×LI}(h:x.1.2.2.length<=1048576):Tot (λ_=>True) (G171 x):=by
 unfold G171;exact An (λ_=>Aa trivial) λ_=>An (λ_=>Aa trivial) λ_=>Ad (p172 h) λ_ _=>Aa trivial
end
end Go.Ve.D


namespace Go.Ve.D
open Go Go.Ve
noncomputable section
variable{fr to:LI}{k n y:Nat}{α:Type}
abbrev P3:=Int×Int×LI
variable{p:P3}
abbrev d3:P3:=(0,0,[])
def wk(fr to:LI):Nat->LI->Nat->Prop
 |x,[],y=>x=y
 |x,e::es,y=>∃k z:Nat,e=(k:Int)/\k<fr.length/\fr.getD k 0=(x:Int)/\to.getD k 0=(z:Int)/\wk fr to z es y
def Vm{fr to:LI}:∀{J:LI}{x y k z:Nat},wk fr to x J y->k<fr.length->fr.getD k 0=(y:Int)->to.getD k 0=(z:Int)->wk fr to x (J++[(k:Int)]) z
 |[],x,y,k,z,h,A,E,B=>by
  have h:x=y:=h;subst h;exact⟨k,z,rfl,A,E,B,rfl⟩
 |e::J,x,y,k,z,h,A,E,B=>by
  obtain⟨j,u,a1,a2,a3,a4,a5⟩:=h;exact⟨j,u,a1,a2,a3,a4,Vm a5 A E B⟩
def Zu{fr to:LI}:∀{B:LI}{x y z:Nat},wk fr to x B y->wk fr to x B z->y=z
 |[],x,y,z,h,A=>by
  have h:x=y:=h;have A:x=z:=A;omega
 |e::B,x,y,z,h,A=>by
  obtain⟨j,u,a1,a2,a3,a4,a5⟩:=h;obtain⟨J,E,Z,Y,W,U,O⟩:=A;have:j=J:=by omega
  subst this;have:u=E:=by omega
  subst this;exact Zu a5 O
def Zv{fr to:LI}:∀{A es':LI}{x y z:Nat},wk fr to x A y->wk fr to y es' z->wk fr to x (A++es') z
 |[],es',x,y,z,h,h'=>by
  have h:x=y:=h;subst h;exact h'
 |e::A,es',x,y,z,h,h'=>by
  obtain⟨j,u,a1,a2,a3,a4,a5⟩:=h;exact⟨j,u,a1,a2,a3,a4,Zv a5 h'⟩
structure Gr(n:Nat)(fr to:LI):Prop where
 n3:n<=3
 le:fr.length<=3
 lt:to.length=fr.length
 up:∀k,k<fr.length->∃x y:Nat,fr.getD k 0=(x:Int)/\to.getD k 0=(y:Int)/\x<y/\y<n
def Vd(n:Nat)(fr to:LI)(p:P3):Prop:=∃x y:Nat,p.1=(x:Int)/\p.2.1=(y:Int)/\x<n/\y<n/\wk fr to x p.2.2 y/\p.2.2.length<=y
def Ext(fr to:LI)(L:List P3)(p:P3)(j:Nat):Prop:=∀e,e<j->fr.getD e 0=p.2.1->(p.1,to.getD e 0,p.2.2++[(e:Int)])∈L
def pw(n y:Nat):Nat:=4 ^ (n-1-y)
def wt(n:Nat):Nat->List P3->Nat
 |_,[]=>0
 |0,p::L=>pw n p.2.1.toNat+wt n 0 L
 |k+1,_::L=>1+wt n k L
def ZQ:1<=pw n y:=Nat.pow_pos (by decide)
def Lr{n:Nat}{p:P3}:∀{L:List P3}{k:Nat},k<=L.length->wt n k (L++[p])=wt n k L+pw n p.2.1.toNat
 |[],0,_=>by simp[wt]
 |q::L,0,_=>by
  show pw n _+wt n 0 (L++[p])=pw n _+wt n 0 L+_;rw[Lr (zero_le _)];omega
 |q::L,k+1,h=>by
  show 1+wt n k (L++[p])=1+wt n k L+_;rw[Lr (by simpa using h)];omega
def Vk{n:Nat}:∀{L:List P3}{k:Nat},k<L.length->wt n (k+1) L+pw n (L.getD k d3).2.1.toNat=wt n k L+1
 |q::L,0,_=>by
  show 1+wt n 0 L+pw n q.2.1.toNat=pw n q.2.1.toNat+wt n 0 L+1;omega
 |q::L,k+1,h=>by
  have:=Vk (n:=n) (L:=L) (k:=k) (by simpa using h)
  show 1+wt n (k+1) L+_=1+wt n k L+1;rw[List.getD_cons_succ];omega
theorem MW{n:Nat}:∀{L:List P3}{k:Nat},L.length<=wt n k L
 |[],_=>zero_le _
 |q::L,0=>by
  have:=MW (n:=n) (L:=L) (k:=0);have:=ZQ (n:=n) (y:=q.2.1.toNat);show L.length+1<=pw n _+wt n 0 L;omega
 |q::L,k+1=>by
  have:=MW (n:=n) (L:=L) (k:=k);show L.length+1<=1+wt n k L;omega
def qw(n y:Nat):Nat:=if y+1<n then pw n (y+1)else 0
def qw_3:3*qw n y+1<=pw n y:=by
 unfold qw;split
 .unfold pw
  have:n-1-y=(n-1-(y+1))+1:=by omega
  rw[this,Nat.pow_succ];have:=Nat.pow_pos (n:=n-1-(y+1)) (show 0<4 by decide)
  omega
 .have:=ZQ (n:=n) (y:=y);omega
def qw_le{x:Nat}(h:x<y)(u:y<n):pw n y<=qw n x:=by
 unfold qw pw;rw[if_pos (by omega)]
 exact Nat.pow_le_pow_right (by decide) (by omega)
def CB{L:List α}{d:α}(h:k<L.length):L.getD k d∈L:=by
 rw[gDE,gEE h];exact List.getElem_mem h
def Lo{L:List α}{p:α}(d:α)(h:p∈L):∃k,k<L.length/\L.getD k d=p:=by
 obtain⟨k,u,e⟩:=List.getElem_of_mem h;exact⟨k,u,by rw[gDE,gEE u];exact e⟩
def Zg{L:List P3}{q:P3}{j:Nat}(h:Ext fr to L p j):Ext fr to (L++[q]) p j:=λe u A=>mem_append.2 (.inl (h e u A))
structure BF(n:Nat)(fr to:LI)(k j:Nat)(L:List P3):Prop where
 vd:∀p∈L,Vd n fr to p
 tr:∀x:Nat,x<n->((x:Int),(x:Int),([]:LI))∈L
 cl:∀i,i<k->Ext fr to L (L.getD i d3) fr.length
 cj:k<L.length->Ext fr to L (L.getD k d3) j
structure Ya(n:Nat)(fr to:LI)(L:List P3):Prop where
 vd:∀p∈L,Vd n fr to p
 tr:∀x:Nat,x<n->((x:Int),(x:Int),([]:LI))∈L
 cl:∀p∈L,Ext fr to L p fr.length
 le:L.length<=21
theorem XM{n:Nat}{fr to:LI}{L:List P3}(h:Ya n fr to L):∀{es' B:LI}{x y z:Nat},((x:Int),(y:Int),B)∈L->wk fr to y es' z->((x:Int),(z:Int),B++es')∈L
 |[],B,x,y,z,hp,A=>by
  have A:y=z:=A;subst A;rw[List.append_nil];exact hp
 |e::es',B,x,y,z,hp,A=>by
  obtain⟨k,u,rfl,a2,a3,a4,a5⟩:=A;have:=h.cl _ hp k a2 a3;rw[a4]at this;have:=XM h this a5;rw[List.append_assoc]at this;exact this
theorem Ya.swap{L:List P3}(h:Ya n fr to L)(h0:0<k)(B:k<L.length):Ya n fr to ((L.set k (L.getD (k-1) d3)).set (k-1) (L.getD k d3)):=by
 have sub:∀p,p∈(L.set k (L.getD (k-1) d3)).set (k-1) (L.getD k d3)->p∈L:=λp u=>by
  rcases List.mem_or_eq_of_mem_set u with J|rfl
  .rcases List.mem_or_eq_of_mem_set J with h2|rfl
   .exact h2
   .exact CB (by omega)
  .exact CB B
 have A:∀p,p∈L->p∈(L.set k (L.getD (k-1) d3)).set (k-1) (L.getD k d3):=λp u=>by
  obtain⟨i,Z,rfl⟩:=Lo d3 u;have E:∀j,j<L.length->((L.set k (L.getD (k-1) d3)).set (k-1) (L.getD k d3)).getD j d3∈(L.set k (L.getD (k-1) d3)).set (k-1) (L.getD k d3):=λj Y=>CB (by rw[length_set,length_set];exact Y)
  by_cases U:i=k
  .subst U
   have:=E (i-1) (by omega)
   rwa [BB (by rw[length_set];omega),if_pos rfl]at this
  .by_cases O:i=k-1
   .subst O
    have:=E k B;rwa [BB (by rw[length_set];omega),if_neg (by omega),BB B,if_pos rfl]at this
   .have:=E i Z
    rwa [BB (by rw[length_set];omega),if_neg O,BB B,if_neg U]at this
 exact⟨λp u=>h.vd p (sub p u),λx W=>A _ (h.tr x W),λp u e he J=>A _ (h.cl p (sub p u) e he J),by rw[length_set,length_set];exact h.le⟩
def set3{M:List P3}{i:Nat}{p:P3}(h:i<M.length):
  ((M.set i (p.1,(M.getD i d3).2)).set i (((M.set i (p.1,(M.getD i d3).2)).getD i d3).1,(p.2.1,((M.set i (p.1,(M.getD i d3).2)).getD i d3).2.2))).set i ((((M.set i (p.1,(M.getD i d3).2)).set i (((M.set i (p.1,(M.getD i d3).2)).getD i d3).1,(p.2.1,((M.set i (p.1,(M.getD i d3).2)).getD i d3).2.2))).getD i d3).1,((((M.set i (p.1,(M.getD i d3).2)).set i (((M.set i (p.1,(M.getD i d3).2)).getD i d3).1,(p.2.1,((M.set i (p.1,(M.getD i d3).2)).getD i d3).2.2))).getD i d3).2.1,p.2.2))=M.set i p:=by
 rw[BB h,if_pos rfl,BB (by rw[length_set];exact h),if_pos rfl,set_set,set_set]
def Da{X R:Type}{f:X->Option (LO X R)}{x:X}{g:Nat->X->Option R}{Q:R->Prop}{I:X->Prop}(A:X->Nat)(W:I x)(J:∀x,I x->Tot (LoT (λy=>I y/\A y<A x) g Q) (f x)):Tot Q (Option.bind (A4 f x) (LO.fin g)):=by
 have key:∀m x,A x<=m->I x->Tot Q (Option.bind (A4 f x) (LO.fin g)):=by
  intro m
  induction m with
  |zero=>
   intro x U B;obtain⟨o,E,u⟩:=J x B;rw[Bi,E];cases o with
   |next y=>have:=u.2;omega
   |brk id y=>exact u
   |ret r=>exact⟨_,rfl,u⟩
  |succ m O=>
   intro x U B;obtain⟨o,E,u⟩:=J x B;rw[Bi,E];cases o with
   |next y=>exact O y (by have:=u.2;omega) u.1
   |brk id y=>exact u
   |ret r=>exact⟨_,rfl,u⟩
 exact key _ x (Nat.le_refl _) W
theorem p170(hg:Gr n fr to):Tot (Ya n fr to) (G170 ((n:Int),(fr,to))):=by
 have hn:=hg.n3;have hle:=hg.le;have hlt:=hg.lt
 delta G170 mA lw an lt gd l0 wz sc nx bk cp
 refine Au (n:=n) (λi v=>v.1=(i:Int)/\v.2.length=i/\(∀p∈v.2,Vd n fr to p)/\(∀x:Nat,x<i->((x:Int),(x:Int),([]:LI))∈v.2)/\wt n 0 v.2<=(if i=0 then 0 else if i=1 then pw n 0 else if i=2 then pw n 0+pw n 1 else pw n 0+pw n 1+pw n 2)) ⟨rfl,rfl,(λp E=>by cases E),λx hx=>absurd hx (not_lt_zero _),Nat.le_refl _⟩ (λi O v J=>?_) λv J=>?_
 .obtain⟨_,L⟩:=v
  obtain⟨(rfl:_=(i:Int)),(hl:L.length=i),hV,hT,(W:wt n 0 L<=_)⟩:=J;refine A5 (ltD O) (Ab (by show L.length+1<=_;omega) (Aa ⟨wrD O (by omega),A6 hl,λp E=>?_,λx hx=>?_,?_⟩))
  .rcases mem_append.1 E with h|h
   .exact hV p h
   .rw[mem_singleton.1 h]
    exact⟨i,i,rfl,rfl,O,O,rfl,zero_le _⟩
  .by_cases e:x=i
   .subst e;exact mem_append.2 (.inr (mem_singleton.2 rfl))
   .exact mem_append.2 (.inl (hT x (by omega)))
  .show wt n 0 (L++[_])<=_
   rw[Lr (zero_le _)];show wt n 0 L+pw n i<=_;have:i=0\/i=1\/i=2:=by omega
   rcases this with rfl|rfl|rfl<;>simp at W⊢ <;>omega
 obtain⟨_,L⟩:=v;obtain⟨(rfl:_=(n:Int)),(hl:L.length=n),hV,hT,(hw0:wt n 0 L<=_)⟩:=J;have W:wt n 0 L<=21:=by
  refine Nat.le_trans hw0 ?_;have:n=0\/n=1\/n=2\/n=3:=by omega
  rcases this with rfl|rfl|rfl|rfl<;>decide
 clear hl hw0;refine A8 ltf (Aa (Ab rfl (Da (I:=λv=>∃k:Nat,v.1=(k:Int)/\BF n fr to k 0 v.2/\k<=v.2.length/\wt n k v.2<=21) (λv=>21-v.1.toNat) ⟨0,rfl,⟨hV,hT,λi O=>absurd O (not_lt_zero _),λ_ e he=>absurd he (not_lt_zero _)⟩,zero_le _,W⟩ (λv J=>?_))))
 clear hV hT W L;obtain⟨_,L⟩:=v;obtain⟨k,(rfl:_=(k:Int)),(B:BF n fr to k 0 L),(hkl:k<=L.length),(W:wt n k L<=21)⟩:=J;have hL:=MW (n:=n) (L:=L) (k:=k);refine Bh (v:=decide (k<L.length)) ?_ (An (λA=>?_) λhk0=>Aa (Ab rfl ?_))
 .show(bif decide ((k:Int)<(L.length:Int))then some (decide ((L.length:Int)<=40))else _)=_
  rw[Af,dT (show(L.length:Int)<=40 by omega)]
  cases decide (k<L.length)<;>rfl
 .have A:k<L.length:=B3 A
  obtain⟨x,y,hx,hy,hxn,hyn,hwk,hes⟩:=B.vd _ (CB (d:=d3) A);have Y:=Vk (n:=n) A;rw[hy]at Y;have hq:=qw_3 (n:=n) (y:=y);have hyt:((y:Int)).toNat=y:=rfl;rw[hyt]at Y;generalize E:L.getD k d3=p at hx hy hwk hes;refine Au (n:=fr.length) (λj v=>v.1=(j:Int)/\BF n fr to k j v.2/\k<v.2.length/\v.2.getD k d3=p/\wt n (k+1) v.2+(fr.length-j)*qw n y<=21) ⟨rfl,B,A,E,?_⟩ (λj hj v J=>?_) λv J=>?_
  .have h3:(fr.length-0)*qw n y<=3*qw n y:=Nat.mul_le_mul_right _ (by omega)
   show wt n (k+1) L+_<=21;omega
  .clear hL hkl W A E Y B
   obtain⟨_,L⟩:=v;obtain⟨(rfl:_=(j:Int)),(B:BF n fr to k j L),(A:k<L.length),(E:L.getD k d3=p),(W:wt n (k+1) L+(fr.length-j)*qw n y<=21)⟩:=J;have hL:=MW (n:=n) (L:=L) (k:=k+1)
   have hsub:(fr.length-j)*qw n y=qw n y+(fr.length-(j+1))*qw n y:=by
    have:fr.length-j=(fr.length-(j+1))+1:=by omega
    rw[this,Nat.succ_mul];omega
   obtain⟨u,w,hu,hww,huw,hwn⟩:=hg.up j hj;have Z:L.getD ((k:Int)).toNat d3=p:=E;refine A5 (ltD hj) (Ab (Ac hj) (Ab (Ac A) (An (λe=>?_) λe=>?_)))
   .have e:fr.getD j 0=(L.getD ((k:Int)).toNat d3).2.1:=B3 e
    rw[Z,hy,hu]at e;have e:u=y:=by omega
    subst e;refine Ab (Ac A) (Ab (by show(0:Int)<=(j:Int)/\(j:Int)<(to.length:Int);omega) (Ab (Ac A) (Bh (v:=p.2.2) ?_ (Ab ?_ (Ab (by show L.length+1<=_;omega) ?_)))))
    .show G100 (L.getD ((k:Int)).toNat d3).2.2=_
     rw[Z];exact X2 (by omega)
    .show p.2.2.length+1<=_;omega
    .show Tot _ (some (LO.next (i64.wrap ((j:Int)+1),L++[((L.getD ((k:Int)).toNat d3).1,to.getD j 0,p.2.2++[(j:Int)])])))
     rw[Z];refine Aa ⟨wrD hj (by omega),⟨λq hq=>?_,λx hx=>mem_append.2 (.inl (B.tr x hx)),λi O=>?_,λ_=>?_⟩,?_,?_,?_⟩
     .rcases mem_append.1 hq with h|h
      .exact B.vd q h
      .rw[mem_singleton.1 h]
       exact⟨x,w,hx,hww,hxn,hwn,Vm hwk hj hu hww,by show(p.2.2++[_]).length<=w;rw[List.length_append];show p.2.2.length+1<=w;omega⟩
     .show Ext fr to (L++[_]) ((L++[_]).getD i d3) _
      rw[AE (by omega)]
      exact Zg (B.cl i O)
     .show Ext fr to (L++[_]) ((L++[_]).getD k d3) (j+1)
      rw[AE A,E];intro e he h1;by_cases h2:e=j
      .subst h2;exact mem_append.2 (.inr (mem_singleton.2 rfl))
      .have:=B.cj A
       rw[E]at this;exact mem_append.2 (.inl (this e (by omega) h1))
     .show k<(L++[_]).length
      rw[List.length_append];omega
     .show(L++[_]).getD k d3=p
      rw[AE A];exact E
     .show wt n (k+1) (L++[_])+_<=21
      rw[Lr (by omega)]
      have h5:=qw_le huw hwn;show wt n (k+1) L+pw n (to.getD j 0).toNat+_<=21;rw[hww,show((w:Int)).toNat=w from rfl];omega
   .have e:¬fr.getD j 0=(L.getD ((k:Int)).toNat d3).2.1:=JW e
    rw[Z]at e;refine Aa ⟨wrD hj (by omega),⟨B.vd,B.tr,B.cl,λhk' e' he h1=>?_⟩,A,E,by show wt n (k+1) L+_<=21;omega⟩
    have h2:L.getD k d3=p:=E;have he:e'<j+1:=he;by_cases h3:e'=j
    .subst h3
     have h1:fr.getD e' 0=(L.getD k d3).2.1:=h1;rw[h2]at h1;exact absurd h1 e
    .exact B.cj A e' (by omega) h1
  .clear hL hkl W A E Y B
   obtain⟨_,L⟩:=v;obtain⟨(rfl:_=(fr.length:Int)),(B:BF n fr to k fr.length L),(A:k<L.length),(E:L.getD k d3=p),(W:wt n (k+1) L+(fr.length-fr.length)*qw n y<=21)⟩:=J;have hL:=MW (n:=n) (L:=L) (k:=k+1);refine A8 ltf (Aa (Ab rfl (Aa ⟨⟨k+1,wrD A (by omega),⟨B.vd,B.tr,λi O=>?_,λ_ e he=>absurd he (not_lt_zero _)⟩,A,by show wt n (k+1) L<=21;omega⟩,?_⟩)))
   .by_cases e:i=k
    .subst e;exact B.cj A
    .exact B.cl i (by omega)
   .show 21-(wrap .i64 ((k:Int)+1)).toNat<21-((k:Int)).toNat
    rw[wrD A (by omega)]
    show 21-(k+1)<21-k;omega
 -- the list is sorted
 .have A:¬k<L.length:=JW hk0
  have U:Ya n fr to L:=⟨B.vd,B.tr,λp E=>by
   obtain⟨i,O,rfl⟩:=Lo d3 E;exact B.cl i (by omega),by omega⟩
  clear B W hL A hk0 hkl;refine Da (I:=λv=>∃i:Nat,v.1=(i:Int)/\Ya n fr to v.2) (λv=>30-v.1.toNat) ⟨1,rfl,U⟩ (λv J=>?_)
  clear U L;obtain⟨_,L⟩:=v;obtain⟨i,(rfl:_=(i:Int)),(U:Ya n fr to L)⟩:=J;refine An (λhi0=>?_) λ_=>Aa (Ab rfl (Aa U))
  have O:(i:Int)<(L.length:Int):=B3 hi0;refine Da (I:=λv=>∃k:Nat,v.1=(k:Int)/\k<v.2.length/\Ya n fr to v.2) (λv=>v.1.toNat) ⟨i,rfl,by show i<L.length;omega,U⟩ (λv J=>?_)
  have hi21:i<21:=by have:=U.le;omega
  clear U O hi0;obtain⟨_,M⟩:=v;obtain⟨k,(rfl:_=(k:Int)),(A:k<M.length),(U:Ya n fr to M)⟩:=J;have hL:=U.le;have inK:(0:Int)<=(k:Int)/\(k:Int)<(M.length:Int):=Ac A;refine Ad (P:=λb:Bool=>b=true->0<k) ?_ λb hb=>An (λe=>?_) λe=>Aa (Aa ⟨⟨i+1,wrD (n:=21) hi21 (by omega),U⟩,?_⟩)
  .refine An (λe=>?_) λ_=>Aa (λh=>by cases h)
   have e:(0:Int)<(k:Int):=B3 e;have w1:wrap .i64 ((k:Int)-1)=((k-1:Nat):Int):=by rw[Ah (by omega) (by omega)];omega
   rw[w1]
   exact Ab inK (Ab (Ac (show k-1<M.length by omega)) (Ad (p171 (by
    show(M.getD k d3).2.2.length<=_;obtain⟨_,_,_,_,_,h0,_,h⟩:=U.vd _ (CB (d:=d3) A);omega)) λ_ _=>Aa λ_=>by omega))
  .have hk0:=hb e
   have w1:wrap .i64 ((k:Int)-1)=((k-1:Nat):Int):=by rw[Ah (by omega) (by omega)];omega
   show Tot _ (if 0<=(k:Int)/\(k:Int)<(M.length:Int)then _ else _)
   rw[w1];have hk1:k-1<M.length:=by omega
   refine Ab inK (Ab (Ac hk1) (Ab inK (Bh rfl (Bh rfl (Bh (congrArg some (set3 (p:=M.getD (k-1) d3) A)) (Ab ?_ (Bh rfl (Bh rfl (Bh (congrArg some (set3 (p:=M.getD k d3) (M:=M.set k (M.getD (k-1) d3)) (i:=k-1) ?_)) (Aa ⟨⟨k-1,rfl,?_,U.swap hk0 A⟩,?_⟩))))))))))
   .show(0:Int)<=((k-1:Nat):Int)/\((k-1:Nat):Int)<((M.set k (M.getD (k-1) d3)).length:Int)
    rw[length_set];omega
   .rw[length_set];exact hk1
   .show k-1<((M.set k _).set (k-1) _).length
    rw[length_set,length_set];exact hk1
   .show k-1<k
    omega
  .show 30-(wrap .i64 ((i:Int)+1)).toNat<30-((i:Int)).toNat
   rw[wrD (n:=21) hi21 (by omega)]
   show 30-(i+1)<30-i;omega
end
end Go.Ve.D

