/- Monoids, a split idempotent: checked. -/
import Derived.Test.YtgobokfkomalhaaDre
namespace Go.Ve.D
open Go Go.Ve
noncomputable section
def spB(c:Ca)(n m:Nat):Bool:=decide (c.1=(n:Int))&&decide (c.2.1.length=m)&&decide (c.2.2.1.length=m)&&decide (c.2.2.2.1.length=n)&&decide (c.2.2.2.2.length=m)&&
 ((List.range m).all λf=>decide ((c.2.2.2.2.getD f []).length=m)&&inn n (aF c f)&&inn n (aT c f)&&(List.range m).all λg=>if aT c f=aF c g then inn m (aC c f g)&&decide (aF c (aC c f g).toNat=aF c f)&&decide (aT c (aC c f g).toNat=aT c g)else decide (aC c f g<0))&&
 (List.range n).all λx=>inn m (aI c x)
theorem sp_of{c:Ca}{n m:Nat}(h:spB c n m=true):Sp c n m:=by
 unfold spB at h;simp only [bAE,decide_eq_true_eq]at h;obtain⟨⟨⟨⟨⟨⟨h1,h2⟩,h3⟩,h4⟩,h5⟩,h6⟩,h7⟩:=h
 have row:=λf (hf:f<m)=>by
  have:=aET.1 h6 f (List.mem_range.2 hf);simp only [bAE,decide_eq_true_eq]at this;exact this
 have nat: ∀ {k:Nat} {a:Int},inn k a=true->∃x:Nat,x<k/\a=x:=λh=>by
  obtain⟨h1,h2⟩:=JI.1 h;exact⟨_,by omega,(Int.toNat_of_nonneg h1).symm⟩
 refine⟨h1,h2,h3,h4,h5,λf hf=>(row f hf).1.1.1,λf hf=>nat (row f hf).1.1.2,λf hf=>nat (row f hf).1.2,λx hx=>nat (aET.1 h7 x (List.mem_range.2 hx)),λf g hf hg he=>?_,λf g hf hg he=>?_⟩
 ·have:=aET.1 (row f hf).2 g (List.mem_range.2 hg)
  rw [if_pos he]at this;simp only [bAE,decide_eq_true_eq]at this;obtain⟨k,hk,e⟩:=nat this.1.1;rw [e]at this;exact⟨k,hk,e,this.1.2,this.2⟩
 ·have:=aET.1 (row f hf).2 g (List.mem_range.2 hg)
  rw [if_neg he,decide_eq_true_eq]at this;exact this
def mono(t:LL):Ca:=(1,(List.replicate t.length 0,(List.replicate t.length 0,([0],t))))
theorem p110{t:LL}{m:Nat}(h:Sp (mono t) 1 m)(hm:m<=1000):G110 t=some (mono t):=by
 have hl:t.length=m:=h.lc;unfold G110;refine ifD ⟨by omega,by omega,by omega,by omega⟩ (ifD ⟨by omega,by omega,by omega,by omega⟩ (Ai (p113 (by omega) λi hi=>?_) rfl))
 have:=h.lr i (by omega)
 show(t.getD i []).length<=_;have e:(t.getD i []).length=m:=this;omega
theorem p111{s:Src}(h:OkS s):Tot (λr=>(∃m,m<=4/\Sp (mono r.1) 1 m)/\OkS r.2) (G111 () s):=by
 unfold G111;refine Ah (p52 h) λv hv=>?_
 have hs:=hv.2
 refine Ap (λ_=>Ab trivial (Aa ⟨⟨1,by decide,?_⟩,hs⟩)) λ_=>Ap (λ_=>Ab trivial (Aa ⟨⟨2,by decide,?_⟩,hs⟩)) λ_=>Ap (λ_=>Ab trivial (Aa ⟨⟨2,by decide,?_⟩,hs⟩)) λ_=>Ap (λ_=>Ab trivial (Aa ⟨⟨3,by decide,?_⟩,hs⟩)) λ_=>
  Ap (λ_=>Ab trivial (Aa ⟨⟨3,by decide,?_⟩,hs⟩)) λ_=>Ap (λ_=>Ab trivial (Aa ⟨⟨3,by decide,?_⟩,hs⟩)) λ_=>Ap (λ_=>Ab trivial (Aa ⟨⟨4,by decide,?_⟩,hs⟩)) λ_=>Ab trivial (Aa ⟨⟨3,by decide,?_⟩,hs⟩)
 all_goals (dsimp only;exact sp_of (by decide))
theorem p97:Tot (λc=>Sp c 2 5) (G97 ()):=by
 unfold G97;exact Ab trivial (Aa (sp_of (by decide)))
theorem p117{a b:LI}(ha:a.length<=1048576):Tot (λ_=>True) (G117 (a,b)):=by
 unfold G117;refine AC (n:=a.length) (λi v=>v=(i:Int)) rfl (λi hi v hv=>?_) λv hv=>?_
 ·subst hv
  refine AL (v:=decide (i<b.length)) (by show(bif decide ((i:Int)<(a.length:Int))then some (decide ((i:Int)<(b.length:Int)))else _)=_;rw [ltD hi,Bh];rfl) (Ap (λhb=>?_) λ_=>Aa (Aa trivial))
  have hb:=CK hb;exact Ab (Ad hi) (Ab (Ad hb) (Ap (λ_=>Ab (Ad hi) (Ab (Ad hb) (Ct (Aa trivial)))) λ_=>Aa (wrD hi ha)))
 ·subst hv
  exact AL (v:=false) (by show(bif decide ((a.length:Int)<(a.length:Int))then _ else _)=_;rw [ltf];rfl) (Aa (Aa trivial))
theorem p116{x:(Int×Int×LI)×Int×Int×LI}(h:x.1.2.2.length<=1048576):Tot (λ_=>True) (G116 x):=by
 unfold G116;exact Ap (λ_=>Aa trivial) λ_=>Ap (λ_=>Aa trivial) λ_=>Ah (p117 h) λ_ _=>Aa trivial
end
end Go.Ve.D


namespace Go.Ve.D
open Go Go.Ve
noncomputable section
variable{fr to:LI}{k n y:Nat}{α:Type}
abbrev P3:=Int×Int×LI
variable{p:P3}
abbrev d3:P3:=(0,0,[])
def wk(fr to:LI):Nat->LI->Nat->Prop
 |x,[],y=>x=y
 |x,e::es,y=>∃k z:Nat,e=(k:Int)/\k<fr.length/\fr.getD k 0=(x:Int)/\to.getD k 0=(z:Int)/\wk fr to z es y
theorem UG{fr to:LI}: ∀ {es:LI} {x y k z:Nat},wk fr to x es y->k<fr.length->fr.getD k 0=(y:Int)->to.getD k 0=(z:Int)->wk fr to x (es++ [(k:Int)]) z
 | [],x,y,k,z,h,hk,h1,h2=>by
  have h:x=y:=h;subst h;exact⟨k,z,rfl,hk,h1,h2,rfl⟩
 |e::es,x,y,k,z,h,hk,h1,h2=>by
  obtain⟨j,u,a1,a2,a3,a4,a5⟩:=h;exact⟨j,u,a1,a2,a3,a4,UG a5 hk h1 h2⟩
theorem Yp{fr to:LI}: ∀ {es:LI} {x y z:Nat},wk fr to x es y->wk fr to x es z->y=z
 | [],x,y,z,h,h'=>by
  have h:x=y:=h;have h':x=z:=h';omega
 |e::es,x,y,z,h,h'=>by
  obtain⟨j,u,a1,a2,a3,a4,a5⟩:=h;obtain⟨j',u',b1,b2,b3,b4,b5⟩:=h';have:j=j':=by omega
  subst this;have:u=u':=by omega
  subst this;exact Yp a5 b5
theorem Yq{fr to:LI}: ∀ {es es':LI} {x y z:Nat},wk fr to x es y->wk fr to y es' z->wk fr to x (es++es') z
 | [],es',x,y,z,h,h'=>by
  have h:x=y:=h;subst h;exact h'
 |e::es,es',x,y,z,h,h'=>by
  obtain⟨j,u,a1,a2,a3,a4,a5⟩:=h;exact⟨j,u,a1,a2,a3,a4,Yq a5 h'⟩
structure Gr(n:Nat)(fr to:LI):Prop where
 n3:n<=3
 le:fr.length<=3
 lt:to.length=fr.length
 up: ∀k,k<fr.length->∃x y:Nat,fr.getD k 0=(x:Int)/\to.getD k 0=(y:Int)/\x<y/\y<n
def Vd(n:Nat)(fr to:LI)(p:P3):Prop:=∃x y:Nat,p.1=(x:Int)/\p.2.1=(y:Int)/\x<n/\y<n/\wk fr to x p.2.2 y/\p.2.2.length<=y
def Ext(fr to:LI)(L:List P3)(p:P3)(j:Nat):Prop:=∀e,e<j->fr.getD e 0=p.2.1->(p.1,to.getD e 0,p.2.2++ [(e:Int)])∈L
def pw(n y:Nat):Nat:=4 ^ (n-1-y)
def wt(n:Nat):Nat->List P3->Nat
 |_,[]=>0
 |0,p::L=>pw n p.2.1.toNat+wt n 0 L
 |k+1,_::L=>1+wt n k L
theorem YH:1<=pw n y:=Nat.pow_pos (by decide)
theorem Lh{n:Nat}{p:P3}: ∀ {L:List P3} {k:Nat},k<=L.length->wt n k (L++ [p])=wt n k L+pw n p.2.1.toNat
 | [],0,_=>by simp [wt]
 |q::L,0,_=>by
  show pw n _+wt n 0 (L++ [p])=pw n _+wt n 0 L+_;rw [Lh (Nat.zero_le _)];omega
 |q::L,k+1,h=>by
  show 1+wt n k (L++ [p])=1+wt n k L+_;rw [Lh (by simpa using h)];omega
theorem UE{n:Nat}: ∀ {L:List P3} {k:Nat},k<L.length->wt n (k+1) L+pw n (L.getD k d3).2.1.toNat=wt n k L+1
 |q::L,0,_=>by
  show 1+wt n 0 L+pw n q.2.1.toNat=pw n q.2.1.toNat+wt n 0 L+1;omega
 |q::L,k+1,h=>by
  have:=UE (n:=n) (L:=L) (k:=k) (by simpa using h)
  show 1+wt n (k+1) L+_=1+wt n k L+1;rw [List.getD_cons_succ];omega
theorem MD{n:Nat}: ∀ {L:List P3} {k:Nat},L.length<=wt n k L
 | [],_=>Nat.zero_le _
 |q::L,0=>by
  have:=MD (n:=n) (L:=L) (k:=0);have:=YH (n:=n) (y:=q.2.1.toNat);show L.length+1<=pw n _+wt n 0 L;omega
 |q::L,k+1=>by
  have:=MD (n:=n) (L:=L) (k:=k);show L.length+1<=1+wt n k L;omega
def qw(n y:Nat):Nat:=if y+1<n then pw n (y+1)else 0
theorem qw_3:3*qw n y+1<=pw n y:=by
 unfold qw;split
 ·unfold pw
  have:n-1-y=(n-1-(y+1))+1:=by omega
  rw [this,Nat.pow_succ];have:=Nat.pow_pos (n:=n-1-(y+1)) (show 0<4 by decide)
  omega
 ·have:=YH (n:=n) (y:=y);omega
theorem qw_le{x:Nat}(h:x<y)(hy:y<n):pw n y<=qw n x:=by
 unfold qw pw;rw [if_pos (by omega)]
 exact Nat.pow_le_pow_right (by decide) (by omega)
theorem C5{L:List α}{d:α}(h:k<L.length):L.getD k d∈L:=by
 rw [gDE,gEE h];exact List.getElem_mem h
theorem P9{L:List α}{p:α}(d:α)(h:p∈L): ∃k,k<L.length/\L.getD k d=p:=by
 obtain⟨k,hk,e⟩:=List.getElem_of_mem h;exact⟨k,hk,by rw [gDE,gEE hk];exact e⟩
theorem Yc{L:List P3}{q:P3}{j:Nat}(h:Ext fr to L p j):Ext fr to (L++ [q]) p j:=λe he h1=>List.mem_append.2 (.inl (h e he h1))
structure BF(n:Nat)(fr to:LI)(k j:Nat)(L:List P3):Prop where
 vd: ∀p∈L,Vd n fr to p
 tr: ∀x:Nat,x<n->((x:Int),(x:Int),([]:LI))∈L
 cl: ∀i,i<k->Ext fr to L (L.getD i d3) fr.length
 cj:k<L.length->Ext fr to L (L.getD k d3) j
structure Xd(n:Nat)(fr to:LI)(L:List P3):Prop where
 vd: ∀p∈L,Vd n fr to p
 tr: ∀x:Nat,x<n->((x:Int),(x:Int),([]:LI))∈L
 cl: ∀p∈L,Ext fr to L p fr.length
 le:L.length<=21
theorem WU{n:Nat}{fr to:LI}{L:List P3}(h:Xd n fr to L): ∀ {es' es:LI} {x y z:Nat},((x:Int),(y:Int),es)∈L->wk fr to y es' z->((x:Int),(z:Int),es++es')∈L
 | [],es,x,y,z,hp,hw=>by
  have hw:y=z:=hw;subst hw;rw [List.append_nil];exact hp
 |e::es',es,x,y,z,hp,hw=>by
  obtain⟨k,u,rfl,a2,a3,a4,a5⟩:=hw;have:=h.cl _ hp k a2 a3;rw [a4]at this;have:=WU h this a5;rw [List.append_assoc]at this;exact this
theorem Xd.swap{L:List P3}(h:Xd n fr to L)(h0:0<k)(hk:k<L.length):Xd n fr to ((L.set k (L.getD (k-1) d3)).set (k-1) (L.getD k d3)):=by
 have sub: ∀p,p∈(L.set k (L.getD (k-1) d3)).set (k-1) (L.getD k d3)->p∈L:=λp hp=>by
  rcases List.mem_or_eq_of_mem_set hp with h1|rfl
  ·rcases List.mem_or_eq_of_mem_set h1 with h2|rfl
   ·exact h2
   ·exact C5 (by omega)
  ·exact C5 hk
 have sup: ∀p,p∈L->p∈(L.set k (L.getD (k-1) d3)).set (k-1) (L.getD k d3):=λp hp=>by
  obtain⟨i,hi,rfl⟩:=P9 d3 hp;have hl: ∀j,j<L.length->((L.set k (L.getD (k-1) d3)).set (k-1) (L.getD k d3)).getD j d3∈(L.set k (L.getD (k-1) d3)).set (k-1) (L.getD k d3):=λj hj=>C5 (by rw [List.length_set,List.length_set];exact hj)
  by_cases e1:i=k
  ·subst e1
   have:=hl (i-1) (by omega)
   rwa [Bz (by rw [List.length_set];omega),if_pos rfl]at this
  ·by_cases e2:i=k-1
   ·subst e2
    have:=hl k hk;rwa [Bz (by rw [List.length_set];omega),if_neg (by omega),Bz hk,if_pos rfl]at this
   ·have:=hl i hi
    rwa [Bz (by rw [List.length_set];omega),if_neg e2,Bz hk,if_neg e1]at this
 exact⟨λp hp=>h.vd p (sub p hp),λx hx=>sup _ (h.tr x hx),λp hp e he h1=>sup _ (h.cl p (sub p hp) e he h1),by rw [List.length_set,List.length_set];exact h.le⟩
theorem set3{M:List P3}{i:Nat}{p:P3}(h:i<M.length):
  ((M.set i (p.1,(M.getD i d3).2)).set i (((M.set i (p.1,(M.getD i d3).2)).getD i d3).1,(p.2.1,((M.set i (p.1,(M.getD i d3).2)).getD i d3).2.2))).set i ((((M.set i (p.1,(M.getD i d3).2)).set i (((M.set i (p.1,(M.getD i d3).2)).getD i d3).1,(p.2.1,((M.set i (p.1,(M.getD i d3).2)).getD i d3).2.2))).getD i d3).1,((((M.set i (p.1,(M.getD i d3).2)).set i (((M.set i (p.1,(M.getD i d3).2)).getD i d3).1,(p.2.1,((M.set i (p.1,(M.getD i d3).2)).getD i d3).2.2))).getD i d3).2.1,p.2.2))=M.set i p:=by
 rw [Bz h,if_pos rfl,Bz (by rw [List.length_set];exact h),if_pos rfl,List.set_set,List.set_set]
theorem Hq{X R:Type}{f:X->Option (LO X R)}{x:X}{g:Nat->X->Option R}{Q:R->Prop}{I:X->Prop}(μ:X->Nat)(h0:I x)(h1: ∀x,I x->Tot (LoT (λy=>I y/\μ y<μ x) g Q) (f x)):Tot Q (Option.bind (Aq f x) (LO.fin g)):=by
 have key: ∀m x,μ x<=m->I x->Tot Q (Option.bind (Aq f x) (LO.fin g)):=by
  intro m
  induction m with
  |zero=>
   intro x hm hx;obtain⟨o,ho,hq⟩:=h1 x hx;rw [BK,ho];cases o with
   |next y=>have:=hq.2;omega
   |brk id y=>exact hq
   |ret r=>exact⟨_,rfl,hq⟩
  |succ m ih=>
   intro x hm hx;obtain⟨o,ho,hq⟩:=h1 x hx;rw [BK,ho];cases o with
   |next y=>exact ih y (by have:=hq.2;omega) hq.1
   |brk id y=>exact hq
   |ret r=>exact⟨_,rfl,hq⟩
 exact key _ x (Nat.le_refl _) h0
theorem p114(hg:Gr n fr to):Tot (Xd n fr to) (G114 ((n:Int),(fr,to))):=by
 have hn:=hg.n3;have hle:=hg.le;have hlt:=hg.lt;unfold G114;refine AC (n:=n) (λi v=>v.1=(i:Int)/\v.2.length=i/\(∀p∈v.2,Vd n fr to p)/\(∀x:Nat,x<i->((x:Int),(x:Int),([]:LI))∈v.2)/\wt n 0 v.2<=(if i=0 then 0 else if i=1 then pw n 0 else if i=2 then pw n 0+pw n 1 else pw n 0+pw n 1+pw n 2)) ⟨rfl,rfl,(λp hp=>by cases hp),λx hx=>absurd hx (Nat.not_lt_zero _),Nat.le_refl _⟩ (λi hi v hv=>?_) λv hv=>?_
 ·obtain⟨_,L⟩:=v
  obtain⟨(rfl:_=(i:Int)),(hl:L.length=i),hV,hT,(hw:wt n 0 L<=_)⟩:=hv;refine Bk (ltD hi) (Ab (by show L.length+1<=_;omega) (Aa ⟨wrD hi (by omega),Ba hl,λp hp=>?_,λx hx=>?_,?_⟩))
  ·rcases List.mem_append.1 hp with h|h
   ·exact hV p h
   ·rw [List.mem_singleton.1 h]
    exact⟨i,i,rfl,rfl,hi,hi,rfl,Nat.zero_le _⟩
  ·by_cases e:x=i
   ·subst e;exact List.mem_append.2 (.inr (List.mem_singleton.2 rfl))
   ·exact List.mem_append.2 (.inl (hT x (by omega)))
  ·show wt n 0 (L++ [_])<=_
   rw [Lh (Nat.zero_le _)];show wt n 0 L+pw n i<=_;have:i=0\/i=1\/i=2:=by omega
   rcases this with rfl|rfl|rfl<;>simp at hw⊢ <;>omega
 obtain⟨_,L⟩:=v;obtain⟨(rfl:_=(n:Int)),(hl:L.length=n),hV,hT,(hw0:wt n 0 L<=_)⟩:=hv;have hw:wt n 0 L<=21:=by
  refine Nat.le_trans hw0 ?_;have:n=0\/n=1\/n=2\/n=3:=by omega
  rcases this with rfl|rfl|rfl|rfl<;>decide
 clear hl hw0;refine A8 ltf (Aa (Ab rfl (Hq (I:=λv=>∃k:Nat,v.1=(k:Int)/\BF n fr to k 0 v.2/\k<=v.2.length/\wt n k v.2<=21) (λv=>21-v.1.toNat) ⟨0,rfl,⟨hV,hT,λi hi=>absurd hi (Nat.not_lt_zero _),λ_ e he=>absurd he (Nat.not_lt_zero _)⟩,Nat.zero_le _,hw⟩ (λv hv=>?_))))
 clear hV hT hw L;obtain⟨_,L⟩:=v;obtain⟨k,(rfl:_=(k:Int)),(hB:BF n fr to k 0 L),(hkl:k<=L.length),(hw:wt n k L<=21)⟩:=hv;have hL:=MD (n:=n) (L:=L) (k:=k);refine AL (v:=decide (k<L.length)) ?_ (Ap (λhk=>?_) λhk0=>Aa (Ab rfl ?_))
 ·show(bif decide ((k:Int)<(L.length:Int))then some (decide ((L.length:Int)<=40))else _)=_
  rw [Bh,dT (show(L.length:Int)<=40 by omega)]
  cases decide (k<L.length)<;>rfl
 ·have hk:k<L.length:=CK hk
  obtain⟨x,y,hx,hy,hxn,hyn,hwk,hes⟩:=hB.vd _ (C5 (d:=d3) hk);have hst:=UE (n:=n) hk;rw [hy]at hst;have hq:=qw_3 (n:=n) (y:=y);have hyt:((y:Int)).toNat=y:=rfl;rw [hyt]at hst;generalize hp:L.getD k d3=p at hx hy hwk hes;refine AC (n:=fr.length) (λj v=>v.1=(j:Int)/\BF n fr to k j v.2/\k<v.2.length/\v.2.getD k d3=p/\wt n (k+1) v.2+(fr.length-j)*qw n y<=21) ⟨rfl,hB,hk,hp,?_⟩ (λj hj v hv=>?_) λv hv=>?_
  ·have h3:(fr.length-0)*qw n y<=3*qw n y:=Nat.mul_le_mul_right _ (by omega)
   show wt n (k+1) L+_<=21;omega
  ·clear hL hkl hw hk hp hst hB
   obtain⟨_,L⟩:=v;obtain⟨(rfl:_=(j:Int)),(hB:BF n fr to k j L),(hk:k<L.length),(hp:L.getD k d3=p),(hw:wt n (k+1) L+(fr.length-j)*qw n y<=21)⟩:=hv;have hL:=MD (n:=n) (L:=L) (k:=k+1)
   have hsub:(fr.length-j)*qw n y=qw n y+(fr.length-(j+1))*qw n y:=by
    have:fr.length-j=(fr.length-(j+1))+1:=by omega
    rw [this,Nat.succ_mul];omega
   obtain⟨u,w,hu,hww,huw,hwn⟩:=hg.up j hj;have hpk:L.getD ((k:Int)).toNat d3=p:=hp;refine Bk (ltD hj) (Ab (Ad hj) (Ab (Ad hk) (Ap (λe=>?_) λe=>?_)))
   ·have e:fr.getD j 0=(L.getD ((k:Int)).toNat d3).2.1:=CK e
    rw [hpk,hy,hu]at e;have e:u=y:=by omega
    subst e;refine Ab (Ad hk) (Ab (by show(0:Int)<=(j:Int)/\(j:Int)<(to.length:Int);omega) (Ab (Ad hk) (AL (v:=p.2.2) ?_ (Ab ?_ (Ab (by show L.length+1<=_;omega) ?_)))))
    ·show G98 (L.getD ((k:Int)).toNat d3).2.2=_
     rw [hpk];exact p98 (by omega)
    ·show p.2.2.length+1<=_;omega
    ·show Tot _ (some (LO.next (IntKind.i64.wrap ((j:Int)+1),L++ [((L.getD ((k:Int)).toNat d3).1,to.getD j 0,p.2.2++ [(j:Int)])])))
     rw [hpk];refine Aa ⟨wrD hj (by omega),⟨λq hq=>?_,λx hx=>List.mem_append.2 (.inl (hB.tr x hx)),λi hi=>?_,λ_=>?_⟩,?_,?_,?_⟩
     ·rcases List.mem_append.1 hq with h|h
      ·exact hB.vd q h
      ·rw [List.mem_singleton.1 h]
       exact⟨x,w,hx,hww,hxn,hwn,UG hwk hj hu hww,by show(p.2.2++ [_]).length<=w;rw [List.length_append];show p.2.2.length+1<=w;omega⟩
     ·show Ext fr to (L++ [_]) ((L++ [_]).getD i d3) _
      rw [A7 (by omega)]
      exact Yc (hB.cl i hi)
     ·show Ext fr to (L++ [_]) ((L++ [_]).getD k d3) (j+1)
      rw [A7 hk,hp];intro e he h1;by_cases h2:e=j
      ·subst h2;exact List.mem_append.2 (.inr (List.mem_singleton.2 rfl))
      ·have:=hB.cj hk
       rw [hp]at this;exact List.mem_append.2 (.inl (this e (by omega) h1))
     ·show k<(L++ [_]).length
      rw [List.length_append];omega
     ·show(L++ [_]).getD k d3=p
      rw [A7 hk];exact hp
     ·show wt n (k+1) (L++ [_])+_<=21
      rw [Lh (by omega)]
      have h5:=qw_le huw hwn;show wt n (k+1) L+pw n (to.getD j 0).toNat+_<=21;rw [hww,show((w:Int)).toNat=w from rfl];omega
   ·have e: ¬fr.getD j 0=(L.getD ((k:Int)).toNat d3).2.1:=Mf e
    rw [hpk]at e;refine Aa ⟨wrD hj (by omega),⟨hB.vd,hB.tr,hB.cl,λhk' e' he h1=>?_⟩,hk,hp,by show wt n (k+1) L+_<=21;omega⟩
    have h2:L.getD k d3=p:=hp;have he:e'<j+1:=he;by_cases h3:e'=j
    ·subst h3
     have h1:fr.getD e' 0=(L.getD k d3).2.1:=h1;rw [h2]at h1;exact absurd h1 e
    ·exact hB.cj hk e' (by omega) h1
  ·clear hL hkl hw hk hp hst hB
   obtain⟨_,L⟩:=v;obtain⟨(rfl:_=(fr.length:Int)),(hB:BF n fr to k fr.length L),(hk:k<L.length),(hp:L.getD k d3=p),(hw:wt n (k+1) L+(fr.length-fr.length)*qw n y<=21)⟩:=hv;have hL:=MD (n:=n) (L:=L) (k:=k+1);refine A8 ltf (Aa (Ab rfl (Aa ⟨⟨k+1,wrD hk (by omega),⟨hB.vd,hB.tr,λi hi=>?_,λ_ e he=>absurd he (Nat.not_lt_zero _)⟩,hk,by show wt n (k+1) L<=21;omega⟩,?_⟩)))
   ·by_cases e:i=k
    ·subst e;exact hB.cj hk
    ·exact hB.cl i (by omega)
   ·show 21-(IntKind.wrap .i64 ((k:Int)+1)).toNat<21-((k:Int)).toNat
    rw [wrD hk (by omega)]
    show 21-(k+1)<21-k;omega
 -- the list is sorted
 ·have hk: ¬k<L.length:=Mf hk0
  have hA:Xd n fr to L:=⟨hB.vd,hB.tr,λp hp=>by
   obtain⟨i,hi,rfl⟩:=P9 d3 hp;exact hB.cl i (by omega),by omega⟩
  clear hB hw hL hk hk0 hkl;refine Hq (I:=λv=>∃i:Nat,v.1=(i:Int)/\Xd n fr to v.2) (λv=>30-v.1.toNat) ⟨1,rfl,hA⟩ (λv hv=>?_)
  clear hA L;obtain⟨_,L⟩:=v;obtain⟨i,(rfl:_=(i:Int)),(hA:Xd n fr to L)⟩:=hv;refine Ap (λhi0=>?_) λ_=>Aa (Ab rfl (Aa hA))
  have hi:(i:Int)<(L.length:Int):=CK hi0;refine Hq (I:=λv=>∃k:Nat,v.1=(k:Int)/\k<v.2.length/\Xd n fr to v.2) (λv=>v.1.toNat) ⟨i,rfl,by show i<L.length;omega,hA⟩ (λv hv=>?_)
  have hi21:i<21:=by have:=hA.le;omega
  clear hA hi hi0;obtain⟨_,M⟩:=v;obtain⟨k,(rfl:_=(k:Int)),(hk:k<M.length),(hA:Xd n fr to M)⟩:=hv;have hL:=hA.le;have inK:(0:Int)<=(k:Int)/\(k:Int)<(M.length:Int):=Ad hk;refine Ah (P:=λb:Bool=>b=true->0<k) ?_ λb hb=>Ap (λe=>?_) λe=>Aa (Aa ⟨⟨i+1,wrD (n:=21) hi21 (by omega),hA⟩,?_⟩)
  ·refine Ap (λe=>?_) λ_=>Aa (λh=>by cases h)
   have e:(0:Int)<(k:Int):=CK e;have w1:IntKind.wrap .i64 ((k:Int)-1)=((k-1:Nat):Int):=by rw [Ay (by omega) (by omega)];omega
   rw [w1]
   exact Ab inK (Ab (Ad (show k-1<M.length by omega)) (Ah (p116 (by
    show(M.getD k d3).2.2.length<=_;obtain⟨_,_,_,_,_,h0,_,h⟩:=hA.vd _ (C5 (d:=d3) hk);omega)) λ_ _=>Aa λ_=>by omega))
  ·have hk0:=hb e
   have w1:IntKind.wrap .i64 ((k:Int)-1)=((k-1:Nat):Int):=by rw [Ay (by omega) (by omega)];omega
   show Tot _ (if 0<=(k:Int)/\(k:Int)<(M.length:Int)then _ else _)
   rw [w1];have hk1:k-1<M.length:=by omega
   refine Ab inK (Ab (Ad hk1) (Ab inK (AL rfl (AL rfl (AL (congrArg some (set3 (p:=M.getD (k-1) d3) hk)) (Ab ?_ (AL rfl (AL rfl (AL (congrArg some (set3 (p:=M.getD k d3) (M:=M.set k (M.getD (k-1) d3)) (i:=k-1) ?_)) (Aa ⟨⟨k-1,rfl,?_,hA.swap hk0 hk⟩,?_⟩))))))))))
   ·show(0:Int)<=((k-1:Nat):Int)/\((k-1:Nat):Int)<((M.set k (M.getD (k-1) d3)).length:Int)
    rw [List.length_set];omega
   ·rw [List.length_set];exact hk1
   ·show k-1<((M.set k _).set (k-1) _).length
    rw [List.length_set,List.length_set];exact hk1
   ·show k-1<k
    omega
  ·show 30-(IntKind.wrap .i64 ((i:Int)+1)).toNat<30-((i:Int)).toNat
   rw [wrD (n:=21) hi21 (by omega)]
   show 30-(i+1)<30-i;omega
end
end Go.Ve.D

