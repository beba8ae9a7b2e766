/- The typed machine: operations in order; code. -/
import Derived.Test.YtojjlnbnneemaaaTka
set_option linter.all false
namespace Go.Ve
variable{a:Act}{ops:Array Oper}{o:Oper}{s s':St}{R:Type}{w:World}
def ZQ(o:Oper):Option (TypeId×Operand×Operand):=match o.op,o.dst with
 |.store t x v,none=>some (t,x,v)
 |_,_=>none
inductive LoudK where
 |app (d:Nat) (t:TypeId) (x y:Operand)
 |bs (d:Nat) (t:TypeId) (n:Nat) (ps:Array (Nat×Operand))
 |cw (d:Nat) (f:FuncId) (xs:Array Operand)
def W7(E:Env)(o:Oper):Option LoudK:=match o.dst,o.op with
 |some d,.buildSlice t n ps=>some (.bs d t n ps)
 |some d,.call c=>match c.callee with
  |.builtin .append=>match c.args.toList,c.argTypes.toList with
   |[x,y],[t,t']=>bif Nat.beq t t' then some (.app d t x y)else none
   |_,_=>none
  |.value (.func f)=>match lookW E.W f with
   |some _=>some (.cw d f c.args)
   |none=>none
  |_=>none
 |_,_=>none
def elI(E:Env)(t:TypeId):Option TI:=((E.Θ.look t).bind (·.elem)).bind E.Θ.look
def lrK{R:Type}(E:Env)(s:St)(d:Nat)(A:LR)(K:St->Option R):Option R:=bif E.h.fz.contains d then none else oif A.p A.dec (match(Ap A.js s).put E.h (some d) (.one A.y)with
 |some s'=>K s'
 |none=>none)
def Qe{R:Type}(E:Env)(s:St)(o:Oper)(K:St->Option R):Option R:=AaM E s o.type o.op λy=>match s.put E.h o.dst y with
 |some s'=>K s'
 |none=>none
def capsF(fz:List Nat)(o:Oper):List Operand:=match o.op,o.dst with
 |.makeFunc _ _ caps,some d=>bif fz.contains d then caps.toList else []
 |_,_=>[]
def seqF(E:Env)(s:St)(o:Oper):Option (Nat×Nat×Bool):=match IT o.op with
 |some (f,xs)=>match J8 E.U f with
  |some e=>match xs.toList[e.S.k]? with
   |some (.tmp z)=>match Cr s z with
    |some id=>some (z,id,e.S.eat)
    |none=>none
   |_=>none
  |none=>none
 |none=>none
def seqB(E:Env)(o:Oper)(z id:Nat)(eat:Bool)(s1 e:St):Bool:=(match o.dst with
 |some d=>!(e.t d).own||(e.t d).stay
 |none=>true)&&(bif eat then !(e.t z).own else Ho (e.t z)&&Nat.blt id s1.r.length&&(match s1.r.getD id .dead with
  |.dead=>true
  |_=>false))
def KL(E:Env)(s:St)(o:Oper)(z id:Nat):List Nat:=(List.range E.h.n).filter λy=>!Nat.beq y z&&(match o.dst with
 |some d=>!Nat.beq y d
 |none=>true)&&(match Cr s y with
 |some j=>Nat.beq j id
 |none=>false)
def AaL{R:Type}(E:Env)(s:St)(o:Oper)(K:St->Option R):Option R:=match seqF E s o with
 |some (z,id,eat)=>match Kq [z] s with
  |some s1=>match Ma E.h (λe=>Nat.beq e z) (λz=>z) E.U s1 o with
   |some A=>II A.o λu=>bif seqB E o z id eat s1 ⟨AQ (AQ s1.t A.y (A.u u)) A.d (A.z u),s1.r⟩then
     K ((bif eat then⟨AQ (AQ s1.t A.y (A.u u)) A.d (A.z u),s1.r⟩else St.rerefs id (B6 ((AQ (AQ s1.t A.y (A.u u)) A.d (A.z u)) z)) (KL E s o z id) (St.backs [(z,id)] ⟨AQ (AQ s1.t A.y (A.u u)) A.d (A.z u),s1.r⟩)).promA [o.dst])else none
   |none=>none
  |none=>none
 |none=>none
def Lb:AW->Option (AW×Nat×Nat)
 |[]=>none
 |a::p=>match Lb p with
  |some (q,i,k)=>some (a::q,i,k)
  |none=>some ([],a.1,a.2)
def JJ:∀(p:AW),(Lb p=none->p=[])/\∀q i k,Lb p=some (q,i,k)->p=q++[(i,k)]
 |[]=>⟨λ_=>rfl,λq i k h=>by cases h⟩
 |a::p=>by
  obtain⟨B,A⟩:=JJ p;unfold Lb;cases e:Lb p with
  |none=>
   refine⟨λh=>(by cases h),λq i k h=>?_⟩
   cases h;rw[B e];rfl
  |some z=>
   obtain⟨F,i',k'⟩:=z;refine⟨λh=>(by cases h),λq i k h=>?_⟩
   cases h;rw[A _ _ _ e];rfl
def putM(s:St)(id:Nat)(p:AW)(kt e:Ty)(ys:List (kt.T×e.T)):Option St:=match Lb p with
 |none=>some ⟨s.t,s.r.set id (.mp false kt e ys)⟩
 |some (q,i,k)=>match(s.r.getD id .dead).setAt q i k (.c (.mp kt e) 1 ys)with
  |some r0=>some ⟨λx=>(s.t x).kill id (p.map (·.2)) [],s.r.set id r0⟩
  |none=>none
def Pm(Θ:Tab)(s:St)(o:Oper):Option St:=match o.op,o.dst with
 |.mapUpdate t m k x,none=>match Θ.look t,s.ev m with
  |some i,some (.one (.rm id p))=>match i.ty,i.mp,Ae s.r id p with
   |.mp kt vt,some _,.mp false k' v' xs=>bif Ja kt&&Ja vt then(match IS (.mp kt vt) ⟨.mp k' v',xs⟩,keyD kt (s.ev k),keyD vt (s.ev x)with
    |some ys,some key,some y=>putM s id p kt vt (AaI kt vt key y ys)
    |_,_,_=>none)else none
   |_,_,_=>none
  |_,_=>none
 |_,_=>none
def AaN{R:Type}(E:Env)(s:St)(o:Oper)(K:St->Option R):Option R:=match AbF E.M E.h s o with
 |some A=>II A.o λu=>match(A.st u).put E.h o.dst (A.y u)with
  |some s'=>K s'
  |none=>none
 |none=>match Pm E.Θ s o with
 |some s'=>K s'
 |none=>match seqF E s o with
 |some _=>AaL E s o K
 |none=>match ZQ o with
 |some (t,x,v)=>match Wc s (E.Θ.look t) (s.ev x) (s.ev v)with
  |some A=>oif A.p A.dec (K A.s)
  |none=>Pi s (E.Θ.look t) (s.ev x) (s.ev v) K
 |none=>match W7 E o with
  |some (.app d t x y)=>match Aan s (s.ev x)with
   |some e=>match JH e (elI E t) (e.ev x) (e.ev y)with
    |some A=>lrK E e d A K
    |none=>none
   |none=>none
  |some (.bs d t n ps)=>match AcF (ps.toList.map (·.2)) s with
   |some e=>match tBSM e n (ps.toList.map λp=>(p.1,e.ev p.2)) (elI E t)with
    |some A=>lrK E e d A K
    |none=>Qe E s o K
   |none=>none
  |some (.cw d f xs)=>match NC E.W s f (xs.toList.map s.ev)with
   |some A=>II A.o λu=>match A.st u with
    |some s1=>match s1.put E.h (some d) (.one (A.y u))with
     |some s'=>Qv (xs.toList.flatMap λx=>argIds (s.ev x)) s' K
     |none=>none
    |none=>none
   |none=>none
  |none=>match capsF E.h.fz o with
   |[]=>Qe E s o K
   |x::xs=>match OI (x::xs) s with
    |some e=>Qe E e o K
    |none=>none
def tone{R:Type}(E:Env)(s:St)(o:Oper)(K:St->Option R):Option R:=match frzO E s o with
 |some s'=>AaN E s' o λA=>match frzP E A o with
  |some e=>K e
  |none=>none
 |none=>none
def grpU(E:Env)(g:List Oper):Bool:=g.any λo=>match IT o.op with
 |some (f,_)=>(J8 E.U f).isSome
 |none=>false
def Acw{R:Type}(o:Option St)(K:St->Option R):Option R:=match o with
 |some s=>K s
 |none=>none
def UJ{R:Type}(E:Env)(ρ:Asm)(s:St)(o:Oper)(K:St->Option R):Option R:=match Oj ρ s o.op with
 |some v=>match Acs E.h s o.dst v with
  |some s'=>K s'
  |none=>none
 |none=>tone E s o K
def CK{R:Type}(E:Env)(ops:Array Oper):List Oper->Asm->St->(Asm->St->Option R)->Option R
 |[],ρ,s,K=>K ρ s
 |o::l,ρ,s,K=>match o.guard with
  |none=>none
  |some (j,want)=>match(ops[j]?).bind (·.dst)with
   |none=>none
   |some e=>bif AbR (s.t e)then Acw (De E.h s o.dst) (λs'=>CK E ops l ρ s' K)else match W9 ρ j with
    |some v=>bif v==want then UJ E ρ s o (λs'=>CK E ops l ρ s' K)else Acw (De E.h s o.dst) (λs'=>CK E ops l ρ s' K)
    |none=>match s.t e with
     |.one (.c .bool _ b)=>bif Au (o::l) e then
      P7 b (bif want then UJ E ((j,e,true)::ρ) s o (λs'=>CK E ops l ((j,e,true)::ρ) s' K)else Acw (De E.h s o.dst) (λs'=>CK E ops l ((j,e,true)::ρ) s' K))
       (bif want then Acw (De E.h s o.dst) (λs'=>CK E ops l ((j,e,false)::ρ) s' K)else UJ E ((j,e,false)::ρ) s o (λs'=>CK E ops l ((j,e,false)::ρ) s' K))else none
     |_=>none
def rowS(E:Env)(s:St)(o:Oper):List Seg->Option (Oper×Oper×PtR)
 |.one o2:: .one o3::_=>bif o.guard.isNone&&o2.guard.isNone&&o3.guard.isNone then(Wa E s [] o o2 o3).map λA=>(o2,o3,A)else none
 |_=>none
def L4{R:Type}(E:Env)(ops:Array Oper):List Seg->Nat->St->(St->Option R)->Option R
 |[],_,s,K=>K s
 |_::l,k+1,s,K=>L4 E ops l k s K
 |.one o::l,0,s,K=>match rowS E s o l with
  |some (_,_,A)=>oif A.p A.dec (L4 E ops l 2 A.s K)
  |none=>match o.guard with
   |none=>tone E s o λs'=>L4 E ops l 0 s' K
   |some _=>none
 |.grp g pk::l,0,s,K=>match YQ E.h pk with
  |some d=>bif grpU E g then CK E ops g [] s λρ s'=>match Oj ρ s' pk.op with
    |some v=>L4 E ops l 0 ⟨AQ (Df g s'.t) d (.one (.c .bool 0 v)),s'.r⟩ K
    |none=>none
   else II (grpB E false ops s g pk) λv=>L4 E ops l 0 ⟨AQ (Df g s.t) d (.one (.c .bool 0 v)),s.r⟩ K
  |none=>none
def tops{R:Type}(E:Env)(ops:Array Oper)(l:List Seg)(s:St)(K:St->Option R):Option R:=L4 E ops l 0 s K
theorem QF{E:Env}{C:Ctx}(h:De E.h s o.dst=some s')(B:AU C E.h.n s.den a w):AU C E.h.n s'.den (a.put o.dst undef) w/\s'.r=s.r/\∀i,o.dst≠some i->s'.t i=s.t i:=by
 unfold De at h;split at h
 .rename_i d hd
  cases A:Nat.blt d E.h.n with
  |false=>grind
  |true=>
   rw[A]at h;cases h;have J:=B.skipU (blE A);refine⟨?_,rfl,λi F=>Ba λe=>F (by grind)⟩
   have e:(St.den ⟨AQ s.t d (.tup []),s.r⟩)=⟨AJ s.den.t d udV,s.den.σ⟩:=by
    have:=B3 (r:=s.r) (t:=s.t) (d:=d) (y:=.tup []);show Ms.mk (λi=>(AQ s.t d (.tup []) i).v s.r) _=_
    rw[this];rfl
   grind
 .rename_i hd
  cases h;refine⟨?_,rfl,λ_ _=>rfl⟩
  rw[hd];trivial
section wp
variable {P:Program}{E:Env}{C:Ctx} (hE:EOK P E)
include hE
theorem VS{R:Type}{s:St}{o:Oper}{K:St->Option R}{z:R}{a:Act}{w:World}{next:Act->World->Prop}{Q:Exit->Act->World->Prop}(F:AU C E.h.n s.den a w)(h:(AaM E s o.type o.op λy=>match s.put E.h o.dst y with
   |some s'=>K s'
   |none=>none)=some z) (hn:∀s' A w',(∃y,s.put E.h o.dst y=some s')->AU C E.h.n s'.den A w'->K s'=some z->next A w'):o.wp P a w next Q:=by
 obtain⟨_,y,J,B⟩:=Iq hE h;split at B
 case h_2=>grind
 rename_i s' e;exact Uq J e F λA w' L=>hn s' A w' ⟨y,e⟩ L B
theorem Yh{K:St->Option R}{z0:R}{next:Act->World->Prop}{Q:Exit->Act->World->Prop}(hs:AU C E.h.n s.den a w)(h:AaL E s o K=some z0)
  (hn:∀s' a' w',Kp (λi=>decide (o.dst≠some i)) s s'->AU C E.h.n s'.den a' w'->K s'=some z0->next a' w'):o.wp P a w next Q:=by
 unfold AaL at h;split at h
 case h_2=>cases h
 rename_i z id eat hsf;split at h
 case h_2=>cases h
 rename_i s1 hd;split at h
 case h_2=>cases h
 rename_i A ha;cases hu:A.o with
 |none=>rw[hu]at h;cases h
 |some u=>
 rw[hu]at h;simp only[Option.bind_some]at h;obtain⟨B,hs2⟩:∃B:St,B=⟨AQ (AQ s1.t A.y (A.u u)) A.d (A.z u),s1.r⟩:=⟨_,rfl⟩;rw[<-hs2]at h;obtain⟨hsb,h⟩:=A7 h;unfold seqB at hsb;rw[bAE]at hsb;obtain⟨hb1,hb2⟩:=hsb;obtain⟨v,r,hne,hlq,hvl,Z,hyd,hyn,f,xs,e,zk,g1,g2,g3,g4,g5⟩:=Nx hE.U (Al:=λ_ _=>False) (λ_=>.inl rfl) (VLe.refl s1.den.t) ha hu
 rw[<-hs2]at hvl;have g5:=bqE g5;have hz:A.y=z:=g4.symm.trans g5;have hroot:Cr s z=some id:=by
  unfold seqF at hsf;rw[g1]at hsf;simp only[g2,g3]at hsf;split at hsf
  .rename_i id' hr
   cases hsf;exact hr
  .cases hsf
 rw[hz]at hlq hvl hyd hyn;obtain⟨D,ρ,F,T,hp,hT,hval⟩:=OU hd hs (Below.refl w.heap.size w);have hzv:=hval z id hyn hroot;refine hlq C ρ F a w D T s1.den.t (λ_ _=>rfl) (λ_ _ h=>h.elim) hp next Q λa' w' D' T' hp' hT' htm=>?_
 have hPR:ZC [o.dst] ⟨I1 o.dst r (AV [(z,.put v)] s1.den.t),s1.den.σ⟩ B:=by
  refine⟨by rw[hs2];rfl,λi=>?_,λi W=>⟨λhoi=>?_,?_⟩⟩
  .rcases hvl i with e|e
   .show As (I1 o.dst r (AV [(z,.put v)] s1.den.t) i) _
    rw[e];exact As.refl _
   .rw[e.1];exact As.dead _
  .have W:=List.mem_singleton.1 W
   rw[<-W]at hb1;simp only[Bool.or_eq_true,Bool.not_eq_true']at hb1;rcases hb1 with h|h
   .rw[hoi]at h;cases h
   .exact h
  .rcases hvl i with e|e
   .exact .inl e
   .right
    refine⟨?_,e.2⟩
    have:AS ((B.t i).v B.r)=false:=by
     show AS (B.den.t i)=false;rw[e.1];rfl
    rw[Sl.own_v]at this;exact this
 have O:=OV hd;obtain⟨hro,hzst,_⟩:=Ci hroot;have hdz:o.dst≠some z:=by rw[Z];intro e;exact hyd (Option.some.inj e).symm
 have hs2t:∀i,i≠z->o.dst≠some i->B.t i=s1.t i:=by
  intro i h1 h2;rw[hs2];show AQ (AQ s1.t A.y (A.u u)) A.d (A.z u) i=_;rw[Ba λe=>h2 (by rw[Z,e]),Ba (by rw[hz];exact h1)]
 have J:B.r=s1.r:=by rw[hs2]
 have hkn:∀s':St,Kp (Au [o]) s' (s'.promA [o.dst]):=λs'=>HV [o] s'
 have nd:∀i,o.dst≠some i->Au [o] i=true:=by
  intro i W
  show((match o.dst with
   |some e=>!Nat.beq e i
   |none=>true)&&true)=true
  rw[Bool.and_true,Z];show(!Nat.beq A.d i)=true;rw[BE λe=>W (by rw[Z,e])];rfl
 -- what is left of it
 have hTz:∀x b,T' x b->o.dst=some x\/x=z:=λx b hb=>(hT' x b hb).imp (λh=>h) fun⟨b',h⟩=>List.mem_singleton.1 (hT x b' h)
 cases eat with
 |true=>
  simp only[cond_true]at h hb2;have hcl:=PR.close [o.dst] _ _ _ _ _ hp' λx b hb=>by
   rcases hTz x b hb with h1|h1
   .rw[h1];exact List.mem_singleton.2 rfl
   .exfalso
    subst h1
    have hown:AS (I1 o.dst r (AV [(x,.put v)] s1.den.t) x)=false:=by
     have h1:(B.t x).own=false:=by simpa using hb2
     have h2:AS (B.den.t x)=false:=by
      show AS ((B.t x).v B.r)=false;rw[Sl.own_v];exact h1
     rcases hvl x with e|e
     .rw[e];exact h2
     .exact e.2
    exact AF _ _ _ hown (hp'.tm x hyn) b hb
  obtain⟨q1,q2⟩:=JY _ _ _ hPR;have hs3:AU C E.h.n (B.promA [o.dst]).den a' w':=hcl.sub (by rw[q2]) (λi _=>by rw[q2];exact Sub.refl _) q1
  have k1:=hkn B;refine hn _ _ _ ⟨λi W L=>?_,λj hl hj=>?_,?_⟩ hs3 h
  .have W:=of_decide_eq_true W
   have hiz:i≠z:=by rintro rfl;rw[hzst]at L;cases L
   have Y:=O.t i rfl L;have e2:=hs2t i hiz W;rw[k1.t i (nd i W) (by rw[e2,Y];exact L),e2,Y]
  .have Y:=O.r j hl hj
   rw[k1.r j (by rw[J];exact Nat.lt_of_lt_of_le hl O.l) (by rw[J,Y];exact hj),J,Y]
  .exact Nat.le_trans O.l (by rw[<-J];exact k1.l)
 |false=>
  simp only[cond_false,bAE]at h hb2;obtain⟨⟨hir,hlt⟩,M⟩:=hb2;have hlt:=blE hlt;have M:s1.r.getD id .dead=.dead:=by
   split at M
   .assumption
   .cases M
  have hSz:I1 o.dst r (AV [(z,.put v)] s1.den.t) z=B.den.t z:=by
   rcases hvl z with e|e
   .exact e
   .obtain⟨_,h3,⟨s0,sz,nn,f,h4,_⟩,_⟩:=Ck hir
    have Y:(B.t z).v B.r=.dead:=e.1;rw[h3,h4]at Y;cases Y
  have hobj:KR (I1 o.dst r (AV [(z,.put v)] s1.den.t) z):=by
   rw[hSz];show KR ((B.t z).v B.r);rw[(Ck hir).2.1];exact(Ck hir).2.2.1
  obtain⟨F2,T2,hp2,hT2⟩:=PR.backs [(z,id)] _ _ _ _ hp' (by simp) (by simp) λp hpm=>by
   rw[List.mem_singleton.1 hpm];refine⟨hyn,by show id<(s1.r.map Ac.v).length;rw[List.length_map];exact hlt,?_,?_,hobj⟩
   .show(s1.r.map Ac.v).getD id .dead=.dead
    rw[Aq,M];rfl
   .rw[<-hzv,Array.getD_eq_getD_getElem?,Array.getD_eq_getD_getElem?,htm z hdz]
  have hrd:B6 (AQ (AQ s1.t A.y (A.u u)) A.d (A.z u) z)=B6 (B.t z):=by rw[hs2]
  rw[hrd]at h
  have hRv:(B6 (B.t z)).v=I1 o.dst r (AV [(z,.put v)] s1.den.t) z:=by
   rw[hSz];exact((Ck hir).2.1 B.r).symm
  have hYs:∀y∈KL E s o z id,y<E.h.n/\y≠z/\o.dst≠some y/\Cr s y=some id:=by
   intro y hy;unfold KL at hy;rw[List.mem_filter,List.mem_range]at hy;obtain⟨h1,h2⟩:=hy;simp only[bAE,Bool.not_eq_true']at h2;obtain⟨⟨h2,h3⟩,h4⟩:=h2;refine⟨h1,λe=>(by rw[e,Nat.beq_refl]at h2;cases h2),λe=>?_,?_⟩
   .rw[e]at h3
    simp[Nat.beq_refl]at h3
   .split at h4
    .rename_i j hj
     rw[hj,bqE h4]
    .cases h4
  have hlr:id<s1.den.σ.length:=by show id<(s1.r.map Ac.v).length;rw[List.length_map];exact hlt
  have hset:(s1.den.σ.set id (I1 o.dst r (AV [(z,.put v)] s1.den.t) z)).getD id .dead=(B6 (B.t z)).v:=by
   rw[hRv,gDE,List.getElem?_set_self hlr];rfl
  have hp3:=PR.reref (id:=id) (v:=(B6 (B.t z)).v) (by show id<(s1.den.σ.set id _).length;simpa using hlr) hset (by rw[hRv];exact hobj) (KL E s o z id) _ hp2 λy hy=>by
    obtain⟨y1,y2,y3,y4⟩:=hYs y hy;refine⟨y1,?_,λb hb=>?_⟩
    .rw[<-hval y id y1 y4,Array.getD_eq_getD_getElem?,Array.getD_eq_getD_getElem?,htm y y3]
    .obtain⟨k1,_⟩:=hT2 y b hb
     exact(hTz y b k1).elim y3 y2
  have hcl:AU C E.h.n (Go.Ve.promA [o.dst] ⟨Go.Ve.rerefs id (B6 (B.t z)).v (KL E s o z id) (Go.Ve.backs [(z,id)] ⟨I1 o.dst r (AV [(z,.put v)] s1.den.t),s1.den.σ⟩).t,(Go.Ve.backs [(z,id)] ⟨I1 o.dst r (AV [(z,.put v)] s1.den.t),s1.den.σ⟩).σ⟩) a' w':=PR.close [o.dst] _ _ _ _ _ hp3 λx b hb=>by
   obtain⟨k1,k2⟩:=hT2 x b hb;rcases hTz x b k1 with h1|h1
   .rw[h1];exact List.mem_singleton.2 rfl
   .exact absurd (by rw[h1];simp) k2
  have hP2:=Ky [(z,id)] _ _ hPR (by simp) λp hpm=>by
   rw[List.mem_singleton.1 hpm];exact⟨λhm=>hdz (List.mem_singleton.1 hm).symm,by rw[J];exact hlt,hSz,hir⟩
  have hbr:(B.backs [(z,id)]).r.getD id .dead=B6 (B.t z):=by
   show(B.r.set id (B6 (B.t z))).getD id .dead=_;rw[J,gDE,List.getElem?_set_self hlt];rfl
  have hP3:=Le (id:=id) (R:=B6 (B.t z)) (by rw[hRv];exact hobj) (KL E s o z id) _ _ hP2 hbr λy hy hm=>(hYs y hy).2.2.1 (List.mem_singleton.1 hm).symm
  obtain⟨q1,q2⟩:=JY _ _ _ hP3;have hs3:AU C E.h.n ((St.rerefs id (B6 (B.t z)) (KL E s o z id) (B.backs [(z,id)])).promA [o.dst]).den a' w':=hcl.sub (by rw[q2]) (λi _=>by rw[q2];exact Sub.refl _) q1
  have k1:=hkn (St.rerefs id (B6 (B.t z)) (KL E s o z id) (B.backs [(z,id)]));obtain⟨b1,b2,b3⟩:=M9 [(z,id)] B;obtain⟨c1,c2⟩:=NR (id:=id) (R:=B6 (B.t z)) (KL E s o z id) (B.backs [(z,id)]);refine hn _ _ _ ⟨λi W L=>?_,λj hl hj=>?_,?_⟩ hs3 h
  .have W:=of_decide_eq_true W
   have hiz:i≠z:=by rintro rfl;rw[hzst]at L;cases L
   have hiY:i∉KL E s o z id:=λhm=>by
    have:=(Ci (hYs i hm).2.2.2).2.1;rw[L]at this;cases this
   have Y:=O.t i rfl L;have e2:=hs2t i hiz W;have e3:=b1 i (λp hp=>by rw[List.mem_singleton.1 hp];exact λe=>hiz e.symm) (by rw[e2,Y];exact L)
   have e4:=c2 i hiY;rw[k1.t i (nd i W) (by rw[e4,e3,e2,Y];exact L),e4,e3,e2,Y]
  .have Y:=O.r j hl hj
   have hjid:id≠j:=by rintro rfl;rw[hro]at hj;cases hj
   have e3:(B.backs [(z,id)]).r.getD j .dead=s1.r.getD j .dead:=(b2 j λp hp=>by rw[List.mem_singleton.1 hp];exact hjid).trans (by rw[J])
   rw[k1.r j (by rw[c1,b3,J];exact Nat.lt_of_lt_of_le hl O.l) (by rw[c1,e3,Y];exact hj),c1,e3,Y]
  .exact Nat.le_trans O.l (by rw[<-J,<-b3,<-c1];exact k1.l)
theorem UB{next:Act->World->Prop}{Q:Exit->Act->World->Prop}(h:Pm E.Θ s o=some s')(hs:AU C E.h.n s.den a w)
  (hn:∀a' w',Kp (λi=>decide (o.dst≠some i)) s s'->AU C E.h.n s'.den a' w'->next a' w'):o.wp P a w next Q:=by
 unfold Pm at h;split at h
 case h_2=>cases h
 rename_i t m k x ho hd;split at h
 case h_2=>cases h
 rename_i i id p hi hm;split at h
 case h_2=>cases h
 rename_i kt B q k' v' xs hty hmp A;obtain⟨W,F⟩:=A7 h;clear h;rw[bAE]at W;split at F
 case h_2=>cases F
 rename_i ys key y L hkey hy;have L:=Hy L;cases L;obtain⟨sk,e1,e2⟩:=Xg (r:=s.r) W.1 hkey;obtain⟨sy,e3,e4⟩:=Xg (r:=s.r) W.2 hy;have Z:=hE.Θ.mp hi;rw[hty]at Z;obtain⟨J,U,m1,m2,m3,m4⟩:=map_v W.1 W.2 Z (by rw[hmp];simp)
 have hlt:id<s.r.length:=by
  rcases Nat.lt_or_ge id s.r.length with h|h
  .exact h
  .unfold Ae at A
   rw[gDE,List.getElem?_eq_none h]at A;simp only[Option.getD_none,C1]at A;cases A
 refine HD (h:=E.h) (K:=λS'=>S'=⟨s.den.t,s.den.σ.set id (upd p (s.den.σ.getD id .dead) (mpV true kt B (AaI kt B key y ys)))⟩) ?_ hs λS' a' w' hS Y=>?_
 .unfold vop
  rw[ho];refine⟨hd,?_⟩;unfold Pd;rw[Bh hm];show ∃J U l k x,VJ P t=some (J,U)/\sub p ((s.r.map Ac.v).getD id .dead)=.mp true l/\_;refine⟨J,U,P2 kt B ys,_,_,m1,?_,by rw[Bh e1];exact e2,by rw[Bh e3];exact e4,m3 key,?_,?_⟩
  .rw[A5 (by rw[A];simp),A];rfl
  .intro e he
   obtain⟨z,_,rfl⟩:=List.mem_map.1 he;exact m4 key z.1
  .rw[ZI W.1];rfl
 .subst hS
  unfold putM at F;split at F
  .rename_i M
   cases F;obtain rfl:=(JJ p).1 M;have A:s.r.getD id .dead=.mp false kt B ys:=A;refine hn a' w' ⟨λi _ _=>rfl,λj hl hj=>?_,by simp⟩ (Y.sub ?_ (λi _=>?_) λi=>?_)
   .show(s.r.set id _).getD j .dead=_
    by_cases e:j=id
    .subst e;rw[A]at hj;cases hj
    .grind
   .show((s.r.set id _).map Ac.v).length=((s.r.map Ac.v).set id _).length
    simp
   .exact CH (r:=s.r) (r0:=.mp false kt B (AaI kt B key y ys)) (Sub.refl (mpV true kt B (AaI kt B key y ys))) i
   .show As ((s.t i).v s.r) ((s.t i).v (s.r.set id _))
    rw[set_mp A];exact As.refl _
  .rename_i q i k M
   obtain rfl:=(JJ p).2 _ _ _ M;split at F
   case h_2=>cases F
   rename_i r0 O;cases F;refine hn a' w' ⟨λi _ hst=>Sl.kill_stay hst _ _ _,λj hl hj=>?_,by simp⟩ (Y.sub ?_ (λi _=>?_) λi=>?_)
   .show(s.r.set id r0).getD j .dead=_
    have:j≠id:=by
     rintro rfl
     rw[HN O]at hj;cases hj
    simp only[gDE,List.getElem?_set_ne (Ne.symm this)]
   .show((s.r.set id r0).map Ac.v).length=((s.r.map Ac.v).set id _).length
    simp
   .refine CH ?_ i
    have:=Iu q _ _ O;show Sub (upd _ ((s.r.map Ac.v).getD id .dead) _) _;rw[Aq];exact this
   .refine Sl.kill_v (G:=λv=>v) GOK.idf (λid' q' hq=>?_) (s.t i)
    by_cases he:id'=id
    .subst he
     rw[BR hlt];refine Ka q _ _ O q' ?_;unfold hit at hq;rw[Nat.beq_refl,Bool.true_and,Bool.or_eq_false_iff]at hq;exact hq.1
    .rw[Bk he]
theorem Yj{K:St->Option R}{z:R}{next:Act->World->Prop}{Q:Exit->Act->World->Prop}(hs:AU C E.h.n s.den a w)(h:AaN E s o K=some z)
  (hn:∀s' L w',Kp (λi=>decide (o.dst≠some i)) s s'->AU C E.h.n s'.den L w'->K s'=some z->next L w'):o.wp P a w next Q:=by
 unfold AaN at h;split at h
 .rename_i A hA
  cases hu:A.o with
  |none=>rw[hu]at h;cases h
  |some u=>
   rw[hu]at h;simp only[Option.bind_some]at h;split at h
   case h_2=>cases h
   rename_i s' hp;exact YW hE.M hA hu hp hs λL w' hk h'=>hn s' L w' hk h' h
 split at h
 .rename_i s' hs'
  exact UB hE hs' hs λL w' hk h'=>hn s' L w' hk h' h
 split at h
 .exact Yh hE hs h hn
 split at h
 .rename_i t x v Z
  unfold ZQ at Z;split at Z
  case h_2=>cases Z
  rename_i t' x' v' ho hd;cases Z;split at h
  .rename_i A ha
   by_cases hp:A.p
   .have e:oif A.p A.dec (K A.s)=K A.s:=@if_pos _ A.dec hp _ _ _
    rw[e]at h;exact Yu hE.Θ ho hd ha hp hs λL w' h'=>hn A.s L w' ((Yv ha).weak λ_ _=>rfl) h' h
   .have e:oif A.p A.dec (K A.s)=none:=@if_neg _ A.dec hp _ _ _
    rw[e]at h;cases h
  rw[Uu]at h;split at h
  case h_2=>cases h
  rename_i s' hs';exact V5 hE.Θ ho hd hs' hs λL w' h'=>hn s' L w' ((V6 hs').weak λ_ _=>rfl) h' h
 .have quiet:Qe E s o K=some z->o.wp P a w next Q:=λh=>VS hE hs h λs' L w' ⟨y,hp⟩ h' hK=>hn s' L w' (Oe hp) h' hK
  have lr:∀{s0:St}{d:Nat}{A:LR},Kp (λ_=>true) s s0->o.dst=some d->(∀j∈A.js,(s0.r.getD j .dead).isRo=false)->lrK E s0 d A K=some z->
    (∀s',(Ap A.js s0).put E.h (some d) (.one A.y)=some s'->E.h.fz.contains d=false->A.p->(∀L w',AU C E.h.n s'.den L w'->next L w')->o.wp P a w next Q)->o.wp P a w next Q:=by
   intro s0 d A k0 J hro h hw;unfold lrK at h;cases hfz:E.h.fz.contains d with
   |true=>rw[hfz]at h;cases h
   |false=>
    rw[hfz]at h;simp only[cond_false]at h;by_cases hp:A.p
    .have h:(match(Ap A.js s0).put E.h (some d) (.one A.y)with
      |some s'=>K s'
      |none=>none)=some z:=by
      have e:oif A.p A.dec (match(Ap A.js s0).put E.h (some d) (.one A.y)with
       |some s'=>K s'
       |none=>none)=(match(Ap A.js s0).put E.h (some d) (.one A.y)with
       |some s'=>K s'
       |none=>none):=@if_pos _ A.dec hp _ _ _
      rw[<-e];exact h
     split at h
     case h_2=>cases h
     rename_i s' F;refine hw s' F hfz hp λL w' h'=>hn s' L w' ?_ h' h
     have k2:=Oe F;rw[J];exact(k0.trans (Kn A.js s0 hro) (λ_ _=>rfl) λ_ _=>rfl).trans k2 (λ_ _=>rfl) λi hi=>hi
    .have e:oif A.p A.dec (match(Ap A.js s0).put E.h (some d) (.one A.y)with
      |some s'=>K s'
      |none=>none)=none:=@if_neg _ A.dec hp _ _ _
     rw[e]at h;cases h
  split at h
  case h_4=>
   split at h
   .exact quiet h
   .split at h
    case h_2=>cases h
    rename_i s0 hg;exact VS hE (Jv _ hg hs) h λs' L w' ⟨y,hp⟩ h' hK=>hn s' L w' ((Jw _ hg).trans (Oe hp) (λ_ _=>rfl) λi hi=>hi) h' hK
  .rename_i d t x y B
   split at h
   case h_2=>cases h
   rename_i s0 U;split at h
   case h_2=>cases h
   rename_i A ha;unfold W7 at B;split at B
   case h_3=>cases B
   .cases B
   .rename_i d' c J hop
    split at B
    case h_3=>cases B
    .rename_i Y
     split at B
     case h_2=>cases B
     rename_i x' y' t1 t2 hargs hats;obtain⟨hbt,B⟩:=A7 B;cases B;have ho:o.op=.call ⟨.builtin .append,#[x,y],#[t,t]⟩:=by
      rw[hop];obtain⟨cal,args,ats⟩:=c;simp only at Y hargs hats;have e1:args= #[x,y]:=by cases args;simp at hargs;simp[hargs]
      have e2:ats= #[t,t]:=by cases ats;simp at hats;simp[hats,bqE hbt]
      rw[Y,e1,e2]
     exact lr (M2 U) J (UH ha) h λs' F hfz hp hk=>UG hE.Θ ho J hfz ha hp F (M1 U hs) hk
    .split at B<;>cases B
  .rename_i d t n ps B
   have O:o.dst=some d/\o.op=.buildSlice t n ps:=by
    unfold W7 at B;split at B
    .rename_i h1 h2;cases B;exact⟨h1,h2⟩
    .split at B
     .split at B
      .rename_i t1 t2 _ _
       cases hbb:Nat.beq t1 t2<;>rw[hbb]at B<;>cases B
      .cases B
     .split at B<;>cases B
     .cases B
    .cases B
   split at h
   case h_2=>cases h
   rename_i s0 U;split at h
   .rename_i A ha
    exact lr (XG _ U) O.1 (Aa4 L6 ha) h λs' F hfz _ hk=>Aa3 hE.Θ O.2 O.1 hfz ha F (XF _ U hs) hk
   .exact quiet h
  .rename_i d f xs B
   split at h
   case h_2=>cases h
   rename_i A ha;have O:o.dst=some d/\∃ats,o.op=.call ⟨.value (.func f),xs,ats⟩:=by
    unfold W7 at B;split at B
    .cases B
    .rename_i d' c J hop
     split at B
     .split at B
      .rename_i t1 t2 _ _
       cases hbb:Nat.beq t1 t2<;>rw[hbb]at B<;>cases B
      .cases B
     .rename_i f' Y
      split at B
      .cases B
       refine⟨J,c.argTypes,?_⟩;rw[hop];obtain⟨cal,args,ats⟩:=c;simp only at Y;rw[Y]
      .cases B
     .cases B
    .cases B
   obtain⟨J,ats,ho⟩:=O;cases hu:A.o with
   |none=>rw[hu]at h;cases h
   |some u=>
    rw[hu]at h;simp only[NT]at h
    have h:(match A.st u with
     |some s1=>match s1.put E.h (some d) (.one (A.y u))with
      |some s'=>K s'
      |none=>none
     |none=>none)=some z:=h
    split at h
    case h_2=>cases h
    rename_i s1 Z;split at h
    case h_2=>cases h
    rename_i s' F;refine Wh hE.W ho J ha hu Z F hs λL w' h'=>hn s' L w' ?_ h' h
    have k2:=Oe F;rw[J];exact(Wi ha Z).trans k2 (λ_ _=>rfl) λi hi=>hi
theorem VV{K:St->Option R}{z:R}{next:Act->World->Prop}{Q:Exit->Act->World->Prop}(L:AU C E.h.n s.den a w)(h:tone E s o K=some z)
  (hn:∀s' e w',Kp (λi=>decide (o.dst≠some i)) s s'->AU C E.h.n s'.den e w'->K s'=some z->next e w'):o.wp P a w next Q:=by
 unfold tone at h;split at h
 case h_2=>cases h
 rename_i s1 U;obtain⟨g1,g2⟩:=Ab5 U L;refine Yj hE g1 h λs' e w' M A F=>?_
 split at F
 case h_2=>cases F
 rename_i J O;obtain⟨Y,W⟩:=Ab4 O A;exact hn J e w' ((g2.trans M (λ_ _=>rfl) λi B=>B).trans W (λ_ B=>B) λ_ _=>rfl) Y F
theorem pathgW{z:Bool}{Q:Exit->Act->World->Prop}{rest:List Oper}:∀(g:List Oper) (ρ:Asm) (s:St) (a:Act) (w:World) (K:Asm->St->Option Bool),C4 ops ρ s.den.t->(∀x∈ρ,Au g x.2.1=true/\(s.t x.2.1).stay=true)->AU C E.h.n s.den a w->CL E false ops g ρ s K=some z->
  (∀ρ' s' a' w',s.r.length<=s'.r.length->(s'.r.length=s.r.length->s'.r=s.r/\∀i,Au g i=true->s'.t i=s.t i)->AU C E.h.n s'.den a' w'->C4 ops ρ' s'.den.t->K ρ' s'=some z->wpList P ops Q rest a' w')->wpList P ops Q (g++rest) a w:=by
 intro g
 induction g with
 |nil=>intro ρ s a w K O _ hs h hK;exact hK ρ s a w (Nat.le_refl _) (λ_=>⟨rfl,λ_ _=>rfl⟩) hs O h
 |cons o g ih=>
  intro ρ s a w K O hnd hs h hK;unfold CL at h;split at h
  case h_1=>cases h
  rename_i j F hgo;split at h
  case h_1=>cases h
  rename_i dj hdj;rw[List.cons_append]
  have bstay:∀(y:Sl) (r r':List Ac) (v:Bool),y.v r=.c (.bool v)->y.stay=true->y.v r'=.c (.bool v):=by
   intro y r r' v Z hst;cases y with
   |one c=>cases c<;>first|exact Z|cases hst
   |new l=>exact Z
   |agg l=>cases Z
   |tup l=>cases Z
   |pk t l=>cases Z
  -- what is behind this operation
  have cont:∀(A:Asm) (s1:St) (a1:Act) (w1:World),C4 ops A s.den.t->(∀x∈A,Au (o::g) x.2.1=true/\(s.t x.2.1).stay=true)->s.r.length<=s1.r.length->(s1.r.length=s.r.length->s1.r=s.r/\∀i,o.dst≠some i->s1.t i=s.t i)->(∀i,o.dst≠some i->(s.t i).stay=true->s1.t i=s.t i)->AU C E.h.n s1.den a1 w1->CL E false ops g A s1 K=some z->wpList P ops Q (g++rest) a1 w1:=by
   intro A s1 a1 w1 J M hle hsm hst B h1;refine ih A s1 a1 w1 K (λx U=>⟨(J x U).1,?_⟩) (λx U=>?_) B h1 λρ2 s2 a2 w2 g1 g2 g3 g4 g5=>?_
   .obtain⟨n1,n2⟩:=M x U
    show(s1.t x.2.1).v s1.r=_;rw[hst _ (AR n1).1 n2];exact bstay _ s.r s1.r _ (J x U).2 n2
   .obtain⟨n1,n2⟩:=M x U
    rw[hst _ (AR n1).1 n2];exact⟨(AR n1).2,n2⟩
   .refine hK ρ2 s2 a2 w2 (Nat.le_trans hle g1) (λhe=>?_) g3 g4 g5
    obtain⟨k1,k2⟩:=g2 (by omega)
    obtain⟨k3,k4⟩:=hsm (by omega)
    refine⟨k1.trans k3,λi hi=>?_⟩
    obtain⟨n1,n2⟩:=AR hi;rw[k2 i n2,k4 i n1]
  have pass:∀A:Asm,C4 ops A s.den.t->(∀x∈A,Au (o::g) x.2.1=true/\(s.t x.2.1).stay=true)->onS (De E.h s o.dst) (λs'=>CL E false ops g A s' K)=some z->wpList P ops Q (g++rest) (a.put o.dst undef) w:=by
   intro A h1 h2 W;cases hp:De E.h s o.dst with
   |none=>rw[hp]at W;cases W
   |some s1=>
    rw[hp]at W;obtain⟨q1,q2,q3⟩:=QF hp hs;exact cont A s1 _ w h1 h2 (by rw[q2];exact Nat.le_refl _) (λ_=>⟨q2,q3⟩) (λi hi _=>q3 i hi) q1 W
  have step:∀A:Asm,C4 ops A s.den.t->(∀x∈A,Au (o::g) x.2.1=true/\(s.t x.2.1).stay=true)->Mj E false A s o (λs'=>CL E false ops g A s' K)=some z->o.wp P a w (λa' w'=>wpList P ops Q (g++rest) a' w') Q:=by
   intro A h1 h2 W;unfold Mj at W;split at W
   .rename_i v Z
    split at W
    case h_2=>cases W
    rename_i s1 B;have hQS:QS P s o.op (.one (.c .bool 0 v)):=IF (VLe.refl _) h1 Z (Sub.refl _);have L:s.put E.h o.dst (.one (.c .bool 0 v))=some s1/\s1.r=s.r/\∀i,o.dst≠some i->s1.t i=s.t i:=by
     unfold Acs at B;split at B
     case h_2=>cases B
     rename_i d hd;obtain⟨hb,B⟩:=A7 B;rw[bAE,Bool.not_eq_true']at hb;cases B;refine⟨?_,rfl,λi hi=>Ba λe=>hi (by rw[hd,e])⟩
     rw[hd];unfold St.put;simp only[hb.1,hb.2,cond_true,cond_false];rfl
    exact Uq hQS L.1 hs λa' w' hs'=>cont A s1 a' w' h1 h2 (by rw[L.2.1];exact Nat.le_refl _) (λ_=>L.2) (λi hi _=>L.2.2 i hi) hs' W
   .obtain⟨_,y,hq,hy'⟩:=Iq hE W
    split at hy'
    case h_2=>cases hy'
    rename_i s' B;have hp:s.put E.h o.dst y=some s':=by
     cases hyo:y.own&& !fzD E.h o.dst with
     |true=>rw[hyo]at B;cases B
     |false=>rw[hyo]at B;exact B
    obtain⟨⟨new,hr⟩,ht,hsame⟩:=QA hp;refine Uq hq hp hs λa' w' hs'=>cont A s' a' w' h1 h2 (by rw[hr];simp) (λhe=>?_) ht hs' hy'
    have hr1:s'.r=s.r:=by
     have:new=[]:=by
      have:=congrArg List.length hr;rw[List.length_append,he]at this;exact List.length_eq_zero_iff.1 (by omega)
     rw[hr,this,List.append_nil]
    exact⟨hr1,hsame hr1⟩
  have Y:∀(A:Asm) (v:Bool),s.den.t dj=.c (.bool v)->C4 ops A s.den.t->(∀x∈A,Au (o::g) x.2.1=true/\(s.t x.2.1).stay=true)->(v=F->Mj E false A s o (λs'=>CL E false ops g A s' K)=some z)->(v=(!F)->onS (De E.h s o.dst) (λs'=>CL E false ops g A s' K)=some z)->
    wpList P ops Q (o::(g++rest)) a w:=by
   intro A v Z h1 h2 W h4;have hy:=Xq hs (show gv s.den.t ops j=.c (.bool v) by unfold gv;rw[hdj];exact Z)
   unfold wpList;by_cases e:v=F
   .rw[if_pos (by simp[Region.wanted,hgo,hy,e])]
    exact .inl (step A h1 h2 (W e))
   .rw[if_neg (by simp[Region.wanted,hgo,hy,e])]
    exact pass A h1 h2 (h4 (by cases v<;>cases F<;>simp_all))
  cases hu:AbR (s.t dj)with
  |true=>
   rw[hu]at h;have hy:=Xr hs (show gv s.den.t ops j=udV by unfold gv;rw[hdj];exact Xk hu)
   unfold wpList;rw[if_neg (by simp[Region.wanted,hgo,hy])]
   exact pass ρ O hnd h
  |false=>
   rw[hu]at h;simp only[cond_false]at h;split at h
   .rename_i v Z
    obtain⟨d',hm⟩:=H0 Z;obtain⟨e1,e2⟩:=O _ hm;have e1:some dj=some d':=hdj.symm.trans e1;cases e1;refine Y ρ v e2 O hnd (λe=>?_) λe=>?_
    .subst e;simpa using h
    .subst e;cases F<;>exact h
   .split at h
    case h_2=>cases h
    rename_i dd b hb;have hbv:s.den.t dj=.c (.bool b):=by show(s.t dj).v s.r=_;rw[hb];rfl
    obtain⟨hn,h⟩:=A7 h
    have J:C4 ops ((j,dj,b)::ρ) s.den.t:=λx U=>by
     rcases List.mem_cons.1 U with rfl|U
     .exact⟨hdj,hbv⟩
     .exact O x U
    have M:∀x∈(j,dj,b)::ρ,Au (o::g) x.2.1=true/\(s.t x.2.1).stay=true:=λx U=>by
     rcases List.mem_cons.1 U with rfl|U
     .refine⟨hn,?_⟩
      show(s.t dj).stay=true;rw[hb];rfl
     .exact hnd x U
    refine Y ((j,dj,b)::ρ) b hbv J M (λe=>?_) λe=>?_
    .subst e;cases b<;>exact h
    .subst e;cases F<;>exact h
theorem pathXW{z:R}{Q:Exit->Act->World->Prop}{rest:List Oper}:∀(g:List Oper) (ρ:Asm) (s:St) (a:Act) (w:World) (K:Asm->St->Option R),C4 ops ρ s.den.t->(∀x∈ρ,Au g x.2.1=true/\(s.t x.2.1).stay=true)->AU C E.h.n s.den a w->CK E ops g ρ s K=some z->
  (∀ρ' s' a' w',Kp (Au g) s s'->AU C E.h.n s'.den a' w'->C4 ops ρ' s'.den.t->K ρ' s'=some z->wpList P ops Q rest a' w')->wpList P ops Q (g++rest) a w:=by
 intro g
 induction g with
 |nil=>intro ρ s a w K O _ hs h hK;exact hK ρ s a w (Kp.refl _ _) hs O h
 |cons o g ih=>
  intro ρ s a w K O hnd hs h hK;unfold CK at h;split at h
  case h_1=>cases h
  rename_i j B hgo;split at h
  case h_1=>cases h
  rename_i dj hdj;rw[List.cons_append]
  have bstay:∀(y:Sl) (r r':List Ac) (v:Bool),y.v r=.c (.bool v)->y.stay=true->y.v r'=.c (.bool v):=by
   intro y r r' v hv hst;cases y with
   |one c=>cases c<;>first|exact hv|cases hst
   |new l=>exact hv
   |agg l=>cases hv
   |tup l=>cases hv
   |pk t l=>cases hv
  -- what is behind this operation
  have cont:∀(A:Asm) (s1:St) (a1:Act) (w1:World),C4 ops A s.den.t->(∀x∈A,Au (o::g) x.2.1=true/\(s.t x.2.1).stay=true)->Kp (λi=>decide (o.dst≠some i)) s s1->AU C E.h.n s1.den a1 w1->CK E ops g A s1 K=some z->wpList P ops Q (g++rest) a1 w1:=by
   intro A s1 a1 w1 J M hkp F Y;have hst:∀i,o.dst≠some i->(s.t i).stay=true->s1.t i=s.t i:=λi Y h2=>hkp.t i (dT Y) h2
   refine ih A s1 a1 w1 K (λx U=>⟨(J x U).1,?_⟩) (λx U=>?_) F Y λρ2 s2 a2 w2 g1 g3 g4 g5=>?_
   .obtain⟨n1,n2⟩:=M x U
    show(s1.t x.2.1).v s1.r=_;rw[hst _ (AR n1).1 n2];exact bstay _ s.r s1.r _ (J x U).2 n2
   .obtain⟨n1,n2⟩:=M x U
    rw[hst _ (AR n1).1 n2];exact⟨(AR n1).2,n2⟩
   .exact hK ρ2 s2 a2 w2 (hkp.trans g1 (λi hi=>dT (AR hi).1) λi hi=>(AR hi).2) g3 g4 g5
  have pass:∀A:Asm,C4 ops A s.den.t->(∀x∈A,Au (o::g) x.2.1=true/\(s.t x.2.1).stay=true)->Acw (De E.h s o.dst) (λs'=>CK E ops g A s' K)=some z->wpList P ops Q (g++rest) (a.put o.dst undef) w:=by
   intro A Y h2 W;cases hp:De E.h s o.dst with
   |none=>rw[hp]at W;cases W
   |some s1=>
    rw[hp]at W;obtain⟨q1,q2,q3⟩:=QF hp hs;exact cont A s1 _ w Y h2 ⟨λi hi _=>q3 i (of_decide_eq_true hi),λ_ _ _=>by rw[q2],by rw[q2];exact Nat.le_refl _⟩ q1 W
  have step:∀A:Asm,C4 ops A s.den.t->(∀x∈A,Au (o::g) x.2.1=true/\(s.t x.2.1).stay=true)->UJ E A s o (λs'=>CK E ops g A s' K)=some z->o.wp P a w (λa' w'=>wpList P ops Q (g++rest) a' w') Q:=by
   intro A Y h2 W;unfold UJ at W;split at W
   .rename_i v hv
    split at W
    case h_2=>cases W
    rename_i s1 F;have hQS:QS P s o.op (.one (.c .bool 0 v)):=IF (VLe.refl _) Y hv (Sub.refl _);have L:s.put E.h o.dst (.one (.c .bool 0 v))=some s1/\s1.r=s.r/\∀i,o.dst≠some i->s1.t i=s.t i:=by
     unfold Acs at F;split at F
     case h_2=>cases F
     rename_i d hd;obtain⟨hb,F⟩:=A7 F;rw[bAE,Bool.not_eq_true']at hb;cases F;refine⟨?_,rfl,λi hi=>Ba λe=>hi (by rw[hd,e])⟩
     rw[hd];unfold St.put;simp only[hb.1,hb.2,cond_true,cond_false];rfl
    exact Uq hQS L.1 hs λa' w' hs'=>cont A s1 a' w' Y h2 ⟨λi hi _=>L.2.2 i (of_decide_eq_true hi),λ_ _ _=>by rw[L.2.1],by rw[L.2.1];exact Nat.le_refl _⟩ hs' W
   .exact VV hE hs W λs' a' w' hk hs' hy=>cont A s' a' w' Y h2 hk hs' hy
  have Z:∀(A:Asm) (v:Bool),s.den.t dj=.c (.bool v)->C4 ops A s.den.t->(∀x∈A,Au (o::g) x.2.1=true/\(s.t x.2.1).stay=true)->(v=B->UJ E A s o (λs'=>CK E ops g A s' K)=some z)->(v=(!B)->Acw (De E.h s o.dst) (λs'=>CK E ops g A s' K)=some z)->
    wpList P ops Q (o::(g++rest)) a w:=by
   intro A v hv Y h2 W h4;have hy:=Xq hs (show gv s.den.t ops j=.c (.bool v) by unfold gv;rw[hdj];exact hv)
   unfold wpList;by_cases e:v=B
   .rw[if_pos (by simp[Region.wanted,hgo,hy,e])]
    exact .inl (step A Y h2 (W e))
   .rw[if_neg (by simp[Region.wanted,hgo,hy,e])]
    exact pass A Y h2 (h4 (by cases v<;>cases B<;>simp_all))
  cases hu:AbR (s.t dj)with
  |true=>
   rw[hu]at h;have hy:=Xr hs (show gv s.den.t ops j=udV by unfold gv;rw[hdj];exact Xk hu)
   unfold wpList;rw[if_neg (by simp[Region.wanted,hgo,hy])]
   exact pass ρ O hnd h
  |false=>
   rw[hu]at h;simp only[cond_false]at h;split at h
   .rename_i v hv
    obtain⟨d',hm⟩:=H0 hv;obtain⟨e1,e2⟩:=O _ hm;have e1:some dj=some d':=hdj.symm.trans e1;cases e1;refine Z ρ v e2 O hnd (λe=>?_) λe=>?_
    .subst e;simpa using h
    .subst e;cases B<;>exact h
   .split at h
    case h_2=>cases h
    rename_i dd b hb;have hbv:s.den.t dj=.c (.bool b):=by show(s.t dj).v s.r=_;rw[hb];rfl
    obtain⟨hn,h⟩:=A7 h
    have J:C4 ops ((j,dj,b)::ρ) s.den.t:=λx U=>by
     rcases List.mem_cons.1 U with rfl|U
     .exact⟨hdj,hbv⟩
     .exact O x U
    have M:∀x∈(j,dj,b)::ρ,Au (o::g) x.2.1=true/\(s.t x.2.1).stay=true:=λx U=>by
     rcases List.mem_cons.1 U with rfl|U
     .refine⟨hn,?_⟩
      show(s.t dj).stay=true;rw[hb];rfl
     .exact hnd x U
    refine Z ((j,dj,b)::ρ) b hbv J M (λe=>?_) λe=>?_
    .subst e;cases b<;>exact h
    .subst e;cases B<;>exact h
theorem Yi{ops:Array Oper}{K:St->Option R}{z:R}{Q:Exit->Act->World->Prop}:∀(l:List Seg) (k:Nat) (s:St) (a:Act) (w:World),AU C E.h.n s.den a w->
  L4 E ops l k s K=some z->(∀s' a' w',Kp (Au ((l.drop k).flatMap Seg.ops)) s s'->AU C E.h.n s'.den a' w'->K s'=some z->Q .normal a' w')->wpList P ops Q ((l.drop k).flatMap Seg.ops) a w:=by
 intro l
 induction l with
 |nil=>intro k s a w hs h Y;rw[List.drop_nil]at Y⊢;exact Y s a w (Kp.refl _ _) hs h
 |cons sg l ih=>
  intro k s a w hs h Y;cases k with
  |succ k=>exact ih k s a w hs h Y
  |zero=>
  have ih2:=ih
  replace ih:=ih 0
  simp only[List.drop_zero]at ih Y⊢;cases sg with
  |one o=>
   unfold L4 at h;split at h
   .rename_i o2 o3 A M
    unfold oif at h;split at h
    case isFalse=>cases h
    rename_i hp;obtain⟨Z,rfl,g1,g2,g3,M⟩:∃Z,l=.one o2:: .one o3::Z/\o.guard=none/\o2.guard=none/\o3.guard=none/\Wa E s [] o o2 o3=some A:=by
     unfold rowS at M;split at M
     case h_2=>cases M
     rename_i p2 p3 Z;obtain⟨hg,M⟩:=A7 M;simp only[bAE,Option.isNone_iff_eq_none]at hg;cases hr:Wa E s [] o p2 p3 with
     |none=>rw[hr]at M;cases M
     |some A0=>
      rw[hr]at M;cases M;exact⟨Z,rfl,hg.1.1,hg.1.2,hg.2,hr⟩
    have w1:∀(o:Oper) (a:Act),o.guard=none->Region.wanted o (yielded ops a.tmps)=true:=λo a hg=>by simp[Region.wanted,hg]
    show wpList P ops Q (o::o2::o3::Z.flatMap Seg.ops) a w;unfold wpList;rw[if_pos (w1 o a g1)];refine .inl (Oper.wp_mono (λa1 w1' h1=>?_) (V8 (Q:=Q) hE.Θ M hp hs (next:=λa' w'=>wpList P ops Q (Z.flatMap Seg.ops) a' w') λa' w' hs'=>ih2 2 A.s a' w' hs' h λs2 a2 W h2 h3 h4=>Y s2 a2 W ((V9 M).trans h2 (λi B=>?_) λi B=>?_) h3 h4))
    .unfold wpList
     rw[if_pos (w1 o2 a1 g2)];refine .inl (Oper.wp_mono (λa2 w2' h2=>?_) h1)
     unfold wpList;rw[if_pos (w1 o3 a2 g3)];exact .inl h2
    .have B:Au ([o,o2,o3]++Z.flatMap Seg.ops) i=true:=B
     unfold Au at B⊢;rw[List.all_append,bAE]at B;exact B.1
    .have B:Au ([o,o2,o3]++Z.flatMap Seg.ops) i=true:=B
     unfold Au at B⊢;rw[List.all_append,bAE]at B;exact B.2
   split at h
   case h_2=>cases h
   rename_i hg;rw[List.flatMap_cons];show wpList P ops Q (o::l.flatMap Seg.ops) a w;unfold wpList;rw[if_pos (by simp[Region.wanted,hg])]
   refine .inl (VV hE hs h λs' a' w' hk hs' hy=>ih s' a' w' hs' hy λs2 a2 W h2 h3 h4=>Y s2 a2 W (hk.trans h2 (λi B=>dT ?_) λi B=>?_) h3 h4)
   .exact(AR (o:=o) (g:=l.flatMap Seg.ops) B).1
   .exact(AR (o:=o) (g:=l.flatMap Seg.ops) B).2
  |grp g pk=>
   unfold L4 at h;split at h
   case h_2=>cases h
   rename_i d L;have hpd2:pk.dst=some d/\pk.guard=none/\d<E.h.n/\E.h.fz.contains d=false:=by
    unfold YQ at L;split at L
    case h_2=>cases L
    rename_i d' e1 e2;obtain⟨hb,L⟩:=A7 L;cases L;rw[bAE,Bool.not_eq_true']at hb;exact⟨e1,e2,blE hb.1,hb.2⟩
   obtain⟨e1,e3,h3,h4⟩:=hpd2;cases hgU:grpU E g with
   |true=>
    rw[hgU]at h;simp only[cond_true]at h;rw[List.flatMap_cons];show wpList P ops Q ((g++[pk])++l.flatMap Seg.ops) a w;rw[List.append_assoc];refine pathXW hE g [] s a w _ (λx hx=>by cases hx) (λx hx=>by cases hx) hs h λρ' s1 a1 w1 hkp hs1 O F=>?_
    split at F
    case h_2=>cases F
    rename_i v hpv;have hQS:QS P s1 pk.op (.one (.c .bool 0 v)):=IF (VLe.refl _) O hpv (Sub.refl _);have U:s1.put E.h pk.dst (.one (.c .bool 0 v))=some ⟨AQ s1.t d (.one (.c .bool 0 v)),s1.r⟩:=by
     rw[e1];unfold St.put;simp only[show Nat.blt d E.h.n=true from Nat.ble_eq_true_of_le h3,h4,cond_true,cond_false]
     rfl
    show wpList P ops Q (pk::l.flatMap Seg.ops) a1 w1;unfold wpList;rw[if_pos (by simp[Region.wanted,e3])]
    refine .inl (Uq hQS U hs1 λa2 W hs2=>?_)
    have hs3:AU C E.h.n (St.den ⟨AQ (Df g s1.t) d (.one (.c .bool 0 v)),s1.r⟩) a2 W:=by
     refine hs2.sub rfl (λi _=>Sub.refl _) λi=>?_
     show As ((AQ s1.t d _ i).v s1.r) ((AQ (Df g s1.t) d _ i).v s1.r);by_cases J:i=d
     .subst J
      have e:∀t:Nat->Sl,AQ t i (.one (.c .bool 0 v)) i=.one (.c .bool 0 v):=λt=>by unfold AQ;rw[Nat.beq_refl];rfl
      rw[e,e];exact As.refl _
     .rw[Ba J,Ba J,D9]
      by_cases hn:Au g i=true
      .rw[if_pos hn];exact As.refl _
      .rw[if_neg hn];exact As.dead _
    refine ih ⟨AQ (Df g s1.t) d (.one (.c .bool 0 v)),s1.r⟩ a2 W hs3 F λs4 a4 w4 hk4 h5 h6=>Y s4 a4 w4 ?_ h5 h6
    refine hkp.trans (g2:=λi=>Au (l.flatMap Seg.ops) i&&(Au g i&&decide (i≠d))) (Kp.trans (s1:=⟨AQ (Df g s1.t) d (.one (.c .bool 0 v)),s1.r⟩) (g1:=λi=>Au g i&&decide (i≠d)) (g2:=Au (l.flatMap Seg.ops)) ⟨λi B _=>?_,λ_ _ _=>rfl,Nat.le_refl _⟩ hk4 (λi B=>(bAE _ _▸B).2) λi B=>(bAE _ _▸B).1) (λi B=>?_) λi B=>?_
    .simp only[bAE,decide_eq_true_eq]at B
     show AQ (Df g s1.t) d (.one (.c .bool 0 v)) i=s1.t i;rw[Ba B.2,D9,if_pos B.1]
    .rw[List.flatMap_cons]at B
     have B:Au ((g++[pk])++l.flatMap Seg.ops) i=true:=B;unfold Au at B;rw[List.all_append,List.all_append,bAE,bAE]at B;exact B.1.1
    .rw[List.flatMap_cons]at B
     have B:Au ((g++[pk])++l.flatMap Seg.ops) i=true:=B;unfold Au at B;rw[List.all_append,List.all_append,bAE,bAE]at B;simp only[bAE,decide_eq_true_eq];refine⟨B.2,B.1.1,?_⟩
     rintro rfl
     have:=B.1.2;simp only[List.all_cons,List.all_nil,Bool.and_true,e1,Nat.beq_refl,Bool.not_true]at this;cases this
   |false=>
   rw[hgU]at h;simp only[cond_false]at h;cases hv:grpB E false ops s g pk with
   |none=>rw[hv]at h;cases h
   |some v=>
    rw[hv]at h;simp only[Option.bind_some]at h;rw[List.flatMap_cons];show wpList P ops Q ((g++[pk])++l.flatMap Seg.ops) a w;rw[List.append_assoc];refine pathgW hE g [] s a w _ (λx hx=>by cases hx) (λx hx=>by cases hx) hs hv λρ' s1 a1 w1 hle hsm hs1 O F=>?_
    obtain⟨hl,F⟩:=A7 F;obtain⟨hr1,ht1⟩:=hsm (bqE hl);have F:Oj ρ' s1 pk.op=some v:=F;have hQS:QS P s1 pk.op (.one (.c .bool 0 v)):=IF (VLe.refl _) O F (Sub.refl _);have U:s1.put E.h pk.dst (.one (.c .bool 0 v))=some ⟨AQ s1.t d (.one (.c .bool 0 v)),s1.r⟩:=by
     rw[e1];unfold St.put;simp only[show Nat.blt d E.h.n=true from Nat.ble_eq_true_of_le h3,h4,cond_true,cond_false]
     rfl
    show wpList P ops Q (pk::l.flatMap Seg.ops) a1 w1;unfold wpList;rw[if_pos (by simp[Region.wanted,e3])]
    refine .inl (Uq hQS U hs1 λa2 W hs2=>?_)
    have hs3:AU C E.h.n (St.den ⟨AQ (Df g s.t) d (.one (.c .bool 0 v)),s.r⟩) a2 W:=by
     refine hs2.sub (by show(s.r.map Ac.v).length=(s1.r.map Ac.v).length;rw[hr1]) (λi _=>by show Sub ((s1.r.map Ac.v).getD i .dead) ((s.r.map Ac.v).getD i .dead);rw[hr1];exact Sub.refl _) λi=>?_
     show As ((AQ s1.t d _ i).v s1.r) ((AQ (Df g s.t) d _ i).v s.r);by_cases J:i=d
     .subst J
      have e:∀t:Nat->Sl,AQ t i (.one (.c .bool 0 v)) i=.one (.c .bool 0 v):=λt=>by unfold AQ;rw[Nat.beq_refl];rfl
      rw[e,e];exact As.refl _
     .rw[Ba J,Ba J,D9]
      by_cases hn:Au g i=true
      .rw[if_pos hn,ht1 i hn,hr1];exact As.refl _
      .rw[if_neg hn];exact As.dead _
    refine ih ⟨AQ (Df g s.t) d (.one (.c .bool 0 v)),s.r⟩ a2 W hs3 h λs4 a4 w4 hk4 h5 h6=>Y s4 a4 w4 ?_ h5 h6
    refine Kp.trans (s1:=⟨AQ (Df g s.t) d (.one (.c .bool 0 v)),s.r⟩) (g1:=λi=>Au g i&&decide (i≠d)) (g2:=Au (l.flatMap Seg.ops)) ⟨λi B _=>?_,λ_ _ _=>rfl,Nat.le_refl _⟩ hk4 (λi B=>?_) λi B=>?_
    .simp only[bAE,decide_eq_true_eq]at B
     show AQ (Df g s.t) d (.one (.c .bool 0 v)) i=s.t i;rw[Ba B.2,D9,if_pos B.1]
    .rw[List.flatMap_cons]at B
     have B:Au ((g++[pk])++l.flatMap Seg.ops) i=true:=B;unfold Au at B;rw[List.all_append,List.all_append,bAE,bAE]at B;simp only[bAE,decide_eq_true_eq];refine⟨B.1.1,?_⟩
     rintro rfl
     have:=B.1.2;simp only[List.all_cons,List.all_nil,Bool.and_true,e1,Nat.beq_refl,Bool.not_true]at this;cases this
    .rw[List.flatMap_cons]at B
     have B:Au ((g++[pk])++l.flatMap Seg.ops) i=true:=B;unfold Au at B;rw[List.all_append,bAE]at B;exact B.2
theorem VU{ops:Array Oper}{K:St->Option R}{z:R}{Q:Exit->Act->World->Prop}(l:List Seg)(s:St)(a:Act)(w:World)(A:AU C E.h.n s.den a w)
  (h:tops E ops l s K=some z) (B:∀s' e w',Kp (Au (l.flatMap Seg.ops)) s s'->AU C E.h.n s'.den e w'->K s'=some z->Q .normal e w'):wpList P ops Q (l.flatMap Seg.ops) a w:=Yi hE l 0 s a w A h B
end wp
end Go.Ve

