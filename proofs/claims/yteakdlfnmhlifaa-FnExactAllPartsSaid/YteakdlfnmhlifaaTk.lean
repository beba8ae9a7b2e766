/- The typed machine: operations in order; code. -/
import Derived.Test.YteakdlfnmhlifaaTka
open Nat(beq blt le_trans beq_refl le_refl)
open List(mem_singleton mem_cons all_append flatMap_cons all_cons all_nil)
set_option linter.all false
namespace Go.Ve
variable{a:Act}{ops:Array Oper}{o:Oper}{s s':St}{R:Type}{w:World}
def Abj(o:Oper):Option (TypeId×Operand×Operand):=match o.op,o.dst with
 |.store t x v,none=>some (t,x,v)
 |_,_=>none
inductive LoudK where
 |app (d:Nat) (t:TypeId) (x y:Operand)
 |bs (d:Nat) (t:TypeId) (n:Nat) (ps:Array (Nat×Operand))
 |cw (d:Nat) (f:FuncId) (xs:Array Operand)
def Yp(E:Env)(o:Oper):Option LoudK:=match o.dst,o.op with
 |some d,.buildSlice t n ps=>some (.bs d t n ps)
 |some d,.call c=>match c.callee with
  |.builtin .append=>match c.args.toList,c.argTypes.toList with
   |[x,y],[t,t']=>bif beq t t' then some (.app d t x y)else none
   |_,_=>none
  |.value (.func f)=>match Yq E.W f with
   |some _=>some (.cw d f c.args)
   |none=>none
  |_=>none
 |_,_=>none
def elI(E:Env)(t:TypeId):Option TI:=((E.Θ.look t).bind (·.elem)).bind E.Θ.look
def lrK{R:Type}(E:Env)(s:St)(d:Nat)(A:LR)(K:St->Option R):Option R:=bif E.h.fz.contains d then none else oif A.p A.dec (match(Am A.js s).put E.h (some d) (.one A.y)with
 |some s'=>K s'
 |none=>none)
def Q4{R:Type}(E:Env)(s:St)(o:Oper)(K:St->Option R):Option R:=Ab5 E s o.type o.op λy=>match s.put E.h o.dst y with
 |some s'=>K s'
 |none=>none
def capsF(fz:List Nat)(o:Oper):List Operand:=match o.op,o.dst with
 |.makeFunc _ _ caps,some d=>bif fz.contains d then caps.toList else []
 |_,_=>[]
def seqF(E:Env)(s:St)(o:Oper):Option (Nat×Nat×Bool):=match IV o.op with
 |some (f,xs)=>match Kk E.U f with
  |some e=>match xs.toList[e.S.k]? with
   |some (.tmp z)=>match Cm s z with
    |some id=>some (z,id,e.S.eat)
    |none=>none
   |_=>none
  |none=>none
 |none=>none
def seqB(E:Env)(o:Oper)(z id:Nat)(eat:Bool)(s1 e:St):Bool:=(match o.dst with
 |some d=>!(e.t d).own||(e.t d).stay
 |none=>true)&&(bif eat then !(e.t z).own else H9 (e.t z)&&blt id s1.r.length&&(match s1.r.getD id .dead with
  |.dead=>true
  |_=>false))
def K8(E:Env)(s:St)(o:Oper)(z id:Nat):List Nat:=(List.range E.h.n).filter λy=>!beq y z&&(match o.dst with
 |some d=>!beq y d
 |none=>true)&&(match Cm s y with
 |some j=>beq j id
 |none=>false)
def Ab4{R:Type}(E:Env)(s:St)(o:Oper)(K:St->Option R):Option R:=match seqF E s o with
 |some (z,id,eat)=>match KF [z] s with
  |some s1=>match My E.h (λe=>beq e z) (λz=>z) E.U s1 o with
   |some A=>II A.o λu=>bif seqB E o z id eat s1 ⟨AJ (AJ s1.t A.y (A.u u)) A.d (A.z u),s1.r⟩then
     K ((bif eat then⟨AJ (AJ s1.t A.y (A.u u)) A.d (A.z u),s1.r⟩else St.rerefs id (Cn ((AJ (AJ s1.t A.y (A.u u)) A.d (A.z u)) z)) (K8 E s o z id) (St.backs [(z,id)] ⟨AJ (AJ s1.t A.y (A.u u)) A.d (A.z u),s1.r⟩)).promA [o.dst])else none
   |none=>none
  |none=>none
 |none=>none
def Lq:AG->Option (AG×Nat×Nat)
 |[]=>none
 |a::p=>match Lq p with
  |some (q,i,k)=>some (a::q,i,k)
  |none=>some ([],a.1,a.2)
def JT:∀(p:AG),(Lq p=none->p=[])/\∀q i k,Lq p=some (q,i,k)->p=q++[(i,k)]
 |[]=>⟨λ_=>rfl,λq i k h=>by cases h⟩
 |a::p=>by
  obtain⟨A,u⟩:=JT p;unfold Lq;cases e:Lq p with
  |none=>
   refine⟨λh=>(by cases h),λq i k h=>?_⟩
   cases h;rw[A e];rfl
  |some z=>
   obtain⟨B,i',k'⟩:=z;refine⟨λh=>(by cases h),λq i k h=>?_⟩
   cases h;rw[u _ _ _ e];rfl
def putM(s:St)(id:Nat)(p:AG)(kt e:Ty)(ys:List (kt.T×e.T)):Option St:=match Lq p with
 |none=>some ⟨s.t,s.r.set id (.mp false kt e ys)⟩
 |some (q,i,k)=>match(s.r.getD id .dead).setAt q i k (.c (.mp kt e) 1 ys)with
  |some r0=>some ⟨λx=>(s.t x).kill id (p.map (·.2)) [],s.r.set id r0⟩
  |none=>none
def PV(Θ:Tab)(s:St)(o:Oper):Option St:=match o.op,o.dst with
 |.mapUpdate t m k x,none=>match Θ.look t,s.ev m with
  |some i,some (.one (.rm id p))=>match i.ty,i.mp,Ac s.r id p with
   |.mp kt vt,some _,.mp false k' v' xs=>bif Jc kt&&Jc vt then(match IU (.mp kt vt) ⟨.mp k' v',xs⟩,keyD kt (s.ev k),keyD vt (s.ev x)with
    |some ys,some key,some y=>putM s id p kt vt (WV kt vt key y ys)
    |_,_,_=>none)else none
   |_,_,_=>none
  |_,_=>none
 |_,_=>none
def Ab7{R:Type}(E:Env)(s:St)(o:Oper)(K:St->Option R):Option R:=match AcV E.M E.h s o with
 |some A=>II A.o λu=>match(A.st u).put E.h o.dst (A.y u)with
  |some s'=>K s'
  |none=>none
 |none=>match PV E.Θ s o with
 |some s'=>K s'
 |none=>match seqF E s o with
 |some _=>Ab4 E s o K
 |none=>match Abj o with
 |some (t,x,v)=>match Xf s (E.Θ.look t) (s.ev x) (s.ev v)with
  |some A=>oif A.p A.dec (K A.s)
  |none=>PP s (E.Θ.look t) (s.ev x) (s.ev v) K
 |none=>match Yp E o with
  |some (.app d t x y)=>match AbK s (s.ev x)with
   |some e=>match JR e (elI E t) (e.ev x) (e.ev y)with
    |some A=>lrK E e d A K
    |none=>none
   |none=>none
  |some (.bs d t n ps)=>match AdU (ps.toList.map (·.2)) s with
   |some e=>match tBSM e n (ps.toList.map λp=>(p.1,e.ev p.2)) (elI E t)with
    |some A=>lrK E e d A K
    |none=>Q4 E s o K
   |none=>none
  |some (.cw d f xs)=>match N6 E.W s f (xs.toList.map s.ev)with
   |some A=>II A.o λu=>match A.st u with
    |some s1=>match s1.put E.h (some d) (.one (A.y u))with
     |some s'=>Up (xs.toList.flatMap λx=>argIds (s.ev x)) s' K
     |none=>none
    |none=>none
   |none=>none
  |none=>match capsF E.h.fz o with
   |[]=>Q4 E s o K
   |x::xs=>match Pa (x::xs) s with
    |some e=>Q4 E e o K
    |none=>none
def tone{R:Type}(E:Env)(s:St)(o:Oper)(K:St->Option R):Option R:=match frzO E s o with
 |some s'=>Ab7 E s' o λu=>match frzP E u o with
  |some e=>K e
  |none=>none
 |none=>none
def grpU(E:Env)(g:List Oper):Bool:=g.any λo=>match IV o.op with
 |some (f,_)=>(Kk E.U f).isSome
 |none=>false
def stepX{R:Type}(E:Env)(ρ:Asm)(s:St)(o:Oper)(K:St->Option R):Option R:=match ON ρ s o.op with
 |some v=>match setB E.h s o.dst v with
  |some s'=>K s'
  |none=>none
 |none=>tone E s o K
def W0{R:Type}(_:Env)(_:Array Oper)(_:List Oper)(_:Asm)(_:St)(_:Asm->St->Option R):Option R:=none
def rowS(E:Env)(s:St)(o:Oper):List Seg->Option (Oper×Oper×PtR)
 |.one o2:: .one o3::_=>bif o.guard.isNone&&o2.guard.isNone&&o3.guard.isNone then(Xd E s [] o o2 o3).map λA=>(o2,o3,A)else none
 |_=>none
def Mu{R:Type}(E:Env)(ops:Array Oper):List Seg->Nat->St->(St->Option R)->Option R
 |[],_,s,K=>K s
 |_::l,k+1,s,K=>Mu E ops l k s K
 |.one o::l,0,s,K=>match rowS E s o l with
  |some (_,_,A)=>oif A.p A.dec (Mu E ops l 2 A.s K)
  |none=>match o.guard with
   |none=>tone E s o λs'=>Mu E ops l 0 s' K
   |some _=>none
 |.grp g pk::l,0,s,K=>match Aae E.h pk with
  |some d=>bif grpU E g then W0 E ops g [] s λρ s'=>match ON ρ s' pk.op with
    |some v=>Mu E ops l 0 ⟨AJ (Df g s'.t) d (.one (.c .bool 0 v)),s'.r⟩ K
    |none=>none
   else II (grpB E false ops s g pk) λv=>Mu E ops l 0 ⟨AJ (Df g s.t) d (.one (.c .bool 0 v)),s.r⟩ K
  |none=>none
def tops{R:Type}(E:Env)(ops:Array Oper)(l:List Seg)(s:St)(K:St->Option R):Option R:=Mu E ops l 0 s K
theorem Aaf{E:Env}{C:Ctx}(h:H1 E.h s o.dst=some s')(A:AN C E.h.n s.den a w):AN C E.h.n s'.den (a.put o.dst undef) w/\s'.r=s.r/\∀i,o.dst≠some i->s'.t i=s.t i:=by
 unfold H1 at h;split at h
 .rename_i d hd
  cases u:blt d E.h.n with
  |false=>grind
  |true=>
   rw[u]at h;cases h;have B:=A.skipU (blE u);refine⟨?_,rfl,λi hi=>A5 λe=>hi (by grind)⟩
   have e:(St.den ⟨AJ s.t d (.tup []),s.r⟩)=⟨AD s.den.t d udV,s.den.σ⟩:=by
    have:=B3 (r:=s.r) (t:=s.t) (d:=d) (y:=.tup []);show Ms.mk (λi=>(AJ s.t d (.tup []) i).v s.r) _=_
    rw[this];rfl
   grind
 .rename_i hd
  cases h;refine⟨?_,rfl,λ_ _=>rfl⟩
  rw[hd];trivial
section wp
variable {P:Program}{E:Env}{C:Ctx} (hE:EOK P E)
include hE
theorem WX{R:Type}{s:St}{o:Oper}{K:St->Option R}{z:R}{a:Act}{w:World}{next:Act->World->Prop}{Q:Exit->Act->World->Prop}(B:AN C E.h.n s.den a w)(h:(Ab5 E s o.type o.op λy=>match s.put E.h o.dst y with
   |some s'=>K s'
   |none=>none)=some z) (H:∀s' u w',(∃y,s.put E.h o.dst y=some s')->AN C E.h.n s'.den u w'->K s'=some z->next u w'):o.wp P a w next Q:=by
 obtain⟨_,y,F,A⟩:=Iv hE h;split at A
 case h_2=>grind
 rename_i s' e;exact WZ F e B λu w' J=>H s' u w' ⟨y,e⟩ J A
theorem ZC{K:St->Option R}{z0:R}{next:Act->World->Prop}{Q:Exit->Act->World->Prop}(hs:AN C E.h.n s.den a w)(h:Ab4 E s o K=some z0)
  (hn:∀s' a' w',Kp (λi=>decide (o.dst≠some i)) s s'->AN C E.h.n s'.den a' w'->K s'=some z0->next a' w'):o.wp P a w next Q:=by
 unfold Ab4 at h;split at h
 case h_2=>cases h
 rename_i z id eat hsf;split at h
 case h_2=>cases h
 rename_i s1 hd;split at h
 case h_2=>cases h
 rename_i A ha;cases hu:A.o with
 |none=>rw[hu]at h;cases h
 |some u=>
 rw[hu]at h;simp only[Option.bind_some]at h;obtain⟨B,hs2⟩:∃B:St,B=⟨AJ (AJ s1.t A.y (A.u u)) A.d (A.z u),s1.r⟩:=⟨_,rfl⟩;rw[<-hs2]at h;obtain⟨hsb,h⟩:=A1 h;unfold seqB at hsb;rw[bAE]at hsb;obtain⟨hb1,hb2⟩:=hsb;obtain⟨v,r,hne,hlq,hvl,Z,hyd,hyn,f,xs,e,zk,g1,g2,g3,g4,g5⟩:=N1 hE.U (Al:=λ_ _=>False) (λ_=>.inl rfl) (VLe.refl s1.den.t) ha hu
 rw[<-hs2]at hvl;have g5:=bqE g5;have hz:A.y=z:=g4.symm.trans g5;have hroot:Cm s z=some id:=by
  unfold seqF at hsf;rw[g1]at hsf;simp only[g2,g3]at hsf;split at hsf
  .rename_i id' hr
   cases hsf;exact hr
  .cases hsf
 rw[hz]at hlq hvl hyd hyn;obtain⟨D,ρ,F,T,hp,hT,hval⟩:=Pm hd hs (Below.refl w.heap.size w);have hzv:=hval z id hyn hroot;refine hlq C ρ F a w D T s1.den.t (λ_ _=>rfl) (λ_ _ h=>h.elim) hp next Q λa' w' D' T' hp' hT' htm=>?_
 have hPR:Aa5 [o.dst] ⟨I1 o.dst r (AQ [(z,.put v)] s1.den.t),s1.den.σ⟩ B:=by
  refine⟨by rw[hs2];rfl,λi=>?_,λi hi=>⟨λhoi=>?_,?_⟩⟩
  .rcases hvl i with e|e
   .show An (I1 o.dst r (AQ [(z,.put v)] s1.den.t) i) _
    rw[e];exact An.refl _
   .rw[e.1];exact An.dead _
  .have hi:=mem_singleton.1 hi
   rw[<-hi]at hb1;simp only[Bool.or_eq_true,Bool.not_eq_true']at hb1;rcases hb1 with h|h
   .rw[hoi]at h;cases h
   .exact h
  .rcases hvl i with e|e
   .exact .inl e
   .right
    refine⟨?_,e.2⟩
    have:AK ((B.t i).v B.r)=false:=by
     show AK (B.den.t i)=false;rw[e.1];rfl
    rw[Sl.own_v]at this;exact this
 have W:=Pn hd;obtain⟨hro,hzst,_⟩:=Cf hroot;have hdz:o.dst≠some z:=by rw[Z];intro e;exact hyd (Option.some.inj e).symm
 have hs2t:∀i,i≠z->o.dst≠some i->B.t i=s1.t i:=by
  intro i h1 h2;rw[hs2];show AJ (AJ s1.t A.y (A.u u)) A.d (A.z u) i=_;rw[A5 λe=>h2 (by rw[Z,e]),A5 (by rw[hz];exact h1)]
 have H:B.r=s1.r:=by rw[hs2]
 have hkn:∀s':St,Kp (Au [o]) s' (s'.promA [o.dst]):=λs'=>H0 [o] s'
 have nd:∀i,o.dst≠some i->Au [o] i=true:=by
  intro i hi
  show((match o.dst with
   |some e=>!beq e i
   |none=>true)&&true)=true
  rw[Bool.and_true,Z];show(!beq A.d i)=true;rw[BK λe=>hi (by rw[Z,e])];rfl
 -- what is left of it
 have hTz:∀x b,T' x b->o.dst=some x\/x=z:=λx b hb=>(hT' x b hb).imp (λh=>h) fun⟨b',h⟩=>mem_singleton.1 (hT x b' h)
 cases eat with
 |true=>
  simp only[cond_true]at h hb2;have hcl:=PR.close [o.dst] _ _ _ _ _ hp' λx b hb=>by
   rcases hTz x b hb with h1|h1
   .rw[h1];exact mem_singleton.2 rfl
   .exfalso
    subst h1
    have hown:AK (I1 o.dst r (AQ [(x,.put v)] s1.den.t) x)=false:=by
     have h1:(B.t x).own=false:=by simpa using hb2
     have h2:AK (B.den.t x)=false:=by
      show AK ((B.t x).v B.r)=false;rw[Sl.own_v];exact h1
     rcases hvl x with e|e
     .rw[e];exact h2
     .exact e.2
    exact AC _ _ _ hown (hp'.tm x hyn) b hb
  obtain⟨q1,q2⟩:=J8 _ _ _ hPR;have hs3:AN C E.h.n (B.promA [o.dst]).den a' w':=hcl.sub (by rw[q2]) (λi _=>by rw[q2];exact Sub.refl _) q1
  have k1:=hkn B;refine hn _ _ _ ⟨λi hi J=>?_,λj hl hj=>?_,?_⟩ hs3 h
  .have hi:=of_decide_eq_true hi
   have hiz:i≠z:=by rintro rfl;rw[hzst]at J;cases J
   have Y:=W.t i rfl J;have e2:=hs2t i hiz hi;rw[k1.t i (nd i hi) (by rw[e2,Y];exact J),e2,Y]
  .have Y:=W.r j hl hj
   rw[k1.r j (by rw[H];exact Nat.lt_of_lt_of_le hl W.l) (by rw[H,Y];exact hj),H,Y]
  .exact le_trans W.l (by rw[<-H];exact k1.l)
 |false=>
  simp only[cond_false,bAE]at h hb2;obtain⟨⟨hir,hlt⟩,O⟩:=hb2;have hlt:=blE hlt;have O:s1.r.getD id .dead=.dead:=by
   split at O
   .assumption
   .cases O
  have hSz:I1 o.dst r (AQ [(z,.put v)] s1.den.t) z=B.den.t z:=by
   rcases hvl z with e|e
   .exact e
   .obtain⟨_,h3,⟨s0,sz,nn,f,h4,_⟩,_⟩:=CA hir
    have Y:(B.t z).v B.r=.dead:=e.1;rw[h3,h4]at Y;cases Y
  have hobj:Ld (I1 o.dst r (AQ [(z,.put v)] s1.den.t) z):=by
   rw[hSz];show Ld ((B.t z).v B.r);rw[(CA hir).2.1];exact(CA hir).2.2.1
  obtain⟨F2,T2,hp2,hT2⟩:=PR.backs [(z,id)] _ _ _ _ hp' (by simp) (by simp) λp hpm=>by
   rw[mem_singleton.1 hpm];refine⟨hyn,by show id<(s1.r.map Ab.v).length;rw[List.length_map];exact hlt,?_,?_,hobj⟩
   .show(s1.r.map Ab.v).getD id .dead=.dead
    rw[Ak,O];rfl
   .rw[<-hzv,Array.getD_eq_getD_getElem?,Array.getD_eq_getD_getElem?,htm z hdz]
  have hrd:Cn (AJ (AJ s1.t A.y (A.u u)) A.d (A.z u) z)=Cn (B.t z):=by rw[hs2]
  rw[hrd]at h
  have hRv:(Cn (B.t z)).v=I1 o.dst r (AQ [(z,.put v)] s1.den.t) z:=by
   rw[hSz];exact((CA hir).2.1 B.r).symm
  have hYs:∀y∈K8 E s o z id,y<E.h.n/\y≠z/\o.dst≠some y/\Cm s y=some id:=by
   intro y hy;unfold K8 at hy;rw[List.mem_filter,List.mem_range]at hy;obtain⟨h1,h2⟩:=hy;simp only[bAE,Bool.not_eq_true']at h2;obtain⟨⟨h2,h3⟩,h4⟩:=h2;refine⟨h1,λe=>(by rw[e,beq_refl]at h2;cases h2),λe=>?_,?_⟩
   .rw[e]at h3
    simp[beq_refl]at h3
   .split at h4
    .rename_i j hj
     rw[hj,bqE h4]
    .cases h4
  have hlr:id<s1.den.σ.length:=by show id<(s1.r.map Ab.v).length;rw[List.length_map];exact hlt
  have hset:(s1.den.σ.set id (I1 o.dst r (AQ [(z,.put v)] s1.den.t) z)).getD id .dead=(Cn (B.t z)).v:=by
   rw[hRv,gDE,List.getElem?_set_self hlr];rfl
  have hp3:=PR.reref (id:=id) (v:=(Cn (B.t z)).v) (by show id<(s1.den.σ.set id _).length;simpa using hlr) hset (by rw[hRv];exact hobj) (K8 E s o z id) _ hp2 λy hy=>by
    obtain⟨y1,y2,y3,y4⟩:=hYs y hy;refine⟨y1,?_,λb hb=>?_⟩
    .rw[<-hval y id y1 y4,Array.getD_eq_getD_getElem?,Array.getD_eq_getD_getElem?,htm y y3]
    .obtain⟨k1,_⟩:=hT2 y b hb
     exact(hTz y b k1).elim y3 y2
  have hcl:AN C E.h.n (Go.Ve.promA [o.dst] ⟨Go.Ve.rerefs id (Cn (B.t z)).v (K8 E s o z id) (Go.Ve.backs [(z,id)] ⟨I1 o.dst r (AQ [(z,.put v)] s1.den.t),s1.den.σ⟩).t,(Go.Ve.backs [(z,id)] ⟨I1 o.dst r (AQ [(z,.put v)] s1.den.t),s1.den.σ⟩).σ⟩) a' w':=PR.close [o.dst] _ _ _ _ _ hp3 λx b hb=>by
   obtain⟨k1,k2⟩:=hT2 x b hb;rcases hTz x b k1 with h1|h1
   .rw[h1];exact mem_singleton.2 rfl
   .exact absurd (by rw[h1];simp) k2
  have hP2:=KT [(z,id)] _ _ hPR (by simp) λp hpm=>by
   rw[mem_singleton.1 hpm];exact⟨λhm=>hdz (mem_singleton.1 hm).symm,by rw[H];exact hlt,hSz,hir⟩
  have hbr:(B.backs [(z,id)]).r.getD id .dead=Cn (B.t z):=by
   show(B.r.set id (Cn (B.t z))).getD id .dead=_;rw[H,gDE,List.getElem?_set_self hlt];rfl
  have hP3:=Lx (id:=id) (R:=Cn (B.t z)) (by rw[hRv];exact hobj) (K8 E s o z id) _ _ hP2 hbr λy hy hm=>(hYs y hy).2.2.1 (mem_singleton.1 hm).symm
  obtain⟨q1,q2⟩:=J8 _ _ _ hP3;have hs3:AN C E.h.n ((St.rerefs id (Cn (B.t z)) (K8 E s o z id) (B.backs [(z,id)])).promA [o.dst]).den a' w':=hcl.sub (by rw[q2]) (λi _=>by rw[q2];exact Sub.refl _) q1
  have k1:=hkn (St.rerefs id (Cn (B.t z)) (K8 E s o z id) (B.backs [(z,id)]));obtain⟨b1,b2,b3⟩:=NE [(z,id)] B;obtain⟨c1,c2⟩:=Oj (id:=id) (R:=Cn (B.t z)) (K8 E s o z id) (B.backs [(z,id)]);refine hn _ _ _ ⟨λi hi J=>?_,λj hl hj=>?_,?_⟩ hs3 h
  .have hi:=of_decide_eq_true hi
   have hiz:i≠z:=by rintro rfl;rw[hzst]at J;cases J
   have hiY:i∉K8 E s o z id:=λhm=>by
    have:=(Cf (hYs i hm).2.2.2).2.1;rw[J]at this;cases this
   have Y:=W.t i rfl J;have e2:=hs2t i hiz hi;have e3:=b1 i (λp hp=>by rw[mem_singleton.1 hp];exact λe=>hiz e.symm) (by rw[e2,Y];exact J)
   have e4:=c2 i hiY;rw[k1.t i (nd i hi) (by rw[e4,e3,e2,Y];exact J),e4,e3,e2,Y]
  .have Y:=W.r j hl hj
   have hjid:id≠j:=by rintro rfl;rw[hro]at hj;cases hj
   have e3:(B.backs [(z,id)]).r.getD j .dead=s1.r.getD j .dead:=(b2 j λp hp=>by rw[mem_singleton.1 hp];exact hjid).trans (by rw[H])
   rw[k1.r j (by rw[c1,b3,H];exact Nat.lt_of_lt_of_le hl W.l) (by rw[c1,e3,Y];exact hj),c1,e3,Y]
  .exact le_trans W.l (by rw[<-H,<-b3,<-c1];exact k1.l)
theorem Vz{next:Act->World->Prop}{Q:Exit->Act->World->Prop}(h:PV E.Θ s o=some s')(hs:AN C E.h.n s.den a w)
  (hn:∀a' w',Kp (λi=>decide (o.dst≠some i)) s s'->AN C E.h.n s'.den a' w'->next a' w'):o.wp P a w next Q:=by
 unfold PV at h;split at h
 case h_2=>cases h
 rename_i t m k x ho hd;split at h
 case h_2=>cases h
 rename_i i id p hi hm;split at h
 case h_2=>cases h
 rename_i kt A q k' v' xs hty hmp u;obtain⟨W,B⟩:=A1 h;clear h;rw[bAE]at W;split at B
 case h_2=>cases B
 rename_i ys key y H hkey hy;have H:=HG H;cases H;obtain⟨sk,e1,e2⟩:=Yz (r:=s.r) W.1 hkey;obtain⟨sy,e3,e4⟩:=Yz (r:=s.r) W.2 hy;have Z:=hE.Θ.mp hi;rw[hty]at Z;obtain⟨F,U,m1,m2,m3,m4⟩:=map_v W.1 W.2 Z (by rw[hmp];simp)
 have hlt:id<s.r.length:=by
  rcases Nat.lt_or_ge id s.r.length with h|h
  .exact h
  .unfold Ac at u
   rw[gDE,List.getElem?_eq_none h]at u;simp only[Option.getD_none,CT]at u;cases u
 refine HK (h:=E.h) (K:=λS'=>S'=⟨s.den.t,s.den.σ.set id (upd p (s.den.σ.getD id .dead) (mpV true kt A (WV kt A key y ys)))⟩) ?_ hs λS' a' w' hS Y=>?_
 .unfold vop
  rw[ho];refine⟨hd,?_⟩;unfold PI;rw[Bd hm];show ∃F U l k x,WI P t=some (F,U)/\sub p ((s.r.map Ab.v).getD id .dead)=.mp true l/\_;refine⟨F,U,QI kt A ys,_,_,m1,?_,by rw[Bd e1];exact e2,by rw[Bd e3];exact e4,m3 key,?_,?_⟩
  .rw[AS (by rw[u];simp),u];rfl
  .intro e he
   obtain⟨z,_,rfl⟩:=List.mem_map.1 he;exact m4 key z.1
  .rw[Abc W.1];rfl
 .subst hS
  unfold putM at B;split at B
  .rename_i J
   cases B;obtain rfl:=(JT p).1 J;have u:s.r.getD id .dead=.mp false kt A ys:=u;refine hn a' w' ⟨λi _ _=>rfl,λj hl hj=>?_,by simp⟩ (Y.sub ?_ (λi _=>?_) λi=>?_)
   .show(s.r.set id _).getD j .dead=_
    by_cases e:j=id
    .subst e;rw[u]at hj;cases hj
    .grind
   .show((s.r.set id _).map Ab.v).length=((s.r.map Ab.v).set id _).length
    simp
   .exact CD (r:=s.r) (r0:=.mp false kt A (WV kt A key y ys)) (Sub.refl (mpV true kt A (WV kt A key y ys))) i
   .show An ((s.t i).v s.r) ((s.t i).v (s.r.set id _))
    rw[set_mp u];exact An.refl _
  .rename_i q i k J
   obtain rfl:=(JT p).2 _ _ _ J;split at B
   case h_2=>cases B
   rename_i r0 O;cases B;refine hn a' w' ⟨λi _ hst=>Sl.kill_stay hst _ _ _,λj hl hj=>?_,by simp⟩ (Y.sub ?_ (λi _=>?_) λi=>?_)
   .show(s.r.set id r0).getD j .dead=_
    have:j≠id:=by
     rintro rfl
     rw[Hk O]at hj;cases hj
    simp only[gDE,List.getElem?_set_ne (Ne.symm this)]
   .show((s.r.set id r0).map Ab.v).length=((s.r.map Ab.v).set id _).length
    simp
   .refine CD ?_ i
    have:=Hx q _ _ O;show Sub (upd _ ((s.r.map Ab.v).getD id .dead) _) _;rw[Ak];exact this
   .refine Sl.kill_v (G:=λv=>v) GOK.idf (λid' q' hq=>?_) (s.t i)
    by_cases he:id'=id
    .subst he
     rw[Bz hlt];refine Jb q _ _ O q' ?_;unfold hit at hq;rw[beq_refl,Bool.true_and,Bool.or_eq_false_iff]at hq;exact hq.1
    .rw[A9 he]
theorem ZF{K:St->Option R}{z:R}{next:Act->World->Prop}{Q:Exit->Act->World->Prop}(hs:AN C E.h.n s.den a w)(h:Ab7 E s o K=some z)
  (hn:∀s' J w',Kp (λi=>decide (o.dst≠some i)) s s'->AN C E.h.n s'.den J w'->K s'=some z->next J w'):o.wp P a w next Q:=by
 unfold Ab7 at h;split at h
 .rename_i A hA
  cases hu:A.o with
  |none=>rw[hu]at h;cases h
  |some u=>
   rw[hu]at h;simp only[Option.bind_some]at h;split at h
   case h_2=>cases h
   rename_i s' hp;exact Aak hE.M hA hu hp hs λJ w' hk h'=>hn s' J w' hk h' h
 split at h
 .rename_i s' hs'
  exact Vz hE hs' hs λJ w' hk h'=>hn s' J w' hk h' h
 split at h
 .exact ZC hE hs h hn
 split at h
 .rename_i t x v Z
  unfold Abj at Z;split at Z
  case h_2=>cases Z
  rename_i t' x' v' ho hd;cases Z;split at h
  .rename_i A ha
   by_cases hp:A.p
   .have e:oif A.p A.dec (K A.s)=K A.s:=@if_pos _ A.dec hp _ _ _
    rw[e]at h;exact ZR hE.Θ ho hd ha hp hs λJ w' h'=>hn A.s J w' ((ZS ha).weak λ_ _=>rfl) h' h
   .have e:oif A.p A.dec (K A.s)=none:=@if_neg _ A.dec hp _ _ _
    rw[e]at h;cases h
  rw[Vs]at h;split at h
  case h_2=>cases h
  rename_i s' hs';exact W8 hE.Θ ho hd hs' hs λJ w' h'=>hn s' J w' ((W9 hs').weak λ_ _=>rfl) h' h
 .have quiet:Q4 E s o K=some z->o.wp P a w next Q:=λh=>WX hE hs h λs' J w' ⟨y,hp⟩ h' hK=>hn s' J w' (OH hp) h' hK
  have lr:∀{s0:St}{d:Nat}{A:LR},Kp (λ_=>true) s s0->o.dst=some d->(∀j∈A.js,(s0.r.getD j .dead).isRo=false)->lrK E s0 d A K=some z->
    (∀s',(Am A.js s0).put E.h (some d) (.one A.y)=some s'->E.h.fz.contains d=false->A.p->(∀J w',AN C E.h.n s'.den J w'->next J w')->o.wp P a w next Q)->o.wp P a w next Q:=by
   intro s0 d A k0 H hro h hw;unfold lrK at h;cases hfz:E.h.fz.contains d with
   |true=>rw[hfz]at h;cases h
   |false=>
    rw[hfz]at h;simp only[cond_false]at h;by_cases hp:A.p
    .have h:(match(Am A.js s0).put E.h (some d) (.one A.y)with
      |some s'=>K s'
      |none=>none)=some z:=by
      have e:oif A.p A.dec (match(Am A.js s0).put E.h (some d) (.one A.y)with
       |some s'=>K s'
       |none=>none)=(match(Am A.js s0).put E.h (some d) (.one A.y)with
       |some s'=>K s'
       |none=>none):=@if_pos _ A.dec hp _ _ _
      rw[<-e];exact h
     split at h
     case h_2=>cases h
     rename_i s' F;refine hw s' F hfz hp λJ w' h'=>hn s' J w' ?_ h' h
     have k2:=OH F;rw[H];exact(k0.trans (KD A.js s0 hro) (λ_ _=>rfl) λ_ _=>rfl).trans k2 (λ_ _=>rfl) λi hi=>hi
    .have e:oif A.p A.dec (match(Am A.js s0).put E.h (some d) (.one A.y)with
      |some s'=>K s'
      |none=>none)=none:=@if_neg _ A.dec hp _ _ _
     rw[e]at h;cases h
  split at h
  case h_4=>
   split at h
   .exact quiet h
   .split at h
    case h_2=>cases h
    rename_i s0 hg;exact WX hE (JB _ hg hs) h λs' J w' ⟨y,hp⟩ h' hK=>hn s' J w' ((JC _ hg).trans (OH hp) (λ_ _=>rfl) λi hi=>hi) h' hK
  .rename_i d t x y B
   split at h
   case h_2=>cases h
   rename_i s0 U;split at h
   case h_2=>cases h
   rename_i A ha;unfold Yp at B;split at B
   case h_3=>cases B
   .cases B
   .rename_i d' c H hop
    split at B
    case h_3=>cases B
    .rename_i Y
     split at B
     case h_2=>cases B
     rename_i x' y' t1 t2 hargs hats;obtain⟨hbt,B⟩:=A1 B;cases B;have ho:o.op=.call ⟨.builtin .append,#[x,y],#[t,t]⟩:=by
      rw[hop];obtain⟨cal,args,ats⟩:=c;simp only at Y hargs hats;have e1:args= #[x,y]:=by cases args;simp at hargs;simp[hargs]
      have e2:ats= #[t,t]:=by cases ats;simp at hats;simp[hats,bqE hbt]
      rw[Y,e1,e2]
     exact lr (Nx U) H (VF ha) h λs' F hfz hp hk=>VE hE.Θ ho H hfz ha hp F (Nw U hs) hk
    .split at B<;>cases B
  .rename_i d t n ps B
   have O:o.dst=some d/\o.op=.buildSlice t n ps:=by
    unfold Yp at B;split at B
    .rename_i h1 h2;cases B;exact⟨h1,h2⟩
    .split at B
     .split at B
      .rename_i t1 t2 _ _
       cases hbb:beq t1 t2<;>rw[hbb]at B<;>cases B
      .cases B
     .split at B<;>cases B
     .cases B
    .cases B
   split at h
   case h_2=>cases h
   rename_i s0 U;split at h
   .rename_i A ha
    exact lr (Y0 _ U) O.1 (Acn Jt ha) h λs' F hfz _ hk=>Acm hE.Θ O.2 O.1 hfz ha F (YZ _ U hs) hk
   .exact quiet h
  .rename_i d f xs B
   split at h
   case h_2=>cases h
   rename_i A ha;have O:o.dst=some d/\∃ats,o.op=.call ⟨.value (.func f),xs,ats⟩:=by
    unfold Yp at B;split at B
    .cases B
    .rename_i d' c H hop
     split at B
     .split at B
      .rename_i t1 t2 _ _
       cases hbb:beq t1 t2<;>rw[hbb]at B<;>cases B
      .cases B
     .rename_i f' Y
      split at B
      .cases B
       refine⟨H,c.argTypes,?_⟩;rw[hop];obtain⟨cal,args,ats⟩:=c;simp only at Y;rw[Y]
      .cases B
     .cases B
    .cases B
   obtain⟨H,ats,ho⟩:=O;cases hu:A.o with
   |none=>rw[hu]at h;cases h
   |some u=>
    rw[hu]at h;simp only[Ol]at h
    have h:(match A.st u with
     |some s1=>match s1.put E.h (some d) (.one (A.y u))with
      |some s'=>K s'
      |none=>none
     |none=>none)=some z:=h
    split at h
    case h_2=>cases h
    rename_i s1 Z;split at h
    case h_2=>cases h
    rename_i s' F;refine Xk hE.W ho H ha hu Z F hs λJ w' h'=>hn s' J w' ?_ h' h
    have k2:=OH F;rw[H];exact(Xl ha Z).trans k2 (λ_ _=>rfl) λi hi=>hi
theorem Ab6{K:St->Option R}{z:R}{next:Act->World->Prop}{Q:Exit->Act->World->Prop}(F:AN C E.h.n s.den a w)(h:tone E s o K=some z)
  (H:∀s' e w',Kp (λi=>decide (o.dst≠some i)) s s'->AN C E.h.n s'.den e w'->K s'=some z->next e w'):o.wp P a w next Q:=by
 unfold tone at h;split at h
 case h_2=>cases h
 rename_i s1 U;obtain⟨g1,g2⟩:=Adn U F;refine ZF hE g1 h λs' e w' J u A=>?_
 split at A
 case h_2=>cases A
 rename_i B O;obtain⟨Y,W⟩:=Adm O u;exact H B e w' ((g2.trans J (λ_ _=>rfl) λi hi=>hi).trans W (λ_ hi=>hi) λ_ _=>rfl) Y A
theorem pathgW{z:Bool}{Q:Exit->Act->World->Prop}{rest:List Oper}:∀(g:List Oper) (ρ:Asm) (s:St) (a:Act) (w:World) (K:Asm->St->Option Bool),Hg ops ρ s.den.t->(∀x∈ρ,Au g x.2.1=true/\(s.t x.2.1).stay=true)->AN C E.h.n s.den a w->CG E false ops g ρ s K=some z->
  (∀ρ' s' a' w',s.r.length<=s'.r.length->(s'.r.length=s.r.length->s'.r=s.r/\∀i,Au g i=true->s'.t i=s.t i)->AN C E.h.n s'.den a' w'->Hg ops ρ' s'.den.t->K ρ' s'=some z->wpList P ops Q rest a' w')->wpList P ops Q (g++rest) a w:=by
 intro g
 induction g with
 |nil=>intro ρ s a w K O _ hs h hK;exact hK ρ s a w (le_refl _) (λ_=>⟨rfl,λ_ _=>rfl⟩) hs O h
 |cons o g ih=>
  intro ρ s a w K O hnd hs h hK;unfold CG at h;split at h
  case h_1=>cases h
  rename_i j B hgo;split at h
  case h_1=>cases h
  rename_i dj hdj;rw[List.cons_append]
  have bstay:∀(y:Sl) (r r':List Ab) (v:Bool),y.v r=.c (.bool v)->y.stay=true->y.v r'=.c (.bool v):=by
   intro y r r' v Z hst;cases y with
   |one c=>cases c<;>first|exact Z|cases hst
   |new l=>exact Z
   |agg l=>cases Z
   |tup l=>cases Z
   |pk t l=>cases Z
  -- what is behind this operation
  have cont:∀(u:Asm) (s1:St) (a1:Act) (w1:World),Hg ops u s.den.t->(∀x∈u,Au (o::g) x.2.1=true/\(s.t x.2.1).stay=true)->s.r.length<=s1.r.length->(s1.r.length=s.r.length->s1.r=s.r/\∀i,o.dst≠some i->s1.t i=s.t i)->(∀i,o.dst≠some i->(s.t i).stay=true->s1.t i=s.t i)->AN C E.h.n s1.den a1 w1->CG E false ops g u s1 K=some z->wpList P ops Q (g++rest) a1 w1:=by
   intro u s1 a1 w1 F J hle hsm hst A h1;refine ih u s1 a1 w1 K (λx U=>⟨(F x U).1,?_⟩) (λx U=>?_) A h1 λρ2 s2 a2 w2 g1 g2 g3 g4 g5=>?_
   .obtain⟨n1,n2⟩:=J x U
    show(s1.t x.2.1).v s1.r=_;rw[hst _ (AZ n1).1 n2];exact bstay _ s.r s1.r _ (F x U).2 n2
   .obtain⟨n1,n2⟩:=J x U
    rw[hst _ (AZ n1).1 n2];exact⟨(AZ n1).2,n2⟩
   .refine hK ρ2 s2 a2 w2 (le_trans hle g1) (λhe=>?_) g3 g4 g5
    obtain⟨k1,k2⟩:=g2 (by omega)
    obtain⟨k3,k4⟩:=hsm (by omega)
    refine⟨k1.trans k3,λi hi=>?_⟩
    obtain⟨n1,n2⟩:=AZ hi;rw[k2 i n2,k4 i n1]
  have pass:∀u:Asm,Hg ops u s.den.t->(∀x∈u,Au (o::g) x.2.1=true/\(s.t x.2.1).stay=true)->onS (H1 E.h s o.dst) (λs'=>CG E false ops g u s' K)=some z->wpList P ops Q (g++rest) (a.put o.dst undef) w:=by
   intro u h1 h2 W;cases hp:H1 E.h s o.dst with
   |none=>rw[hp]at W;cases W
   |some s1=>
    rw[hp]at W;obtain⟨q1,q2,q3⟩:=Aaf hp hs;exact cont u s1 _ w h1 h2 (by rw[q2];exact le_refl _) (λ_=>⟨q2,q3⟩) (λi hi _=>q3 i hi) q1 W
  have step:∀u:Asm,Hg ops u s.den.t->(∀x∈u,Au (o::g) x.2.1=true/\(s.t x.2.1).stay=true)->MI E false u s o (λs'=>CG E false ops g u s' K)=some z->o.wp P a w (λa' w'=>wpList P ops Q (g++rest) a' w') Q:=by
   intro u h1 h2 W;unfold MI at W;split at W
   .rename_i v Z
    split at W
    case h_2=>cases W
    rename_i s1 A;have hQS:QS P s o.op (.one (.c .bool 0 v)):=Ka (VLe.refl _) h1 Z (Sub.refl _);have H:s.put E.h o.dst (.one (.c .bool 0 v))=some s1/\s1.r=s.r/\∀i,o.dst≠some i->s1.t i=s.t i:=by
     unfold setB at A;split at A
     case h_2=>cases A
     rename_i d hd;obtain⟨hb,A⟩:=A1 A;rw[bAE,Bool.not_eq_true']at hb;cases A;refine⟨?_,rfl,λi hi=>A5 λe=>hi (by rw[hd,e])⟩
     rw[hd];unfold St.put;simp only[hb.1,hb.2,cond_true,cond_false];rfl
    exact WZ hQS H.1 hs λa' w' hs'=>cont u s1 a' w' h1 h2 (by rw[H.2.1];exact le_refl _) (λ_=>H.2) (λi hi _=>H.2.2 i hi) hs' W
   .obtain⟨_,y,hq,hy'⟩:=Iv hE W
    split at hy'
    case h_2=>cases hy'
    rename_i s' A;have hp:s.put E.h o.dst y=some s':=by
     cases hyo:y.own&& !fzD E.h o.dst with
     |true=>rw[hyo]at A;cases A
     |false=>rw[hyo]at A;exact A
    obtain⟨⟨new,hr⟩,ht,hsame⟩:=Uw hp;refine WZ hq hp hs λa' w' hs'=>cont u s' a' w' h1 h2 (by rw[hr];simp) (λhe=>?_) ht hs' hy'
    have hr1:s'.r=s.r:=by
     have:new=[]:=by
      have:=congrArg List.length hr;rw[List.length_append,he]at this;exact List.length_eq_zero_iff.1 (by omega)
     rw[hr,this,List.append_nil]
    exact⟨hr1,hsame hr1⟩
  have Y:∀(u:Asm) (v:Bool),s.den.t dj=.c (.bool v)->Hg ops u s.den.t->(∀x∈u,Au (o::g) x.2.1=true/\(s.t x.2.1).stay=true)->(v=B->MI E false u s o (λs'=>CG E false ops g u s' K)=some z)->(v=(!B)->onS (H1 E.h s o.dst) (λs'=>CG E false ops g u s' K)=some z)->
    wpList P ops Q (o::(g++rest)) a w:=by
   intro u v Z h1 h2 W h4;have hy:=Adg hs (show gv s.den.t ops j=.c (.bool v) by unfold gv;rw[hdj];exact Z)
   unfold wpList;by_cases e:v=B
   .rw[if_pos (by simp[Region.wanted,hgo,hy,e])]
    exact .inl (step u h1 h2 (W e))
   .rw[if_neg (by simp[Region.wanted,hgo,hy,e])]
    exact pass u h1 h2 (h4 (by cases v<;>cases B<;>simp_all))
  cases hu:isUd (s.t dj)with
  |true=>
   rw[hu]at h;have hy:=Adh hs (show gv s.den.t ops j=udV by unfold gv;rw[hdj];exact Aby hu)
   unfold wpList;rw[if_neg (by simp[Region.wanted,hgo,hy])]
   exact pass ρ O hnd h
  |false=>
   rw[hu]at h;simp only[cond_false]at h;split at h
   .rename_i v Z
    obtain⟨d',hm⟩:=Kl Z;obtain⟨e1,e2⟩:=O _ hm;have e1:some dj=some d':=hdj.symm.trans e1;cases e1;refine Y ρ v e2 O hnd (λe=>?_) λe=>?_
    .subst e;simpa using h
    .subst e;cases B<;>exact h
   .split at h
    case h_2=>cases h
    rename_i dd b hb;have hbv:s.den.t dj=.c (.bool b):=by show(s.t dj).v s.r=_;rw[hb];rfl
    obtain⟨hn,h⟩:=A1 h
    have F:Hg ops ((j,dj,b)::ρ) s.den.t:=λx U=>by
     rcases mem_cons.1 U with rfl|U
     .exact⟨hdj,hbv⟩
     .exact O x U
    have J:∀x∈(j,dj,b)::ρ,Au (o::g) x.2.1=true/\(s.t x.2.1).stay=true:=λx U=>by
     rcases mem_cons.1 U with rfl|U
     .refine⟨hn,?_⟩
      show(s.t dj).stay=true;rw[hb];rfl
     .exact hnd x U
    refine Y ((j,dj,b)::ρ) b hbv F J (λe=>?_) λe=>?_
    .subst e;cases b<;>exact h
    .subst e;cases B<;>exact h
theorem pathXW{z:R}{Q:Exit->Act->World->Prop}{rest:List Oper}:∀(g:List Oper) (ρ:Asm) (s:St) (a:Act) (w:World) (K:Asm->St->Option R),Hg ops ρ s.den.t->(∀x∈ρ,Au g x.2.1=true/\(s.t x.2.1).stay=true)->AN C E.h.n s.den a w->W0 E ops g ρ s K=some z->
  (∀ρ' s' e w',Kp (Au g) s s'->AN C E.h.n s'.den e w'->Hg ops ρ' s'.den.t->K ρ' s'=some z->wpList P ops Q rest e w')->wpList P ops Q (g++rest) a w:=by
 have u:=hE;intro g ρ s a w K _ _ _ h;unfold W0 at h;cases h
theorem ZE{ops:Array Oper}{K:St->Option R}{z:R}{Q:Exit->Act->World->Prop}:∀(l:List Seg) (k:Nat) (s:St) (a:Act) (w:World),AN C E.h.n s.den a w->
  Mu E ops l k s K=some z->(∀s' a' w',Kp (Au ((l.drop k).flatMap Seg.ops)) s s'->AN C E.h.n s'.den a' w'->K s'=some z->Q .normal a' w')->wpList P ops Q ((l.drop k).flatMap Seg.ops) a w:=by
 intro l
 induction l with
 |nil=>intro k s a w hs h W;rw[List.drop_nil]at W⊢;exact W s a w (Kp.refl _ _) hs h
 |cons sg l Z=>
  intro k s a w hs h W;cases k with
  |succ k=>exact Z k s a w hs h W
  |zero=>
  have ih2:=Z
  replace Z:=Z 0
  simp only[List.drop_zero]at Z W⊢;cases sg with
  |one o=>
   unfold Mu at h;split at h
   .rename_i o2 o3 A H
    unfold oif at h;split at h
    case isFalse=>cases h
    rename_i hp;obtain⟨Y,rfl,g1,g2,g3,H⟩:∃Y,l=.one o2:: .one o3::Y/\o.guard=none/\o2.guard=none/\o3.guard=none/\Xd E s [] o o2 o3=some A:=by
     unfold rowS at H;split at H
     case h_2=>cases H
     rename_i p2 p3 Y;obtain⟨hg,H⟩:=A1 H;simp only[bAE,Option.isNone_iff_eq_none]at hg;cases hr:Xd E s [] o p2 p3 with
     |none=>rw[hr]at H;cases H
     |some A0=>
      rw[hr]at H;cases H;exact⟨Y,rfl,hg.1.1,hg.1.2,hg.2,hr⟩
    have w1:∀(o:Oper) (a:Act),o.guard=none->Region.wanted o (yielded ops a.tmps)=true:=λo a hg=>by simp[Region.wanted,hg]
    show wpList P ops Q (o::o2::o3::Y.flatMap Seg.ops) a w;unfold wpList;rw[if_pos (w1 o a g1)];refine .inl (Oper.wp_mono (λa1 w1' h1=>?_) (Xb (Q:=Q) hE.Θ H hp hs (next:=λa' w'=>wpList P ops Q (Y.flatMap Seg.ops) a' w') λa' w' hs'=>ih2 2 A.s a' w' hs' h λs2 a2 U h2 h3 h4=>W s2 a2 U ((Xc H).trans h2 (λi hi=>?_) λi hi=>?_) h3 h4))
    .unfold wpList
     rw[if_pos (w1 o2 a1 g2)];refine .inl (Oper.wp_mono (λa2 w2' h2=>?_) h1)
     unfold wpList;rw[if_pos (w1 o3 a2 g3)];exact .inl h2
    .have hi:Au ([o,o2,o3]++Y.flatMap Seg.ops) i=true:=hi
     unfold Au at hi⊢;rw[all_append,bAE]at hi;exact hi.1
    .have hi:Au ([o,o2,o3]++Y.flatMap Seg.ops) i=true:=hi
     unfold Au at hi⊢;rw[all_append,bAE]at hi;exact hi.2
   split at h
   case h_2=>cases h
   rename_i hg;rw[flatMap_cons];show wpList P ops Q (o::l.flatMap Seg.ops) a w;unfold wpList;rw[if_pos (by simp[Region.wanted,hg])]
   refine .inl (Ab6 hE hs h λs' a' w' hk hs' hy=>Z s' a' w' hs' hy λs2 a2 U h2 h3 h4=>W s2 a2 U (hk.trans h2 (λi hi=>dT ?_) λi hi=>?_) h3 h4)
   .exact(AZ (o:=o) (g:=l.flatMap Seg.ops) hi).1
   .exact(AZ (o:=o) (g:=l.flatMap Seg.ops) hi).2
  |grp g pk=>
   unfold Mu at h;split at h
   case h_2=>cases h
   rename_i d F;have hpd2:pk.dst=some d/\pk.guard=none/\d<E.h.n/\E.h.fz.contains d=false:=by
    unfold Aae at F;split at F
    case h_2=>cases F
    rename_i d' e1 e2;obtain⟨hb,F⟩:=A1 F;cases F;rw[bAE,Bool.not_eq_true']at hb;exact⟨e1,e2,blE hb.1,hb.2⟩
   obtain⟨e1,e3,h3,h4⟩:=hpd2;cases hgU:grpU E g with
   |true=>
    rw[hgU]at h;simp only[cond_true]at h;rw[flatMap_cons];show wpList P ops Q ((g++[pk])++l.flatMap Seg.ops) a w;rw[List.append_assoc];refine pathXW hE g [] s a w _ (λx hx=>by cases hx) (λx hx=>by cases hx) hs h λρ' s1 a1 w1 hkp hs1 J u=>?_
    split at u
    case h_2=>cases u
    rename_i v hpv;have hQS:QS P s1 pk.op (.one (.c .bool 0 v)):=Ka (VLe.refl _) J hpv (Sub.refl _);have O:s1.put E.h pk.dst (.one (.c .bool 0 v))=some ⟨AJ s1.t d (.one (.c .bool 0 v)),s1.r⟩:=by
     rw[e1];unfold St.put;simp only[show blt d E.h.n=true from Nat.ble_eq_true_of_le h3,h4,cond_true,cond_false]
     rfl
    show wpList P ops Q (pk::l.flatMap Seg.ops) a1 w1;unfold wpList;rw[if_pos (by simp[Region.wanted,e3])]
    refine .inl (WZ hQS O hs1 λa2 U hs2=>?_)
    have hs3:AN C E.h.n (St.den ⟨AJ (Df g s1.t) d (.one (.c .bool 0 v)),s1.r⟩) a2 U:=by
     refine hs2.sub rfl (λi _=>Sub.refl _) λi=>?_
     show An ((AJ s1.t d _ i).v s1.r) ((AJ (Df g s1.t) d _ i).v s1.r);by_cases B:i=d
     .subst B
      have e:∀t:Nat->Sl,AJ t i (.one (.c .bool 0 v)) i=.one (.c .bool 0 v):=λt=>by unfold AJ;rw[beq_refl];rfl
      rw[e,e];exact An.refl _
     .rw[A5 B,A5 B,D9]
      by_cases hn:Au g i=true
      .rw[if_pos hn];exact An.refl _
      .rw[if_neg hn];exact An.dead _
    refine Z ⟨AJ (Df g s1.t) d (.one (.c .bool 0 v)),s1.r⟩ a2 U hs3 u λs4 a4 w4 hk4 h5 h6=>W s4 a4 w4 ?_ h5 h6
    refine hkp.trans (g2:=λi=>Au (l.flatMap Seg.ops) i&&(Au g i&&decide (i≠d))) (Kp.trans (s1:=⟨AJ (Df g s1.t) d (.one (.c .bool 0 v)),s1.r⟩) (g1:=λi=>Au g i&&decide (i≠d)) (g2:=Au (l.flatMap Seg.ops)) ⟨λi hi _=>?_,λ_ _ _=>rfl,le_refl _⟩ hk4 (λi hi=>(bAE _ _▸hi).2) λi hi=>(bAE _ _▸hi).1) (λi hi=>?_) λi hi=>?_
    .simp only[bAE,decide_eq_true_eq]at hi
     show AJ (Df g s1.t) d (.one (.c .bool 0 v)) i=s1.t i;rw[A5 hi.2,D9,if_pos hi.1]
    .rw[flatMap_cons]at hi
     have hi:Au ((g++[pk])++l.flatMap Seg.ops) i=true:=hi;unfold Au at hi;rw[all_append,all_append,bAE,bAE]at hi;exact hi.1.1
    .rw[flatMap_cons]at hi
     have hi:Au ((g++[pk])++l.flatMap Seg.ops) i=true:=hi;unfold Au at hi;rw[all_append,all_append,bAE,bAE]at hi;simp only[bAE,decide_eq_true_eq];refine⟨hi.2,hi.1.1,?_⟩
     rintro rfl
     have:=hi.1.2;simp only[all_cons,all_nil,Bool.and_true,e1,beq_refl,Bool.not_true]at this;cases this
   |false=>
   rw[hgU]at h;simp only[cond_false]at h;cases hv:grpB E false ops s g pk with
   |none=>rw[hv]at h;cases h
   |some v=>
    rw[hv]at h;simp only[Option.bind_some]at h;rw[flatMap_cons];show wpList P ops Q ((g++[pk])++l.flatMap Seg.ops) a w;rw[List.append_assoc];refine pathgW hE g [] s a w _ (λx hx=>by cases hx) (λx hx=>by cases hx) hs hv λρ' s1 a1 w1 hle hsm hs1 J u=>?_
    obtain⟨hl,u⟩:=A1 u;obtain⟨hr1,ht1⟩:=hsm (bqE hl);have u:ON ρ' s1 pk.op=some v:=u;have hQS:QS P s1 pk.op (.one (.c .bool 0 v)):=Ka (VLe.refl _) J u (Sub.refl _);have O:s1.put E.h pk.dst (.one (.c .bool 0 v))=some ⟨AJ s1.t d (.one (.c .bool 0 v)),s1.r⟩:=by
     rw[e1];unfold St.put;simp only[show blt d E.h.n=true from Nat.ble_eq_true_of_le h3,h4,cond_true,cond_false]
     rfl
    show wpList P ops Q (pk::l.flatMap Seg.ops) a1 w1;unfold wpList;rw[if_pos (by simp[Region.wanted,e3])]
    refine .inl (WZ hQS O hs1 λa2 U hs2=>?_)
    have hs3:AN C E.h.n (St.den ⟨AJ (Df g s.t) d (.one (.c .bool 0 v)),s.r⟩) a2 U:=by
     refine hs2.sub (by show(s.r.map Ab.v).length=(s1.r.map Ab.v).length;rw[hr1]) (λi _=>by show Sub ((s1.r.map Ab.v).getD i .dead) ((s.r.map Ab.v).getD i .dead);rw[hr1];exact Sub.refl _) λi=>?_
     show An ((AJ s1.t d _ i).v s1.r) ((AJ (Df g s.t) d _ i).v s.r);by_cases B:i=d
     .subst B
      have e:∀t:Nat->Sl,AJ t i (.one (.c .bool 0 v)) i=.one (.c .bool 0 v):=λt=>by unfold AJ;rw[beq_refl];rfl
      rw[e,e];exact An.refl _
     .rw[A5 B,A5 B,D9]
      by_cases hn:Au g i=true
      .rw[if_pos hn,ht1 i hn,hr1];exact An.refl _
      .rw[if_neg hn];exact An.dead _
    refine Z ⟨AJ (Df g s.t) d (.one (.c .bool 0 v)),s.r⟩ a2 U hs3 h λs4 a4 w4 hk4 h5 h6=>W s4 a4 w4 ?_ h5 h6
    refine Kp.trans (s1:=⟨AJ (Df g s.t) d (.one (.c .bool 0 v)),s.r⟩) (g1:=λi=>Au g i&&decide (i≠d)) (g2:=Au (l.flatMap Seg.ops)) ⟨λi hi _=>?_,λ_ _ _=>rfl,le_refl _⟩ hk4 (λi hi=>?_) λi hi=>?_
    .simp only[bAE,decide_eq_true_eq]at hi
     show AJ (Df g s.t) d (.one (.c .bool 0 v)) i=s.t i;rw[A5 hi.2,D9,if_pos hi.1]
    .rw[flatMap_cons]at hi
     have hi:Au ((g++[pk])++l.flatMap Seg.ops) i=true:=hi;unfold Au at hi;rw[all_append,all_append,bAE,bAE]at hi;simp only[bAE,decide_eq_true_eq];refine⟨hi.1.1,?_⟩
     rintro rfl
     have:=hi.1.2;simp only[all_cons,all_nil,Bool.and_true,e1,beq_refl,Bool.not_true]at this;cases this
    .rw[flatMap_cons]at hi
     have hi:Au ((g++[pk])++l.flatMap Seg.ops) i=true:=hi;unfold Au at hi;rw[all_append,bAE]at hi;exact hi.2
theorem W1{ops:Array Oper}{K:St->Option R}{z:R}{Q:Exit->Act->World->Prop}(l:List Seg)(s:St)(a:Act)(w:World)(u:AN C E.h.n s.den a w)
  (h:tops E ops l s K=some z) (A:∀s' e w',Kp (Au (l.flatMap Seg.ops)) s s'->AN C E.h.n s'.den e w'->K s'=some z->Q .normal e w'):wpList P ops Q (l.flatMap Seg.ops) a w:=ZE hE l 0 s a w u h A
end wp
end Go.Ve

