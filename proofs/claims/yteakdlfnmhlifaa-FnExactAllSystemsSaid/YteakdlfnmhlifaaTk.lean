/- The typed machine: operations in order; code. -/
import Derived.Test.YteakdlfnmhlifaaTka
open Nat(beq blt le_trans beq_refl le_refl)
open List(mem_singleton mem_cons all_append flatMap_cons all_cons all_nil)
set_option linter.all false
namespace Go.Ve
variable{a:Act}{ops:Array Oper}{o:Oper}{s s':St}{R:Type}{w:World}
def AaL(o:Oper):Option (TypeId×Operand×Operand):=match o.op,o.dst with
 |.store t x v,none=>some (t,x,v)
 |_,_=>none
inductive LoudK where
 |app (d:Nat) (t:TypeId) (x y:Operand)
 |bs (d:Nat) (t:TypeId) (n:Nat) (ps:Array (Nat×Operand))
 |cw (d:Nat) (f:FuncId) (xs:Array Operand)
def XR(E:Env)(o:Oper):Option LoudK:=match o.dst,o.op with
 |some d,.buildSlice t n ps=>some (.bs d t n ps)
 |some d,.call c=>match c.callee with
  |.builtin .append=>match c.args.toList,c.argTypes.toList with
   |[x,y],[t,t']=>bif beq t t' then some (.app d t x y)else none
   |_,_=>none
  |.value (.func f)=>match XS E.W f with
   |some _=>some (.cw d f c.args)
   |none=>none
  |_=>none
 |_,_=>none
def elI(E:Env)(t:TypeId):Option TI:=((E.Θ.look t).bind (·.elem)).bind E.Θ.look
def lrK{R:Type}(E:Env)(s:St)(d:Nat)(A:LR)(K:St->Option R):Option R:=bif E.h.fz.contains d then none else oif A.p A.dec (match(Aj A.js s).put E.h (some d) (.one A.y)with
 |some s'=>K s'
 |none=>none)
def Qz{R:Type}(E:Env)(s:St)(o:Oper)(K:St->Option R):Option R:=AbB E s o.type o.op λy=>match s.put E.h o.dst y with
 |some s'=>K s'
 |none=>none
def capsF(fz:List Nat)(o:Oper):List Operand:=match o.op,o.dst with
 |.makeFunc _ _ caps,some d=>bif fz.contains d then caps.toList else []
 |_,_=>[]
def seqF(E:Env)(s:St)(o:Oper):Option (Nat×Nat×Bool):=match IP o.op with
 |some (f,xs)=>match Kc E.U f with
  |some e=>match xs.toList[e.S.k]? with
   |some (.tmp z)=>match Ci s z with
    |some id=>some (z,id,e.S.eat)
    |none=>none
   |_=>none
  |none=>none
 |none=>none
def seqB(E:Env)(o:Oper)(z id:Nat)(eat:Bool)(s1 A:St):Bool:=(match o.dst with
 |some d=>!(A.t d).own||(A.t d).stay
 |none=>true)&&(bif eat then !(A.t z).own else HX (A.t z)&&blt id s1.r.length&&(match s1.r.getD id .dead with
  |.dead=>true
  |_=>false))
def KZ(E:Env)(s:St)(o:Oper)(z id:Nat):List Nat:=(List.range E.h.n).filter λy=>!beq y z&&(match o.dst with
 |some d=>!beq y d
 |none=>true)&&(match Ci s y with
 |some j=>beq j id
 |none=>false)
def AbA{R:Type}(E:Env)(s:St)(o:Oper)(K:St->Option R):Option R:=match seqF E s o with
 |some (z,id,eat)=>match Kv [z] s with
  |some s1=>match Mo E.h (λB=>beq B z) (λz=>z) E.U s1 o with
   |some A=>DO A.o λu=>bif seqB E o z id eat s1 ⟨AC (AC s1.t A.y (A.u u)) A.d (A.z u),s1.r⟩then
     K ((bif eat then⟨AC (AC s1.t A.y (A.u u)) A.d (A.z u),s1.r⟩else St.rerefs id (Cj ((AC (AC s1.t A.y (A.u u)) A.d (A.z u)) z)) (KZ E s o z id) (St.backs [(z,id)] ⟨AC (AC s1.t A.y (A.u u)) A.d (A.z u),s1.r⟩)).promA [o.dst])else none
   |none=>none
  |none=>none
 |none=>none
def Py(_:Tab)(_:St)(_:Oper):Option St:=none
def AbC{R:Type}(E:Env)(s:St)(o:Oper)(K:St->Option R):Option R:=match Acp E.M E.h s o with
 |some A=>DO A.o λu=>match(A.st u).put E.h o.dst (A.y u)with
  |some s'=>K s'
  |none=>none
 |none=>match Py E.Θ s o with
 |some s'=>K s'
 |none=>match seqF E s o with
 |some _=>AbA E s o K
 |none=>match AaL o with
 |some (t,x,v)=>match WM s (E.Θ.look t) (s.ev x) (s.ev v)with
  |some A=>oif A.p A.dec (K A.s)
  |none=>Pu s (E.Θ.look t) (s.ev x) (s.ev v) K
 |none=>match XR E o with
  |some (.app d t x y)=>match Aao s (s.ev x)with
   |some B=>match JJ B (elI E t) (B.ev x) (B.ev y)with
    |some A=>lrK E B d A K
    |none=>none
   |none=>none
  |some (.bs d t n ps)=>match Adq (ps.toList.map (·.2)) s with
   |some B=>match tBSM B n (ps.toList.map λp=>(p.1,B.ev p.2)) (elI E t)with
    |some A=>lrK E B d A K
    |none=>Qz E s o K
   |none=>none
  |some (.cw d f xs)=>match NW E.W s f (xs.toList.map s.ev)with
   |some A=>DO A.o λu=>match A.st u with
    |some s1=>match s1.put E.h (some d) (.one (A.y u))with
     |some s'=>QZ (xs.toList.flatMap λx=>argIds (s.ev x)) s' K
     |none=>none
    |none=>none
   |none=>none
  |none=>match capsF E.h.fz o with
   |[]=>Qz E s o K
   |x::xs=>match Nf (x::xs) s with
    |some B=>Qz E B o K
    |none=>none
def QB{R:Type}(E:Env)(s:St)(o:Oper)(K:St->Option R):Option R:=match frzO E s o with
 |some s'=>AbC E s' o λB=>match frzP E B o with
  |some A=>K A
  |none=>none
 |none=>none
def grpU(E:Env)(g:List Oper):Bool:=g.any λo=>match IP o.op with
 |some (f,_)=>(Kc E.U f).isSome
 |none=>false
def stepX{R:Type}(E:Env)(ρ:Asm)(s:St)(o:Oper)(K:St->Option R):Option R:=match Oy ρ s o.op with
 |some v=>match setB E.h s o.dst v with
  |some s'=>K s'
  |none=>none
 |none=>QB E s o K
def Wv{R:Type}(_:Env)(_:Array Oper)(_:List Oper)(_:Asm)(_:St)(_:Asm->St->Option R):Option R:=none
def rowS(E:Env)(s:St)(o:Oper):List Seg->Option (Oper×Oper×PtR)
 |.one o2:: .one o3::_=>bif o.guard.isNone&&o2.guard.isNone&&o3.guard.isNone then(WK E s [] o o2 o3).map λA=>(o2,o3,A)else none
 |_=>none
def Ml{R:Type}(E:Env)(ops:Array Oper):List Seg->Nat->St->(St->Option R)->Option R
 |[],_,s,K=>K s
 |_::l,k+1,s,K=>Ml E ops l k s K
 |.one o::l,0,s,K=>match rowS E s o l with
  |some (_,_,A)=>oif A.p A.dec (Ml E ops l 2 A.s K)
  |none=>match o.guard with
   |none=>QB E s o λs'=>Ml E ops l 0 s' K
   |some _=>none
 |.grp g pk::l,0,s,K=>match ZF E.h pk with
  |some d=>bif grpU E g then Wv E ops g [] s λρ s'=>match Oy ρ s' pk.op with
    |some v=>Ml E ops l 0 ⟨AC (C8 g s'.t) d (.one (.c .bool 0 v)),s'.r⟩ K
    |none=>none
   else DO (grpB E false ops s g pk) λv=>Ml E ops l 0 ⟨AC (C8 g s.t) d (.one (.c .bool 0 v)),s.r⟩ K
  |none=>none
def tops{R:Type}(E:Env)(ops:Array Oper)(l:List Seg)(s:St)(K:St->Option R):Option R:=Ml E ops l 0 s K
theorem ZG{E:Env}{C:Ctx}(h:HN E.h s o.dst=some s')(B:AA C E.h.n s.den a w):AA C E.h.n s'.den (a.put o.dst undef) w/\s'.r=s.r/\∀i,o.dst≠some i->s'.t i=s.t i:=by
 unfold HN at h;split at h
 .rename_i d hd
  cases A:blt d E.h.n with
  |false=>grind
  |true=>
   rw[A]at h;cases h;have F:=B.skipU (blE A);refine⟨?_,rfl,λi hi=>AU λe=>hi (by grind)⟩
   have e:(St.den ⟨AC s.t d (.tup []),s.r⟩)=⟨AD s.den.t d udV,s.den.σ⟩:=by
    have:=BL (r:=s.r) (t:=s.t) (d:=d) (y:=.tup []);show Ms.mk (λi=>(AC s.t d (.tup []) i).v s.r) _=_
    rw[this];rfl
   grind
 .rename_i hd
  cases h;refine⟨?_,rfl,λ_ _=>rfl⟩
  rw[hd];trivial
section wp
variable {P:Program}{E:Env}{C:Ctx} (hE:EOK P E)
include hE
theorem Ws{R:Type}{s:St}{o:Oper}{K:St->Option R}{z:R}{a:Act}{w:World}{next:Act->World->Prop}{Q:Exit->Act->World->Prop}(H:AA C E.h.n s.den a w)(h:(AbB E s o.type o.op λy=>match s.put E.h o.dst y with
   |some s'=>K s'
   |none=>none)=some z) (W:∀s' B w',(∃y,s.put E.h o.dst y=some s')->AA C E.h.n s'.den B w'->K s'=some z->next B w'):o.wp P a w next Q:=by
 obtain⟨_,y,U,F⟩:=Im hE h;split at F
 case h_2=>grind
 rename_i s' A;exact Wu U A H λB w' Y=>W s' B w' ⟨y,A⟩ Y F
theorem Y5{K:St->Option R}{z0:R}{next:Act->World->Prop}{Q:Exit->Act->World->Prop}(hs:AA C E.h.n s.den a w)(h:AbA E s o K=some z0)
  (hn:∀s' a' w',Kp (λi=>decide (o.dst≠some i)) s s'->AA C E.h.n s'.den a' w'->K s'=some z0->next a' w'):o.wp P a w next Q:=by
 unfold AbA at h;split at h
 case h_2=>cases h
 rename_i z id eat hsf;split at h
 case h_2=>cases h
 rename_i s1 hd;split at h
 case h_2=>cases h
 rename_i A ha;cases hu:A.o with
 |none=>rw[hu]at h;cases h
 |some u=>
 rw[hu]at h;simp only[Option.bind_some]at h;obtain⟨B,hs2⟩:∃B:St,B=⟨AC (AC s1.t A.y (A.u u)) A.d (A.z u),s1.r⟩:=⟨_,rfl⟩;rw[<-hs2]at h;obtain⟨hsb,h⟩:=A1 h;unfold seqB at hsb;rw[bAE]at hsb;obtain⟨hb1,hb2⟩:=hsb;obtain⟨v,r,hne,hlq,hvl,hdst,hyd,hyn,f,xs,e,zk,g1,g2,g3,g4,g5⟩:=NR hE.U (Al:=λ_ _=>False) (λ_=>.inl rfl) (VLe.refl s1.den.t) ha hu
 rw[<-hs2]at hvl;have g5:=bqE g5;have hz:A.y=z:=g4.symm.trans g5;have hroot:Ci s z=some id:=by
  unfold seqF at hsf;rw[g1]at hsf;simp only[g2,g3]at hsf;split at hsf
  .rename_i id' hr
   cases hsf;exact hr
  .cases hsf
 rw[hz]at hlq hvl hyd hyn;obtain⟨D,ρ,F,T,hp,hT,hval⟩:=O6 hd hs (Below.refl w.heap.size w);have hzv:=hval z id hyn hroot;refine hlq C ρ F a w D T s1.den.t (λ_ _=>rfl) (λ_ _ h=>h.elim) hp next Q λa' w' D' T' hp' hT' htm=>?_
 have hPR:Aax [o.dst] ⟨IU o.dst r (AL [(z,.put v)] s1.den.t),s1.den.σ⟩ B:=by
  refine⟨by rw[hs2];rfl,λi=>?_,λi hi=>⟨λhoi=>?_,?_⟩⟩
  .rcases hvl i with e|e
   .show Ak (IU o.dst r (AL [(z,.put v)] s1.den.t) i) _
    rw[e];exact Ak.refl _
   .rw[e.1];exact Ak.dead _
  .have hi:=mem_singleton.1 hi
   rw[<-hi]at hb1;simp only[Bool.or_eq_true,Bool.not_eq_true']at hb1;rcases hb1 with h|h
   .rw[hoi]at h;cases h
   .exact h
  .rcases hvl i with e|e
   .exact .inl e
   .right
    refine⟨?_,e.2⟩
    have:AJ ((B.t i).v B.r)=false:=by
     show AJ (B.den.t i)=false;rw[e.1];rfl
    rw[Sl.own_v]at this;exact this
 have Z:=O7 hd;obtain⟨hro,hzst,_⟩:=Cc hroot;have hdz:o.dst≠some z:=by rw[hdst];intro e;exact hyd (Option.some.inj e).symm
 have hs2t:∀i,i≠z->o.dst≠some i->B.t i=s1.t i:=by
  intro i h1 h2;rw[hs2];show AC (AC s1.t A.y (A.u u)) A.d (A.z u) i=_;rw[AU λe=>h2 (by rw[hdst,e]),AU (by rw[hz];exact h1)]
 have H:B.r=s1.r:=by rw[hs2]
 have hkn:∀s':St,Kp (Ao [o]) s' (s'.promA [o.dst]):=λs'=>HM [o] s'
 have nd:∀i,o.dst≠some i->Ao [o] i=true:=by
  intro i hi
  show((match o.dst with
   |some e=>!beq e i
   |none=>true)&&true)=true
  rw[Bool.and_true,hdst];show(!beq A.d i)=true;rw[BB λe=>hi (by rw[hdst,e])];rfl
 -- what is left of it
 have hTz:∀x b,T' x b->o.dst=some x\/x=z:=λx b hb=>(hT' x b hb).imp (λh=>h) fun⟨b',h⟩=>mem_singleton.1 (hT x b' h)
 cases eat with
 |true=>
  simp only[cond_true]at h hb2;have hcl:=PR.close [o.dst] _ _ _ _ _ hp' λx b hb=>by
   rcases hTz x b hb with h1|h1
   .rw[h1];exact mem_singleton.2 rfl
   .exfalso
    subst h1
    have hown:AJ (IU o.dst r (AL [(x,.put v)] s1.den.t) x)=false:=by
     have h1:(B.t x).own=false:=by simpa using hb2
     have h2:AJ (B.den.t x)=false:=by
      show AJ ((B.t x).v B.r)=false;rw[Sl.own_v];exact h1
     rcases hvl x with e|e
     .rw[e];exact h2
     .exact e.2
    exact AB _ _ _ hown (hp'.tm x hyn) b hb
  obtain⟨q1,q2⟩:=J2 _ _ _ hPR;have hs3:AA C E.h.n (B.promA [o.dst]).den a' w':=hcl.sub (by rw[q2]) (λi _=>by rw[q2];exact Sub.refl _) q1
  have k1:=hkn B;refine hn _ _ _ ⟨λi hi W=>?_,λj hl hj=>?_,?_⟩ hs3 h
  .have hi:=of_decide_eq_true hi
   have hiz:i≠z:=by rintro rfl;rw[hzst]at W;cases W
   have e1:=Z.t i rfl W;have e2:=hs2t i hiz hi;rw[k1.t i (nd i hi) (by rw[e2,e1];exact W),e2,e1]
  .have e1:=Z.r j hl hj
   rw[k1.r j (by rw[H];exact Nat.lt_of_lt_of_le hl Z.l) (by rw[H,e1];exact hj),H,e1]
  .exact le_trans Z.l (by rw[<-H];exact k1.l)
 |false=>
  simp only[cond_false,bAE]at h hb2;obtain⟨⟨hir,hlt⟩,Y⟩:=hb2;have hlt:=blE hlt;have Y:s1.r.getD id .dead=.dead:=by
   split at Y
   .assumption
   .cases Y
  have hSz:IU o.dst r (AL [(z,.put v)] s1.den.t) z=B.den.t z:=by
   rcases hvl z with e|e
   .exact e
   .obtain⟨_,h3,⟨s0,sz,nn,f,h4,_⟩,_⟩:=Ct hir
    have e1:(B.t z).v B.r=.dead:=e.1;rw[h3,h4]at e1;cases e1
  have hobj:Cu (IU o.dst r (AL [(z,.put v)] s1.den.t) z):=by
   rw[hSz];show Cu ((B.t z).v B.r);rw[(Ct hir).2.1];exact(Ct hir).2.2.1
  obtain⟨F2,T2,hp2,hT2⟩:=PR.backs [(z,id)] _ _ _ _ hp' (by simp) (by simp) λp hpm=>by
   rw[mem_singleton.1 hpm];refine⟨hyn,by show id<(s1.r.map Aa.v).length;rw[List.length_map];exact hlt,?_,?_,hobj⟩
   .show(s1.r.map Aa.v).getD id .dead=.dead
    rw[Ai,Y];rfl
   .rw[<-hzv,Array.getD_eq_getD_getElem?,Array.getD_eq_getD_getElem?,htm z hdz]
  have hrd:Cj (AC (AC s1.t A.y (A.u u)) A.d (A.z u) z)=Cj (B.t z):=by rw[hs2]
  rw[hrd]at h
  have hRv:(Cj (B.t z)).v=IU o.dst r (AL [(z,.put v)] s1.den.t) z:=by
   rw[hSz];exact((Ct hir).2.1 B.r).symm
  have hYs:∀y∈KZ E s o z id,y<E.h.n/\y≠z/\o.dst≠some y/\Ci s y=some id:=by
   intro y hy;unfold KZ at hy;rw[List.mem_filter,List.mem_range]at hy;obtain⟨h1,h2⟩:=hy;simp only[bAE,Bool.not_eq_true']at h2;obtain⟨⟨h2,h3⟩,h4⟩:=h2;refine⟨h1,λe=>(by rw[e,beq_refl]at h2;cases h2),λe=>?_,?_⟩
   .rw[e]at h3
    simp[beq_refl]at h3
   .split at h4
    .rename_i j hj
     rw[hj,bqE h4]
    .cases h4
  have hlr:id<s1.den.σ.length:=by show id<(s1.r.map Aa.v).length;rw[List.length_map];exact hlt
  have hset:(s1.den.σ.set id (IU o.dst r (AL [(z,.put v)] s1.den.t) z)).getD id .dead=(Cj (B.t z)).v:=by
   rw[hRv,gDE,List.getElem?_set_self hlr];rfl
  have hp3:=PR.reref (id:=id) (v:=(Cj (B.t z)).v) (by show id<(s1.den.σ.set id _).length;simpa using hlr) hset (by rw[hRv];exact hobj) (KZ E s o z id) _ hp2 λy hy=>by
    obtain⟨y1,y2,y3,y4⟩:=hYs y hy;refine⟨y1,?_,λb hb=>?_⟩
    .rw[<-hval y id y1 y4,Array.getD_eq_getD_getElem?,Array.getD_eq_getD_getElem?,htm y y3]
    .obtain⟨k1,_⟩:=hT2 y b hb
     exact(hTz y b k1).elim y3 y2
  have hcl:AA C E.h.n (Go.Ve.promA [o.dst] ⟨Go.Ve.rerefs id (Cj (B.t z)).v (KZ E s o z id) (Go.Ve.backs [(z,id)] ⟨IU o.dst r (AL [(z,.put v)] s1.den.t),s1.den.σ⟩).t,(Go.Ve.backs [(z,id)] ⟨IU o.dst r (AL [(z,.put v)] s1.den.t),s1.den.σ⟩).σ⟩) a' w':=PR.close [o.dst] _ _ _ _ _ hp3 λx b hb=>by
   obtain⟨k1,k2⟩:=hT2 x b hb;rcases hTz x b k1 with h1|h1
   .rw[h1];exact mem_singleton.2 rfl
   .exact absurd (by rw[h1];simp) k2
  have hP2:=KH [(z,id)] _ _ hPR (by simp) λp hpm=>by
   rw[mem_singleton.1 hpm];exact⟨λhm=>hdz (mem_singleton.1 hm).symm,by rw[H];exact hlt,hSz,hir⟩
  have hbr:(B.backs [(z,id)]).r.getD id .dead=Cj (B.t z):=by
   show(B.r.set id (Cj (B.t z))).getD id .dead=_;rw[H,gDE,List.getElem?_set_self hlt];rfl
  have hP3:=Lp (id:=id) (R:=Cj (B.t z)) (by rw[hRv];exact hobj) (KZ E s o z id) _ _ hP2 hbr λy hy hm=>(hYs y hy).2.2.1 (mem_singleton.1 hm).symm
  obtain⟨q1,q2⟩:=J2 _ _ _ hP3;have hs3:AA C E.h.n ((St.rerefs id (Cj (B.t z)) (KZ E s o z id) (B.backs [(z,id)])).promA [o.dst]).den a' w':=hcl.sub (by rw[q2]) (λi _=>by rw[q2];exact Sub.refl _) q1
  have k1:=hkn (St.rerefs id (Cj (B.t z)) (KZ E s o z id) (B.backs [(z,id)]));obtain⟨b1,b2,b3⟩:=Nt [(z,id)] B;obtain⟨c1,c2⟩:=N8 (id:=id) (R:=Cj (B.t z)) (KZ E s o z id) (B.backs [(z,id)]);refine hn _ _ _ ⟨λi hi W=>?_,λj hl hj=>?_,?_⟩ hs3 h
  .have hi:=of_decide_eq_true hi
   have hiz:i≠z:=by rintro rfl;rw[hzst]at W;cases W
   have hiY:i∉KZ E s o z id:=λhm=>by
    have:=(Cc (hYs i hm).2.2.2).2.1;rw[W]at this;cases this
   have e1:=Z.t i rfl W;have e2:=hs2t i hiz hi;have e3:=b1 i (λp hp=>by rw[mem_singleton.1 hp];exact λe=>hiz e.symm) (by rw[e2,e1];exact W)
   have e4:=c2 i hiY;rw[k1.t i (nd i hi) (by rw[e4,e3,e2,e1];exact W),e4,e3,e2,e1]
  .have e1:=Z.r j hl hj
   have hjid:id≠j:=by rintro rfl;rw[hro]at hj;cases hj
   have e3:(B.backs [(z,id)]).r.getD j .dead=s1.r.getD j .dead:=(b2 j λp hp=>by rw[mem_singleton.1 hp];exact hjid).trans (by rw[H])
   rw[k1.r j (by rw[c1,b3,H];exact Nat.lt_of_lt_of_le hl Z.l) (by rw[c1,e3,e1];exact hj),c1,e3,e1]
  .exact le_trans Z.l (by rw[<-H,<-b3,<-c1];exact k1.l)
theorem Va{next:Act->World->Prop}{Q:Exit->Act->World->Prop}(h:Py E.Θ s o=some s')(B:AA C E.h.n s.den a w)
  (F:∀A w',Kp (λi=>decide (o.dst≠some i)) s s'->AA C E.h.n s'.den A w'->next A w'):o.wp P a w next Q:=by
 have H:=hE;unfold Py at h;cases h
theorem Y7{K:St->Option R}{z:R}{next:Act->World->Prop}{Q:Exit->Act->World->Prop}(hs:AA C E.h.n s.den a w)(h:AbC E s o K=some z)
  (hn:∀s' U w',Kp (λi=>decide (o.dst≠some i)) s s'->AA C E.h.n s'.den U w'->K s'=some z->next U w'):o.wp P a w next Q:=by
 unfold AbC at h;split at h
 .rename_i A hA
  cases hu:A.o with
  |none=>rw[hu]at h;cases h
  |some u=>
   rw[hu]at h;simp only[Option.bind_some]at h;split at h
   case h_2=>cases h
   rename_i s' hp;exact ZL hE.M hA hu hp hs λU w' hk h'=>hn s' U w' hk h' h
 split at h
 .rename_i s' hs'
  exact Va hE hs' hs λU w' hk h'=>hn s' U w' hk h' h
 split at h
 .exact Y5 hE hs h hn
 split at h
 .rename_i t x v hst
  unfold AaL at hst;split at hst
  case h_2=>cases hst
  rename_i t' x' v' ho hd;cases hst;split at h
  .rename_i A ha
   by_cases hp:A.p
   .have e:oif A.p A.dec (K A.s)=K A.s:=@if_pos _ A.dec hp _ _ _
    rw[e]at h;exact Zg hE.Θ ho hd ha hp hs λU w' h'=>hn A.s U w' ((Zh ha).weak λ_ _=>rfl) h' h
   .have e:oif A.p A.dec (K A.s)=none:=@if_neg _ A.dec hp _ _ _
    rw[e]at h;cases h
  rw[U3]at h;split at h
  case h_2=>cases h
  rename_i s' hs';exact WF hE.Θ ho hd hs' hs λU w' h'=>hn s' U w' ((WG hs').weak λ_ _=>rfl) h' h
 .have quiet:Qz E s o K=some z->o.wp P a w next Q:=λh=>Ws hE hs h λs' U w' ⟨y,hp⟩ h' hK=>hn s' U w' (Ou hp) h' hK
  have lr:∀{s0:St}{d:Nat}{A:LR},Kp (λ_=>true) s s0->o.dst=some d->(∀j∈A.js,(s0.r.getD j .dead).isRo=false)->lrK E s0 d A K=some z->
    (∀s',(Aj A.js s0).put E.h (some d) (.one A.y)=some s'->E.h.fz.contains d=false->A.p->(∀U w',AA C E.h.n s'.den U w'->next U w')->o.wp P a w next Q)->o.wp P a w next Q:=by
   intro s0 d A k0 H hro h hw;unfold lrK at h;cases hfz:E.h.fz.contains d with
   |true=>rw[hfz]at h;cases h
   |false=>
    rw[hfz]at h;simp only[cond_false]at h;by_cases hp:A.p
    .have h:(match(Aj A.js s0).put E.h (some d) (.one A.y)with
      |some s'=>K s'
      |none=>none)=some z:=by
      have e:oif A.p A.dec (match(Aj A.js s0).put E.h (some d) (.one A.y)with
       |some s'=>K s'
       |none=>none)=(match(Aj A.js s0).put E.h (some d) (.one A.y)with
       |some s'=>K s'
       |none=>none):=@if_pos _ A.dec hp _ _ _
      rw[<-e];exact h
     split at h
     case h_2=>cases h
     rename_i s' F;refine hw s' F hfz hp λU w' h'=>hn s' U w' ?_ h' h
     have k2:=Ou F;rw[H];exact(k0.trans (Ks A.js s0 hro) (λ_ _=>rfl) λ_ _=>rfl).trans k2 (λ_ _=>rfl) λi hi=>hi
    .have e:oif A.p A.dec (match(Aj A.js s0).put E.h (some d) (.one A.y)with
      |some s'=>K s'
      |none=>none)=none:=@if_neg _ A.dec hp _ _ _
     rw[e]at h;cases h
  split at h
  case h_4=>
   split at h
   .exact quiet h
   .split at h
    case h_2=>cases h
    rename_i s0 hg;exact Ws hE (HZ _ hg hs) h λs' U w' ⟨y,hp⟩ h' hK=>hn s' U w' ((Jp _ hg).trans (Ou hp) (λ_ _=>rfl) λi hi=>hi) h' hK
  .rename_i d t x y B
   split at h
   case h_2=>cases h
   rename_i s0 Z;split at h
   case h_2=>cases h
   rename_i A ha;unfold XR at B;split at B
   case h_3=>cases B
   .cases B
   .rename_i d' c H hop
    split at B
    case h_3=>cases B
    .rename_i hcal
     split at B
     case h_2=>cases B
     rename_i x' y' t1 t2 hargs hats;obtain⟨hbt,B⟩:=A1 B;cases B;have ho:o.op=.call ⟨.builtin .append,#[x,y],#[t,t]⟩:=by
      rw[hop];obtain⟨cal,args,ats⟩:=c;simp only at hcal hargs hats;have e1:args= #[x,y]:=by cases args;simp at hargs;simp[hargs]
      have e2:ats= #[t,t]:=by cases ats;simp at hats;simp[hats,bqE hbt]
      rw[hcal,e1,e2]
     exact lr (Nk Z) H (Vh ha) h λs' F hfz hp hk=>Vg hE.Θ ho H hfz ha hp F (Kx Z hs) hk
    .split at B<;>cases B
  .rename_i d t n ps B
   have Y:o.dst=some d/\o.op=.buildSlice t n ps:=by
    unfold XR at B;split at B
    .rename_i h1 h2;cases B;exact⟨h1,h2⟩
    .split at B
     .split at B
      .rename_i t1 t2 _ _
       cases hbb:beq t1 t2<;>rw[hbb]at B<;>cases B
      .cases B
     .split at B<;>cases B
     .cases B
    .cases B
   split at h
   case h_2=>cases h
   rename_i s0 Z;split at h
   .rename_i A ha
    exact lr (Yu _ Z) Y.1 (AbR Jg ha) h λs' F hfz _ hk=>AbQ hE.Θ Y.2 Y.1 hfz ha F (Yt _ Z hs) hk
   .exact quiet h
  .rename_i d f xs B
   split at h
   case h_2=>cases h
   rename_i A ha;have Y:o.dst=some d/\∃ats,o.op=.call ⟨.value (.func f),xs,ats⟩:=by
    unfold XR at B;split at B
    .cases B
    .rename_i d' c H hop
     split at B
     .split at B
      .rename_i t1 t2 _ _
       cases hbb:beq t1 t2<;>rw[hbb]at B<;>cases B
      .cases B
     .rename_i f' hcal
      split at B
      .cases B
       refine⟨H,c.argTypes,?_⟩;rw[hop];obtain⟨cal,args,ats⟩:=c;simp only at hcal;rw[hcal]
      .cases B
     .cases B
    .cases B
   obtain⟨H,ats,ho⟩:=Y;cases hu:A.o with
   |none=>rw[hu]at h;cases h
   |some u=>
    rw[hu]at h;simp only[Oa]at h
    have h:(match A.st u with
     |some s1=>match s1.put E.h (some d) (.one (A.y u))with
      |some s'=>K s'
      |none=>none
     |none=>none)=some z:=h
    split at h
    case h_2=>cases h
    rename_i s1 hst;split at h
    case h_2=>cases h
    rename_i s' F;refine WT hE.W ho H ha hu hst F hs λU w' h'=>hn s' U w' ?_ h' h
    have k2:=Ou F;rw[H];exact(WU ha hst).trans k2 (λ_ _=>rfl) λi hi=>hi
theorem C4{K:St->Option R}{z:R}{next:Act->World->Prop}{Q:Exit->Act->World->Prop}(U:AA C E.h.n s.den a w)(h:QB E s o K=some z)
  (W:∀s' A w',Kp (λi=>decide (o.dst≠some i)) s s'->AA C E.h.n s'.den A w'->K s'=some z->next A w'):o.wp P a w next Q:=by
 unfold QB at h;split at h
 case h_2=>cases h
 rename_i s1 Z;obtain⟨g1,g2⟩:=AcO Z U;refine Y7 hE g1 h λs' A w' Y B F=>?_
 split at F
 case h_2=>cases F
 rename_i H h3;obtain⟨g3,g4⟩:=AcN h3 B;exact W H A w' ((g2.trans Y (λ_ _=>rfl) λi hi=>hi).trans g4 (λ_ hi=>hi) λ_ _=>rfl) g3 F
theorem pathgW{z:Bool}{Q:Exit->Act->World->Prop}{rest:List Oper}:∀(g:List Oper) (ρ:Asm) (s:St) (a:Act) (w:World) (K:Asm->St->Option Bool),DZ ops ρ s.den.t->(∀x∈ρ,Ao g x.2.1=true/\(s.t x.2.1).stay=true)->AA C E.h.n s.den a w->Cy E false ops g ρ s K=some z->
  (∀ρ' s' a' w',s.r.length<=s'.r.length->(s'.r.length=s.r.length->s'.r=s.r/\∀i,Ao g i=true->s'.t i=s.t i)->AA C E.h.n s'.den a' w'->DZ ops ρ' s'.den.t->K ρ' s'=some z->wpList P ops Q rest a' w')->wpList P ops Q (g++rest) a w:=by
 intro g
 induction g with
 |nil=>intro ρ s a w K Y _ hs h hK;exact hK ρ s a w (le_refl _) (λ_=>⟨rfl,λ_ _=>rfl⟩) hs Y h
 |cons o g ih=>
  intro ρ s a w K Y hnd hs h hK;unfold Cy at h;split at h
  case h_1=>cases h
  rename_i j F hgo;split at h
  case h_1=>cases h
  rename_i dj hdj;rw[List.cons_append]
  have bstay:∀(y:Sl) (r r':List Aa) (v:Bool),y.v r=.c (.bool v)->y.stay=true->y.v r'=.c (.bool v):=by
   intro y r r' v hv hst;cases y with
   |one c=>cases c<;>first|exact hv|cases hst
   |new l=>exact hv
   |agg l=>cases hv
   |tup l=>cases hv
   |pk t l=>cases hv
  -- what is behind this operation
  have cont:∀(A:Asm) (s1:St) (a1:Act) (w1:World),DZ ops A s.den.t->(∀x∈A,Ao (o::g) x.2.1=true/\(s.t x.2.1).stay=true)->s.r.length<=s1.r.length->(s1.r.length=s.r.length->s1.r=s.r/\∀i,o.dst≠some i->s1.t i=s.t i)->(∀i,o.dst≠some i->(s.t i).stay=true->s1.t i=s.t i)->AA C E.h.n s1.den a1 w1->Cy E false ops g A s1 K=some z->wpList P ops Q (g++rest) a1 w1:=by
   intro A s1 a1 w1 H W hle hsm hst B h1;refine ih A s1 a1 w1 K (λx Z=>⟨(H x Z).1,?_⟩) (λx Z=>?_) B h1 λρ2 s2 a2 w2 g1 g2 g3 g4 g5=>?_
   .obtain⟨n1,n2⟩:=W x Z
    show(s1.t x.2.1).v s1.r=_;rw[hst _ (AX n1).1 n2];exact bstay _ s.r s1.r _ (H x Z).2 n2
   .obtain⟨n1,n2⟩:=W x Z
    rw[hst _ (AX n1).1 n2];exact⟨(AX n1).2,n2⟩
   .refine hK ρ2 s2 a2 w2 (le_trans hle g1) (λhe=>?_) g3 g4 g5
    obtain⟨k1,k2⟩:=g2 (by omega)
    obtain⟨k3,k4⟩:=hsm (by omega)
    refine⟨k1.trans k3,λi hi=>?_⟩
    obtain⟨n1,n2⟩:=AX hi;rw[k2 i n2,k4 i n1]
  have pass:∀A:Asm,DZ ops A s.den.t->(∀x∈A,Ao (o::g) x.2.1=true/\(s.t x.2.1).stay=true)->onS (HN E.h s o.dst) (λs'=>Cy E false ops g A s' K)=some z->wpList P ops Q (g++rest) (a.put o.dst undef) w:=by
   intro A h1 h2 h3;cases hp:HN E.h s o.dst with
   |none=>rw[hp]at h3;cases h3
   |some s1=>
    rw[hp]at h3;obtain⟨q1,q2,q3⟩:=ZG hp hs;exact cont A s1 _ w h1 h2 (by rw[q2];exact le_refl _) (λ_=>⟨q2,q3⟩) (λi hi _=>q3 i hi) q1 h3
  have step:∀A:Asm,DZ ops A s.den.t->(∀x∈A,Ao (o::g) x.2.1=true/\(s.t x.2.1).stay=true)->MA E false A s o (λs'=>Cy E false ops g A s' K)=some z->o.wp P a w (λa' w'=>wpList P ops Q (g++rest) a' w') Q:=by
   intro A h1 h2 h3;unfold MA at h3;split at h3
   .rename_i v hv
    split at h3
    case h_2=>cases h3
    rename_i s1 B;have hQS:QS P s o.op (.one (.c .bool 0 v)):=J3 (VLe.refl _) h1 hv (Sub.refl _);have U:s.put E.h o.dst (.one (.c .bool 0 v))=some s1/\s1.r=s.r/\∀i,o.dst≠some i->s1.t i=s.t i:=by
     unfold setB at B;split at B
     case h_2=>cases B
     rename_i d hd;obtain⟨hb,B⟩:=A1 B;rw[bAE,Bool.not_eq_true']at hb;cases B;refine⟨?_,rfl,λi hi=>AU λe=>hi (by rw[hd,e])⟩
     rw[hd];unfold St.put;simp only[hb.1,hb.2,cond_true,cond_false];rfl
    exact Wu hQS U.1 hs λa' w' hs'=>cont A s1 a' w' h1 h2 (by rw[U.2.1];exact le_refl _) (λ_=>U.2) (λi hi _=>U.2.2 i hi) hs' h3
   .obtain⟨_,y,hq,hy'⟩:=Im hE h3
    split at hy'
    case h_2=>cases hy'
    rename_i s' B;have hp:s.put E.h o.dst y=some s':=by
     cases hyo:y.own&& !fzD E.h o.dst with
     |true=>rw[hyo]at B;cases B
     |false=>rw[hyo]at B;exact B
    obtain⟨⟨new,hr⟩,ht,hsame⟩:=Q6 hp;refine Wu hq hp hs λa' w' hs'=>cont A s' a' w' h1 h2 (by rw[hr];simp) (λhe=>?_) ht hs' hy'
    have hr1:s'.r=s.r:=by
     have:new=[]:=by
      have:=congrArg List.length hr;rw[List.length_append,he]at this;exact List.length_eq_zero_iff.1 (by omega)
     rw[hr,this,List.append_nil]
    exact⟨hr1,hsame hr1⟩
  have known:∀(A:Asm) (v:Bool),s.den.t dj=.c (.bool v)->DZ ops A s.den.t->(∀x∈A,Ao (o::g) x.2.1=true/\(s.t x.2.1).stay=true)->(v=F->MA E false A s o (λs'=>Cy E false ops g A s' K)=some z)->(v=(!F)->onS (HN E.h s o.dst) (λs'=>Cy E false ops g A s' K)=some z)->
    wpList P ops Q (o::(g++rest)) a w:=by
   intro A v hv h1 h2 h3 h4;have hy:=AcI hs (show gv s.den.t ops j=.c (.bool v) by unfold gv;rw[hdj];exact hv)
   unfold wpList;by_cases e:v=F
   .rw[if_pos (by simp[Region.wanted,hgo,hy,e])]
    exact .inl (step A h1 h2 (h3 e))
   .rw[if_neg (by simp[Region.wanted,hgo,hy,e])]
    exact pass A h1 h2 (h4 (by cases v<;>cases F<;>simp_all))
  cases hu:isUd (s.t dj)with
  |true=>
   rw[hu]at h;have hy:=AcJ hs (show gv s.den.t ops j=udV by unfold gv;rw[hdj];exact Aa5 hu)
   unfold wpList;rw[if_neg (by simp[Region.wanted,hgo,hy])]
   exact pass ρ Y hnd h
  |false=>
   rw[hu]at h;simp only[cond_false]at h;split at h
   .rename_i v hv
    obtain⟨d',hm⟩:=Kd hv;obtain⟨e1,e2⟩:=Y _ hm;have e1:some dj=some d':=hdj.symm.trans e1;cases e1;refine known ρ v e2 Y hnd (λe=>?_) λe=>?_
    .subst e;simpa using h
    .subst e;cases F<;>exact h
   .split at h
    case h_2=>cases h
    rename_i dd b hb;have hbv:s.den.t dj=.c (.bool b):=by show(s.t dj).v s.r=_;rw[hb];rfl
    obtain⟨hn,h⟩:=A1 h
    have H:DZ ops ((j,dj,b)::ρ) s.den.t:=λx Z=>by
     rcases mem_cons.1 Z with rfl|Z
     .exact⟨hdj,hbv⟩
     .exact Y x Z
    have W:∀x∈(j,dj,b)::ρ,Ao (o::g) x.2.1=true/\(s.t x.2.1).stay=true:=λx Z=>by
     rcases mem_cons.1 Z with rfl|Z
     .refine⟨hn,?_⟩
      show(s.t dj).stay=true;rw[hb];rfl
     .exact hnd x Z
    refine known ((j,dj,b)::ρ) b hbv H W (λe=>?_) λe=>?_
    .subst e;cases b<;>exact h
    .subst e;cases F<;>exact h
theorem pathXW{z:R}{Q:Exit->Act->World->Prop}{rest:List Oper}:∀(g:List Oper) (ρ:Asm) (s:St) (a:Act) (w:World) (K:Asm->St->Option R),DZ ops ρ s.den.t->(∀x∈ρ,Ao g x.2.1=true/\(s.t x.2.1).stay=true)->AA C E.h.n s.den a w->Wv E ops g ρ s K=some z->
  (∀ρ' s' A w',Kp (Ao g) s s'->AA C E.h.n s'.den A w'->DZ ops ρ' s'.den.t->K ρ' s'=some z->wpList P ops Q rest A w')->wpList P ops Q (g++rest) a w:=by
 have B:=hE;intro g ρ s a w K _ _ _ h;unfold Wv at h;cases h
theorem Y6{ops:Array Oper}{K:St->Option R}{z:R}{Q:Exit->Act->World->Prop}:∀(l:List Seg) (k:Nat) (s:St) (a:Act) (w:World),AA C E.h.n s.den a w->
  Ml E ops l k s K=some z->(∀s' a' w',Kp (Ao ((l.drop k).flatMap Seg.ops)) s s'->AA C E.h.n s'.den a' w'->K s'=some z->Q .normal a' w')->wpList P ops Q ((l.drop k).flatMap Seg.ops) a w:=by
 intro l
 induction l with
 |nil=>intro k s a w hs h hK;rw[List.drop_nil]at hK⊢;exact hK s a w (Kp.refl _ _) hs h
 |cons sg l ih=>
  intro k s a w hs h hK;cases k with
  |succ k=>exact ih k s a w hs h hK
  |zero=>
  have ih2:=ih
  replace ih:=ih 0
  simp only[List.drop_zero]at ih hK⊢;cases sg with
  |one o=>
   unfold Ml at h;split at h
   .rename_i o2 o3 A U
    unfold oif at h;split at h
    case isFalse=>cases h
    rename_i hp;obtain⟨l',rfl,g1,g2,g3,U⟩:∃l',l=.one o2:: .one o3::l'/\o.guard=none/\o2.guard=none/\o3.guard=none/\WK E s [] o o2 o3=some A:=by
     unfold rowS at U;split at U
     case h_2=>cases U
     rename_i p2 p3 l';obtain⟨hg,U⟩:=A1 U;simp only[bAE,Option.isNone_iff_eq_none]at hg;cases hr:WK E s [] o p2 p3 with
     |none=>rw[hr]at U;cases U
     |some A0=>
      rw[hr]at U;cases U;exact⟨l',rfl,hg.1.1,hg.1.2,hg.2,hr⟩
    have w1:∀(o:Oper) (a:Act),o.guard=none->Region.wanted o (yielded ops a.tmps)=true:=λo a hg=>by simp[Region.wanted,hg]
    show wpList P ops Q (o::o2::o3::l'.flatMap Seg.ops) a w;unfold wpList;rw[if_pos (w1 o a g1)];refine .inl (Oper.wp_mono (λa1 w1' h1=>?_) (WI (Q:=Q) hE.Θ U hp hs (next:=λa' w'=>wpList P ops Q (l'.flatMap Seg.ops) a' w') λa' w' hs'=>ih2 2 A.s a' w' hs' h λs2 a2 Z h2 h3 h4=>hK s2 a2 Z ((WJ U).trans h2 (λi hi=>?_) λi hi=>?_) h3 h4))
    .unfold wpList
     rw[if_pos (w1 o2 a1 g2)];refine .inl (Oper.wp_mono (λa2 w2' h2=>?_) h1)
     unfold wpList;rw[if_pos (w1 o3 a2 g3)];exact .inl h2
    .have hi:Ao ([o,o2,o3]++l'.flatMap Seg.ops) i=true:=hi
     unfold Ao at hi⊢;rw[all_append,bAE]at hi;exact hi.1
    .have hi:Ao ([o,o2,o3]++l'.flatMap Seg.ops) i=true:=hi
     unfold Ao at hi⊢;rw[all_append,bAE]at hi;exact hi.2
   split at h
   case h_2=>cases h
   rename_i hg;rw[flatMap_cons];show wpList P ops Q (o::l.flatMap Seg.ops) a w;unfold wpList;rw[if_pos (by simp[Region.wanted,hg])]
   refine .inl (C4 hE hs h λs' a' w' hk hs' hy=>ih s' a' w' hs' hy λs2 a2 Z h2 h3 h4=>hK s2 a2 Z (hk.trans h2 (λi hi=>dT ?_) λi hi=>?_) h3 h4)
   .exact(AX (o:=o) (g:=l.flatMap Seg.ops) hi).1
   .exact(AX (o:=o) (g:=l.flatMap Seg.ops) hi).2
  |grp g pk=>
   unfold Ml at h;split at h
   case h_2=>cases h
   rename_i d H;have hpd2:pk.dst=some d/\pk.guard=none/\d<E.h.n/\E.h.fz.contains d=false:=by
    unfold ZF at H;split at H
    case h_2=>cases H
    rename_i d' e1 e2;obtain⟨hb,H⟩:=A1 H;cases H;rw[bAE,Bool.not_eq_true']at hb;exact⟨e1,e2,blE hb.1,hb.2⟩
   obtain⟨e1,e3,h3,h4⟩:=hpd2;cases hgU:grpU E g with
   |true=>
    rw[hgU]at h;simp only[cond_true]at h;rw[flatMap_cons];show wpList P ops Q ((g++[pk])++l.flatMap Seg.ops) a w;rw[List.append_assoc];refine pathXW hE g [] s a w _ (λx hx=>by cases hx) (λx hx=>by cases hx) hs h λρ' s1 a1 w1 hkp hs1 W B=>?_
    split at B
    case h_2=>cases B
    rename_i v hpv;have hQS:QS P s1 pk.op (.one (.c .bool 0 v)):=J3 (VLe.refl _) W hpv (Sub.refl _);have Y:s1.put E.h pk.dst (.one (.c .bool 0 v))=some ⟨AC s1.t d (.one (.c .bool 0 v)),s1.r⟩:=by
     rw[e1];unfold St.put;simp only[show blt d E.h.n=true from Nat.ble_eq_true_of_le h3,h4,cond_true,cond_false]
     rfl
    show wpList P ops Q (pk::l.flatMap Seg.ops) a1 w1;unfold wpList;rw[if_pos (by simp[Region.wanted,e3])]
    refine .inl (Wu hQS Y hs1 λa2 Z hs2=>?_)
    have hs3:AA C E.h.n (St.den ⟨AC (C8 g s1.t) d (.one (.c .bool 0 v)),s1.r⟩) a2 Z:=by
     refine hs2.sub rfl (λi _=>Sub.refl _) λi=>?_
     show Ak ((AC s1.t d _ i).v s1.r) ((AC (C8 g s1.t) d _ i).v s1.r);by_cases F:i=d
     .subst F
      have e:∀t:Nat->Sl,AC t i (.one (.c .bool 0 v)) i=.one (.c .bool 0 v):=λt=>by unfold AC;rw[beq_refl];rfl
      rw[e,e];exact Ak.refl _
     .rw[AU F,AU F,DU]
      by_cases hn:Ao g i=true
      .rw[if_pos hn];exact Ak.refl _
      .rw[if_neg hn];exact Ak.dead _
    refine ih ⟨AC (C8 g s1.t) d (.one (.c .bool 0 v)),s1.r⟩ a2 Z hs3 B λs4 a4 w4 hk4 h5 h6=>hK s4 a4 w4 ?_ h5 h6
    refine hkp.trans (g2:=λi=>Ao (l.flatMap Seg.ops) i&&(Ao g i&&decide (i≠d))) (Kp.trans (s1:=⟨AC (C8 g s1.t) d (.one (.c .bool 0 v)),s1.r⟩) (g1:=λi=>Ao g i&&decide (i≠d)) (g2:=Ao (l.flatMap Seg.ops)) ⟨λi hi _=>?_,λ_ _ _=>rfl,le_refl _⟩ hk4 (λi hi=>(bAE _ _▸hi).2) λi hi=>(bAE _ _▸hi).1) (λi hi=>?_) λi hi=>?_
    .simp only[bAE,decide_eq_true_eq]at hi
     show AC (C8 g s1.t) d (.one (.c .bool 0 v)) i=s1.t i;rw[AU hi.2,DU,if_pos hi.1]
    .rw[flatMap_cons]at hi
     have hi:Ao ((g++[pk])++l.flatMap Seg.ops) i=true:=hi;unfold Ao at hi;rw[all_append,all_append,bAE,bAE]at hi;exact hi.1.1
    .rw[flatMap_cons]at hi
     have hi:Ao ((g++[pk])++l.flatMap Seg.ops) i=true:=hi;unfold Ao at hi;rw[all_append,all_append,bAE,bAE]at hi;simp only[bAE,decide_eq_true_eq];refine⟨hi.2,hi.1.1,?_⟩
     rintro rfl
     have:=hi.1.2;simp only[all_cons,all_nil,Bool.and_true,e1,beq_refl,Bool.not_true]at this;cases this
   |false=>
   rw[hgU]at h;simp only[cond_false]at h;cases hv:grpB E false ops s g pk with
   |none=>rw[hv]at h;cases h
   |some v=>
    rw[hv]at h;simp only[Option.bind_some]at h;rw[flatMap_cons];show wpList P ops Q ((g++[pk])++l.flatMap Seg.ops) a w;rw[List.append_assoc];refine pathgW hE g [] s a w _ (λx hx=>by cases hx) (λx hx=>by cases hx) hs hv λρ' s1 a1 w1 hle hsm hs1 W B=>?_
    obtain⟨hl,B⟩:=A1 B;obtain⟨hr1,ht1⟩:=hsm (bqE hl);have B:Oy ρ' s1 pk.op=some v:=B;have hQS:QS P s1 pk.op (.one (.c .bool 0 v)):=J3 (VLe.refl _) W B (Sub.refl _);have Y:s1.put E.h pk.dst (.one (.c .bool 0 v))=some ⟨AC s1.t d (.one (.c .bool 0 v)),s1.r⟩:=by
     rw[e1];unfold St.put;simp only[show blt d E.h.n=true from Nat.ble_eq_true_of_le h3,h4,cond_true,cond_false]
     rfl
    show wpList P ops Q (pk::l.flatMap Seg.ops) a1 w1;unfold wpList;rw[if_pos (by simp[Region.wanted,e3])]
    refine .inl (Wu hQS Y hs1 λa2 Z hs2=>?_)
    have hs3:AA C E.h.n (St.den ⟨AC (C8 g s.t) d (.one (.c .bool 0 v)),s.r⟩) a2 Z:=by
     refine hs2.sub (by show(s.r.map Aa.v).length=(s1.r.map Aa.v).length;rw[hr1]) (λi _=>by show Sub ((s1.r.map Aa.v).getD i .dead) ((s.r.map Aa.v).getD i .dead);rw[hr1];exact Sub.refl _) λi=>?_
     show Ak ((AC s1.t d _ i).v s1.r) ((AC (C8 g s.t) d _ i).v s.r);by_cases F:i=d
     .subst F
      have e:∀t:Nat->Sl,AC t i (.one (.c .bool 0 v)) i=.one (.c .bool 0 v):=λt=>by unfold AC;rw[beq_refl];rfl
      rw[e,e];exact Ak.refl _
     .rw[AU F,AU F,DU]
      by_cases hn:Ao g i=true
      .rw[if_pos hn,ht1 i hn,hr1];exact Ak.refl _
      .rw[if_neg hn];exact Ak.dead _
    refine ih ⟨AC (C8 g s.t) d (.one (.c .bool 0 v)),s.r⟩ a2 Z hs3 h λs4 a4 w4 hk4 h5 h6=>hK s4 a4 w4 ?_ h5 h6
    refine Kp.trans (s1:=⟨AC (C8 g s.t) d (.one (.c .bool 0 v)),s.r⟩) (g1:=λi=>Ao g i&&decide (i≠d)) (g2:=Ao (l.flatMap Seg.ops)) ⟨λi hi _=>?_,λ_ _ _=>rfl,le_refl _⟩ hk4 (λi hi=>?_) λi hi=>?_
    .simp only[bAE,decide_eq_true_eq]at hi
     show AC (C8 g s.t) d (.one (.c .bool 0 v)) i=s.t i;rw[AU hi.2,DU,if_pos hi.1]
    .rw[flatMap_cons]at hi
     have hi:Ao ((g++[pk])++l.flatMap Seg.ops) i=true:=hi;unfold Ao at hi;rw[all_append,all_append,bAE,bAE]at hi;simp only[bAE,decide_eq_true_eq];refine⟨hi.1.1,?_⟩
     rintro rfl
     have:=hi.1.2;simp only[all_cons,all_nil,Bool.and_true,e1,beq_refl,Bool.not_true]at this;cases this
    .rw[flatMap_cons]at hi
     have hi:Ao ((g++[pk])++l.flatMap Seg.ops) i=true:=hi;unfold Ao at hi;rw[all_append,bAE]at hi;exact hi.2
theorem Wx{ops:Array Oper}{K:St->Option R}{z:R}{Q:Exit->Act->World->Prop}(l:List Seg)(s:St)(a:Act)(w:World)(B:AA C E.h.n s.den a w)
  (h:tops E ops l s K=some z) (F:∀s' A w',Kp (Ao (l.flatMap Seg.ops)) s s'->AA C E.h.n s'.den A w'->K s'=some z->Q .normal A w'):wpList P ops Q (l.flatMap Seg.ops) a w:=Y6 hE l 0 s a w B h F
end wp
end Go.Ve

